/- Chapter 9: what the document prints of one spec. -/
import Derived.Test.YtfglenbfbcckjaaDoorWlaw9
import Derived.Test.YtfglenbfbcckjaaDoorX6
set_option linter.unusedSimpArgs false
set_option linter.unusedVariables false
set_option maxRecDepth 20000
namespace Go.Proofs.YtfglenbfbcckjaaDoor
open Go.Sp
attribute [local irreducible] Go.Sp.Pr Go.Sp.Ws Go.Sp.Wl Go.Sp.Wq Go.Sp.Rds Go.Sp.Src
theorem rprintspecs {σ : Stb} {A : Option Addr} {cc : Nat} {x : S3} (hS : Sl σ 3 esp (.slice A 1 cc) [x]) (hx : x.1 = 2 ∨ x.1 = 3) (h1 : x.2.1 ≤ 9223372036854775807) (h2 : x.2.2 ≤ 9223372036854775807) :
    SpV Tryd.prog 10 [.slice A 1 cc] σ (st (bytesEq ++ shown x)) := by
  refine spv Tryd.func10 rfl (by kernel_rfl) rfl fun F => ?_
  obtain ⟨k, a, b⟩ := x
  simp only at hx h1 h2
  have hla := dec_len 20 a (by omega) (by omega)
  have hlb := dec_len 20 b (by omega) (by omega)
  refine t_seq ?_
  refine t_region ?_
  refine l_p rfl rfl (p_assign rfl) ?_
  refine l_nil ?_
  refine t_seq ?_
  refine t_region ?_
  refine l_p rfl rfl (p_assign rfl) ?_
  refine l_nil ?_
  refine t_seq ?_
  refine t_seq ?_
  refine t_region ?_
  refine l_p rfl rfl (p_move rfl) ?_
  refine l_p rfl rfl (p_lensl (by exact rfl)) ?_
  refine l_p rfl rfl (p_move rfl) ?_
  refine l_nil ?_
  refine t_block ?_
  refine t_loop (ι := Bool × List Res) { E := fun i => [(6, .slice A 1 cc), (7, i64 1), (8, i64 (if i.1 then 1 else 0)), (3, st (if i.1 then bytesEq ++ shown (k, a, b) else bytesEq))], S := fun _ => σ, M := fun i => i.2 ++ F, Φ := fun _ => True } (fun i => if i.1 then 0 else 1) (false, [])
    (by exact ⟨rfl, rfl, rfl, rfl, trivial⟩) trivial (fun w hI => hI) ?_
  rintro ⟨d, R⟩ -
  cases d with
  | true =>
    dsimp only
    refine t_seq ?_
    refine t_region ?_
    refine l_p rfl rfl (p_lt rfl rfl) ?_
    refine l_nil ?_
    refine t_seq ?_
    refine t_iff rfl ?_
    refine t_exit rfl ?_
    refine t_seq ?_
    refine t_region ?_
    refine l_p rfl rfl (p_move rfl) ?_
    refine l_p rfl rfl (p_assign rfl) ?_
    refine l_nil ?_
    exact t_ret1 rfl rfl fun w hI => ⟨rfl, hI.dropN R⟩
  | false =>
    simp only [Bool.false_eq_true, if_false]
    have hr0 : ∀ L, Rds σ L (ixp (.slice A 1 cc) 3 0) (esp (k, a, b)) := fun L => Rds.ix hS (k := 0) (by simp)
    refine t_seq ?_
    refine t_region ?_
    refine l_p rfl rfl (p_lt rfl rfl) ?_
    refine l_nil ?_
    refine t_seq ?_
    refine t_ift rfl ?_
    refine t_skip ?_
    refine t_seq ?_
    refine t_block ?_
    refine t_seq ?_
    refine t_region ?_
    refine l_p rfl rfl (p_move rfl) ?_
    refine l_p rfl rfl (p_ix 0 rfl rfl rfl (by omega) (hr0 _)) ?_
    refine l_p rfl rfl (p_ldn (by exact rfl) (hr0 _) (by exact rfl) (by exact rfl)) ?_
    have hbe : bytesEq.length = 6 := rfl
    rcases hx with rfl | rfl
    · refine l_alloc (by exact rfl) (by exact rfl) (by exact rfl) ?_; intro _
      refine l_p rfl rfl (p_assign rfl) ?_
      refine l_sti rfl rfl rfl rfl rfl (by exact rfl) (by exact rfl) (by exact rfl) (by exact ⟨rfl, rfl⟩) ?_
      refine l_nil ?_
      refine t_seq ?_
      refine t_seq ?_
      refine t_region ?_
      refine l_p rfl rfl (p_move rfl) ?_
      refine l_p rfl rfl (p_gt rfl rfl) ?_
      refine l_nil ?_
      refine t_iff rfl ?_
      refine t_skip ?_
      refine t_seq ?_
      refine t_region ?_
      refine l_p rfl rfl (p_fa (by exact rfl) Rds.bxi) ?_
      refine l_p rfl rfl (p_ld1 (by exact rfl) Rds.bxi) ?_
      refine l_nil ?_
      refine t_block ?_
      refine t_seq ?_
      refine t_region ?_
      refine l_p rfl rfl (p_eq rfl rfl) ?_
      refine l_p rfl rfl (p_assign rfl) ?_
      refine l_nil ?_
      refine t_iff rfl ?_
      refine t_seq ?_
      refine t_region ?_
      refine l_p rfl rfl (p_eq rfl rfl) ?_
      refine l_p rfl rfl (p_assign rfl) ?_
      refine l_nil ?_
      refine t_ift rfl ?_
      refine t_draw (by kernel_rfl) ?_
      refine q_p rfl rfl (p_move rfl) ?_
      refine q_p rfl rfl (p_fa (by exact rfl) Rds.bxi) ?_
      refine q_p rfl rfl (p_ld1 (by exact rfl) (Rds.fld Rds.bxi (by exact rfl))) ?_
      refine q_callv rfl rfl rfl (rprint σ a h1) ?_
      refine q_p rfl rfl (p_cat rfl rfl (by simp only [List.length_cons, List.length_nil, List.length_append]; omega)) ?_
      refine q_p rfl rfl (p_fa (by exact rfl) Rds.bxi) ?_
      refine q_p rfl rfl (p_ld1 (by exact rfl) (Rds.fld Rds.bxi (by exact rfl))) ?_
      refine q_callv rfl rfl rfl (rprint σ b h2) ?_
      refine q_p rfl rfl (p_cat rfl rfl (by simp only [List.length_cons, List.length_nil, List.length_append]; omega)) ?_
      refine q_p rfl rfl (p_cat rfl rfl (by simp only [List.length_cons, List.length_nil, List.length_append]; omega)) ?_
      refine q_p rfl rfl (p_assign rfl) ?_
      refine q_nil ?_
      refine t_blk ?_
      refine t_blk ?_
      refine t_region ?_
      refine l_p rfl rfl (p_add rfl rfl (by omega)) ?_
      refine l_p rfl rfl (p_move rfl) ?_
      refine l_nil ?_
      exact t_round (true, _ :: R) ⟨rfl, rfl, rfl, rfl, trivial⟩ trivial (by simp) (fun w hI => hI)
    · refine l_alloc (by exact rfl) (by exact rfl) (by exact rfl) ?_; intro _
      refine l_p rfl rfl (p_assign rfl) ?_
      refine l_sti rfl rfl rfl rfl rfl (by exact rfl) (by exact rfl) (by exact rfl) (by exact ⟨rfl, rfl⟩) ?_
      refine l_nil ?_
      refine t_seq ?_
      refine t_seq ?_
      refine t_region ?_
      refine l_p rfl rfl (p_move rfl) ?_
      refine l_p rfl rfl (p_gt rfl rfl) ?_
      refine l_nil ?_
      refine t_iff rfl ?_
      refine t_skip ?_
      refine t_seq ?_
      refine t_region ?_
      refine l_p rfl rfl (p_fa (by exact rfl) Rds.bxi) ?_
      refine l_p rfl rfl (p_ld1 (by exact rfl) Rds.bxi) ?_
      refine l_nil ?_
      refine t_block ?_
      refine t_seq ?_
      refine t_region ?_
      refine l_p rfl rfl (p_eq rfl rfl) ?_
      refine l_p rfl rfl (p_assign rfl) ?_
      refine l_nil ?_
      refine t_iff rfl ?_
      refine t_seq ?_
      refine t_region ?_
      refine l_p rfl rfl (p_eq rfl rfl) ?_
      refine l_p rfl rfl (p_assign rfl) ?_
      refine l_nil ?_
      refine t_iff rfl ?_
      refine t_seq ?_
      refine t_region ?_
      refine l_p rfl rfl (p_eq rfl rfl) ?_
      refine l_p rfl rfl (p_assign rfl) ?_
      refine l_nil ?_
      refine t_ift rfl ?_
      refine t_region ?_
      refine l_p rfl rfl (p_move rfl) ?_
      refine l_p rfl rfl (p_fa (by exact rfl) Rds.bxi) ?_
      refine l_p rfl rfl (p_ld1 (by exact rfl) (Rds.fld Rds.bxi (by exact rfl))) ?_
      refine l_callv rfl rfl rfl (rprint σ a h1) ?_
      refine l_p rfl rfl (p_cat rfl rfl (by simp only [List.length_cons, List.length_nil, List.length_append]; omega)) ?_
      refine l_p rfl rfl (p_cat rfl rfl (by simp only [List.length_cons, List.length_nil, List.length_append]; omega)) ?_
      refine l_p rfl rfl (p_assign rfl) ?_
      refine l_nil ?_
      refine t_blk ?_
      refine t_blk ?_
      refine t_region ?_
      refine l_p rfl rfl (p_add rfl rfl (by omega)) ?_
      refine l_p rfl rfl (p_move rfl) ?_
      refine l_nil ?_
      exact t_round (true, _ :: R) ⟨rfl, rfl, rfl, rfl, trivial⟩ trivial (by simp) (fun w hI => hI)
end Go.Proofs.YtfglenbfbcckjaaDoor
