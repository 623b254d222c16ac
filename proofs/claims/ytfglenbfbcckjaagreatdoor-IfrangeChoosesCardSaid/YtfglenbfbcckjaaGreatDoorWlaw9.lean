/- Chapter 9: the laws' walks. -/
import Derived.Test.YtfglenbfbcckjaaGreatDoorWchoose
set_option linter.unusedSimpArgs false
set_option linter.unusedVariables false
set_option maxRecDepth 20000
namespace Go.Proofs.YtfglenbfbcckjaaGreatDoor
open Go.Sp
attribute [local irreducible] Go.Sp.Pr Go.Sp.Ws Go.Sp.Wl Go.Sp.Wq Go.Sp.Rds Go.Sp.Src
def awakeS : List UInt8 := [98, 121, 116, 101, 115, 61, 48, 45, 52, 44, 50, 45, 57]
theorem awake_specs : (specs awakeS).1 = [(2, 0, 4), (2, 2, 9)] := by kernel_rfl
theorem awake_use (tag : List UInt8) : useP [] tag = true := rfl
theorem awake_res : resolveI (specs awakeS).1 100 = [(0, 5), (2, 10)] := by kernel_rfl
theorem awake_clash : clashB [] [(0, 5), (2, 10)] = true := by kernel_rfl
theorem awake_choice {status : Nat} {spans : List N2} {tag : List UInt8} (h : ChoiceP awakeS [] tag 100 status spans) : status = 206 ∧ spans = [(0, 10)] := by
  unfold ChoiceP at h
  rw [awake_res, awake_specs, awake_use, awake_clash] at h
  simp only [reduceCtorEq, Bool.true_eq_false, or_self, if_false, if_true] at h
  obtain ⟨h1, l', hp, hs, h2⟩ := h
  refine ⟨h1, ?_⟩
  have hl : l' = [(0, 5), (2, 10)] := by
    have hlen := hp.length_eq
    match l', hlen with
    | [x, y], _ =>
      have hx : x = (0, 5) ∨ x = (2, 10) := by have := hp.mem_iff.1 (List.mem_cons_self (a := x) (l := [y])); simpa using this
      have hy : y = (0, 5) ∨ y = (2, 10) := by have := hp.mem_iff.1 (show y ∈ [x, y] by simp); simpa using this
      simp only [List.pairwise_cons, List.mem_singleton, forall_eq] at hs
      rcases hx with rfl | rfl <;> rcases hy with rfl | rfl
      · exact absurd (hp.mem_iff.2 (show (2, 10) ∈ [(0, 5), (2, 10)] by simp)) (by simp)
      · rfl
      · exact absurd hs.1 (by decide)
      · exact absurd (hp.mem_iff.2 (show (0, 5) ∈ [(0, 5), (2, 10)] by simp)) (by simp)
  rw [h2, hl]; rfl
theorem awake_walk (σ : Stb) : Sp0 Tryz.prog 4 [] σ fun v _ => v = .bool true := by
  refine sp0 Tryz.func4 rfl (by kernel_rfl) rfl fun F => ?_
  refine t_seq ?_
  refine t_region ?_
  refine l_p rfl rfl (p_assign rfl) ?_
  refine l_nil ?_
  refine t_seq ?_
  refine t_region ?_
  refine l_call0 rfl rfl rfl (schoose σ awakeS [] [118] 100 (by decide) (by decide)) ?_
  rintro _ σ1 hσ1 ⟨status, sv, spans, rfl, hS, hC⟩
  obtain ⟨rfl, rfl⟩ := awake_choice hC
  obtain ⟨A, cc, rfl⟩ : ∃ A c, sv = .slice A 1 c := by obtain ⟨⟨A, c, h, _⟩, _⟩ := hS; exact ⟨A, c, h⟩
  have hr0 : ∀ L, Rds σ1 L (ixp (.slice A 1 cc) 2 0) [i64 0, i64 10] := fun L => Rds.ix hS (k := 0) (by simp)
  refine l_alloc (by exact rfl) (by exact rfl) (by exact rfl) ?_; intro _
  refine l_sti rfl rfl rfl rfl rfl (by exact rfl) (by exact rfl) (by exact rfl) (by exact ⟨rfl, rfl⟩) ?_
  refine l_nil ?_
  refine t_seq ?_
  refine t_region ?_
  refine l_p rfl rfl (p_fa (by exact rfl) Rds.bxi) ?_
  refine l_p rfl rfl (p_ld1 (by exact rfl) Rds.bxi) ?_
  refine l_p rfl rfl (p_eq rfl rfl) ?_
  refine l_p rfl rfl (p_move rfl) ?_
  refine l_p rfl rfl (p_fa (by exact rfl) Rds.bxi) ?_
  refine l_p rfl rfl (p_ld1 (by exact rfl) (Rds.fld Rds.bxi (by exact rfl))) ?_
  refine l_p rfl rfl (p_lensl (by exact rfl)) ?_
  refine l_p rfl rfl (p_eq rfl rfl) ?_
  refine l_p rfl rfl (p_pickt rfl rfl) ?_
  refine l_p rfl rfl (p_move rfl) ?_
  refine l_p rfl rfl (p_fa (by exact rfl) Rds.bxi) ?_
  refine l_p rfl rfl (p_ld1 (by exact rfl) (Rds.fld Rds.bxi (by exact rfl))) ?_
  refine l_split 12 rfl (fun _ => ?_) (fun h => by omega)
  refine l_p rfl rfl (p_ix 0 rfl rfl rfl (by omega) (hr0 _)) ?_
  refine l_p rfl rfl (p_ldn (by exact rfl) (hr0 _) (by exact rfl) (by exact rfl)) ?_
  refine l_p rfl rfl (p_build (by exact rfl) (by exact rfl) (by exact rfl) (by exact rfl)) ?_
  refine l_p rfl rfl (p_eqs rfl rfl (by exact rfl)) ?_
  refine l_p rfl rfl (p_pickt rfl rfl) ?_
  refine l_p rfl rfl (p_assign rfl) ?_
  refine l_nil ?_
  exact t_ret1 rfl rfl fun w hI => ⟨σ1, hσ1, rfl, hI.tail⟩
end Go.Proofs.YtfglenbfbcckjaaGreatDoor
