/- Layer 4 (etag): walks. -/
import Derived.Test.YtbijponhndknlaaDoorWtext
import Derived.Test.YtbijponhndknlaaDoorX4
set_option linter.unusedSimpArgs false
set_option linter.unusedVariables false
set_option maxRecDepth 20000
namespace Go.Proofs.YtbijponhndknlaaDoor
open Go.Sp
attribute [local irreducible] Go.Sp.Pr Go.Sp.Ws Go.Sp.Wl Go.Sp.Wq Go.Sp.Rds Go.Sp.Src
theorem tmay (σ : Stb) (b : UInt8) : SpV Tryd.prog 68 [u8 b] σ (.bool (mayT b)) := by
  refine spv Tryd.func68 rfl (by kernel_rfl) rfl fun F => ?_
  refine t_seq ?_
  refine t_region ?_
  refine l_p rfl rfl (p_assign rfl) ?_
  refine l_nil ?_
  refine t_seq ?_
  refine t_block ?_
  refine t_seq ?_
  refine t_block ?_
  refine t_seq ?_
  refine t_block ?_
  refine t_block ?_
  refine t_seq ?_
  refine t_seq ?_
  refine t_seq ?_
  refine t_region ?_
  refine l_p rfl rfl (p_move rfl) ?_
  refine l_p rfl rfl (p_ge rfl rfl) ?_
  refine l_p rfl rfl (p_assign rfl) ?_
  refine l_nil ?_
  refine t_ifd rfl (fun h => ?_) (fun h => ?_)
  · refine t_exit rfl ?_
    refine t_blk ?_
    refine t_seq ?_
    refine t_seq ?_
    refine t_region ?_
    refine l_p rfl rfl (p_assign rfl) ?_
    refine l_nil ?_
    exact t_ret1 rfl rfl fun w hI => ⟨by simp [mayT, show 128 ≤ b.toNat by omega], hI⟩
  refine t_skip ?_
  refine t_seq ?_
  refine t_seq ?_
  refine t_region ?_
  refine l_p rfl rfl (p_move rfl) ?_
  refine l_p rfl rfl (p_eq rfl rfl) ?_
  refine l_p rfl rfl (p_assign rfl) ?_
  refine l_nil ?_
  refine t_ifd rfl (fun h2 => ?_) (fun h2 => ?_)
  · refine t_exit rfl ?_
    refine t_seq ?_
    refine t_seq ?_
    refine t_region ?_
    refine l_p rfl rfl (p_assign rfl) ?_
    refine l_nil ?_
    exact t_ret1 rfl rfl fun w hI => ⟨by simp [mayT, show b.toNat = 33 by omega], hI⟩
  refine t_skip ?_
  refine t_seq ?_
  refine t_region ?_
  refine l_p rfl rfl (p_move rfl) ?_
  refine l_p rfl rfl (p_eq rfl rfl) ?_
  refine l_p rfl rfl (p_assign rfl) ?_
  refine l_nil ?_
  refine t_ifd rfl (fun h3 => ?_) (fun h3 => ?_)
  · refine t_exit rfl ?_
    refine t_seq ?_
    refine t_seq ?_
    refine t_region ?_
    refine l_p rfl rfl (p_assign rfl) ?_
    refine l_nil ?_
    exact t_ret1 rfl rfl fun w hI => ⟨by simp [mayT, show b.toNat = 127 by omega], hI⟩
  refine t_skip ?_
  refine t_exit rfl ?_
  refine t_seq ?_
  refine t_region ?_
  refine l_p rfl rfl (p_move rfl) ?_
  refine l_p rfl rfl (p_ge rfl rfl) ?_
  refine l_p rfl rfl (p_assign rfl) ?_
  refine l_nil ?_
  exact t_ret1 rfl rfl fun w hI => ⟨by
    have h1 : ¬ 128 ≤ b.toNat := by omega
    have h2' : ¬ b.toNat = 33 := by omega
    have h3' : ¬ b.toNat = 127 := by omega
    simp only [mayT, h1, h2', h3', decide_false, Bool.false_or, Bool.not_false, Bool.true_and]
    congr 1; rw [Bool.eq_iff_iff]; simp; omega, hI⟩
theorem tplain (σ : Stb) (s : List UInt8) (hs : s.length ≤ 9223372036854775806) : SpV Tryd.prog 67 [st s] σ (.bool (plainT s)) := by
  refine spv Tryd.func67 rfl (by kernel_rfl) rfl fun F => ?_
  refine t_seq ?_
  refine t_region ?_
  refine l_p rfl rfl (p_assign rfl) ?_
  refine l_nil ?_
  refine t_seq ?_
  refine t_seq ?_
  refine t_region ?_
  refine l_p rfl rfl (p_move rfl) ?_
  refine l_p rfl rfl (p_lens (by exact rfl)) ?_
  refine l_p rfl rfl (p_move rfl) ?_
  refine l_nil ?_
  refine t_block ?_
  refine t_loop (ι := Nat) { E := fun n => [(0, st s), (5, i64 s.length), (6, i64 n)], S := fun _ => σ, M := fun _ => F, Φ := fun n => n ≤ s.length ∧ (s.take n).all mayT = true } (fun n => s.length - n) 0
    (by exact ⟨rfl, rfl, rfl, trivial⟩) ⟨Nat.zero_le _, by simp⟩ (fun w hI => hI) ?_
  rintro i ⟨h1, h2⟩
  dsimp only at h1 h2 ⊢
  refine t_seq ?_
  refine t_region ?_
  refine l_p rfl rfl (p_lt rfl rfl) ?_
  refine l_nil ?_
  refine t_seq ?_
  refine t_ifd rfl (fun h => ?_) (fun h => ?_)
  · have hn : i < s.length := by omega
    have hall : (s.take (i + 1)).all mayT = (mayT s[i]) := by rw [take_succ s i hn, List.all_append, h2]; simp
    refine t_skip ?_
    refine t_seq ?_
    refine t_block ?_
    refine t_seq ?_
    refine t_region ?_
    refine l_p rfl rfl (p_move rfl) ?_
    refine l_p rfl rfl (p_assign rfl) ?_
    refine l_nil ?_
    refine t_seq ?_
    refine t_region ?_
    refine l_p rfl rfl (p_move rfl) ?_
    refine l_p rfl rfl (p_move rfl) ?_
    refine l_p rfl rfl (p_six _ (by exact rfl) (by exact rfl) rfl (by omega)) ?_
    refine l_callv rfl rfl rfl (tmay _ _) ?_
    refine l_p rfl rfl (p_not rfl) ?_
    refine l_nil ?_
    refine t_if rfl (fun hd => ?_) (fun hd => ?_)
    · have hd' : mayT s[i] = false := by simpa using hd
      have e : plainT s = false := by rw [plainT, List.all_eq_false]; exact ⟨_, List.getElem_mem hn, by simp [hd']⟩
      refine t_seq ?_
      refine t_region ?_
      refine l_p rfl rfl (p_assign rfl) ?_
      refine l_nil ?_
      exact t_ret1 rfl rfl fun w hI => ⟨by rw [e], hI⟩
    · have hd' : mayT s[i] = true := by simpa using hd
      refine t_skip ?_
      refine t_blk ?_
      refine t_region ?_
      refine l_p rfl rfl (p_add rfl rfl (by omega)) ?_
      refine l_p rfl rfl (p_move rfl) ?_
      refine l_nil ?_
      exact t_round (i + 1) ⟨rfl, rfl, gi rfl (by omega), trivial⟩ ⟨by omega, by rw [hall, hd']⟩ (by show s.length - (i + 1) < s.length - i; omega) (fun w hI => hI)
  · have hn : i = s.length := by omega
    subst hn
    rw [List.take_length] at h2
    refine t_exit rfl ?_
    refine t_seq ?_
    refine t_region ?_
    refine l_p rfl rfl (p_assign rfl) ?_
    refine l_nil ?_
    exact t_ret1 rfl rfl fun w hI => ⟨by rw [plainT, h2], hI⟩
abbrev vet (x : Bool × List UInt8) : Value := .agg #[.bool x.1, st x.2]
theorem tetright (σ : Stb) (x : Bool × List UInt8) (hs : x.2.length ≤ 9223372036854775806) : SpV Tryd.prog 60 [vet x] σ (.bool (plainT x.2 && decide (x.2.length ≤ 40))) := by
  refine spv Tryd.func60 rfl (by kernel_rfl) rfl fun F => ?_
  obtain ⟨x1, x2⟩ := x
  refine t_seq ?_
  refine t_region ?_
  refine l_box rfl rfl rfl rfl ?_; intro _
  refine l_p rfl rfl (p_assign rfl) ?_
  refine l_nil ?_
  refine t_seq ?_
  refine t_region ?_
  refine l_p rfl rfl (p_fa (by exact rfl) Rds.bxi) ?_
  refine l_p rfl rfl (p_ld1 (by exact rfl) (Rds.fld Rds.bxi (by exact rfl))) ?_
  refine l_callv rfl rfl rfl (tplain σ x2 hs) ?_
  refine l_p rfl rfl (p_move rfl) ?_
  refine l_splitb 6 rfl (fun h => ?_) (fun h => ?_)
  · refine l_p rfl rfl (p_fa (by exact rfl) Rds.bxi) ?_
    refine l_p rfl rfl (p_ld1 (by exact rfl) (Rds.fld Rds.bxi (by exact rfl))) ?_
    refine l_p rfl rfl (p_lens (by exact rfl)) ?_
    refine l_p rfl rfl (p_le rfl rfl) ?_
    refine l_p rfl rfl (p_pickt rfl rfl) ?_
    refine l_p rfl rfl (p_assign rfl) ?_
    refine l_nil ?_
    exact t_ret1 rfl rfl fun w hI => ⟨by rw [h, Bool.true_and]; congr 1; rw [Bool.eq_iff_iff]; simp; omega, hI.tail⟩
  · refine l_skip rfl rfl ?_
    refine l_skip rfl rfl ?_
    refine l_skip rfl rfl ?_
    refine l_skip rfl rfl ?_
    refine l_p rfl rfl (p_pickf rfl rfl) ?_
    refine l_p rfl rfl (p_assign rfl) ?_
    refine l_nil ?_
    exact t_ret1 rfl rfl fun w hI => ⟨by rw [h, Bool.false_and], hI.tail⟩




abbrev vet2 (x : (Bool × List UInt8) × Nat) : Value := .tuple #[vet x.1, i64 x.2]


end Go.Proofs.YtbijponhndknlaaDoor
