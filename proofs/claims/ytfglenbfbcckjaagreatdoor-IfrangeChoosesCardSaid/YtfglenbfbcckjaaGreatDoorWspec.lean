/- Layer 5 (spec), and the document's: walks. -/
import Derived.Test.YtfglenbfbcckjaaGreatDoorWtext
import Derived.Test.YtfglenbfbcckjaaGreatDoorWnum
import Derived.Test.YtfglenbfbcckjaaGreatDoorX3
set_option linter.unusedSimpArgs false
set_option linter.unusedVariables false
set_option maxRecDepth 20000
namespace Go.Proofs.YtfglenbfbcckjaaGreatDoor
open Go.Sp
attribute [local irreducible] Go.Sp.Pr Go.Sp.Ws Go.Sp.Wl Go.Sp.Wq Go.Sp.Rds Go.Sp.Src
theorem dropwhile_step (c b : UInt8) (r : List UInt8) : (b :: r).dropWhile (· == c) = if b = c then r.dropWhile (· == c) else b :: r := by
  simp only [List.dropWhile_cons, beq_iff_eq]
theorem trimleft (σ : Stb) (s : List UInt8) (c : UInt8) (hc : c.toNat < 128) (hs : s.length ≤ 9223372036854775807) : SpV Tryz.prog 99 [st s, st [c]] σ (st (s.dropWhile (· == c))) := by
  refine spv Tryz.func99 rfl (by kernel_rfl) rfl fun F => ?_
  refine t_seq ?_
  refine t_region ?_
  refine l_p rfl rfl (p_assign rfl) ?_
  refine l_nil ?_
  refine t_seq ?_
  refine t_seq ?_
  refine t_region ?_
  refine l_p rfl rfl (p_move rfl) ?_
  refine l_p rfl rfl (p_seq rfl rfl) ?_
  refine l_p rfl rfl (p_move rfl) ?_
  refine l_split 9 rfl (fun h => ?_) (fun h => ?_)
  · subst h
    refine l_skip rfl rfl ?_
    refine l_skip rfl rfl ?_
    refine l_p rfl rfl (p_pickt rfl rfl) ?_
    refine l_nil ?_
    refine t_ift rfl ?_
    refine t_seq ?_
    refine t_region ?_
    refine l_p rfl rfl (p_move rfl) ?_
    refine l_p rfl rfl (p_assign rfl) ?_
    refine l_nil ?_
    exact t_ret1 rfl rfl fun w hI => ⟨rfl, hI⟩
  · refine l_p rfl rfl (p_move rfl) ?_
    refine l_p rfl rfl (p_seq rfl rfl) ?_
    refine l_p rfl rfl (p_pickf rfl rfl) ?_
    refine l_nil ?_
    refine t_iff rfl ?_
    refine t_skip ?_
    refine t_seq ?_
    refine t_seq ?_
    refine t_region ?_
    refine l_p rfl rfl (p_move rfl) ?_
    refine l_p rfl rfl (p_lens (by exact rfl)) ?_
    refine l_p rfl rfl (p_eq rfl rfl) ?_
    refine l_p rfl rfl (p_move rfl) ?_
    refine l_p rfl rfl (p_move rfl) ?_
    refine l_p rfl rfl (p_six _ (by exact rfl) (by exact rfl) rfl (Nat.zero_lt_succ _)) ?_
    refine l_p rfl rfl (p_lt rfl rfl) ?_
    refine l_p rfl rfl (p_pickt rfl rfl) ?_
    refine l_nil ?_
    refine t_ifd rfl (fun h3 => ?_) (fun h3 => absurd (by show ((c.toNat : Nat) : Int) < 128; omega) h3)
    refine t_seq ?_
    refine t_region ?_
    refine l_p rfl rfl (p_move rfl) ?_
    refine l_p rfl rfl (p_move rfl) ?_
    refine l_p rfl rfl (p_six _ (by exact rfl) (by exact rfl) rfl (Nat.zero_lt_succ _)) ?_
    refine l_callv rfl rfl rfl (v := st (s.dropWhile (· == c))) ?_ ?_
    · refine spv Tryz.func100 rfl (by kernel_rfl) rfl fun F => ?_
      refine t_seq ?_
      refine t_region ?_
      refine l_p rfl rfl (p_assign rfl) ?_
      refine l_nil ?_
      refine t_seq ?_
      refine t_block ?_
      refine t_loop (ι := List UInt8) { E := fun q => [(0, st q), (1, u8 c)], S := fun _ => σ, M := fun _ => F, Φ := fun q => q.length ≤ s.length ∧ q.dropWhile (· == c) = s.dropWhile (· == c) } (fun q => q.length) s
        (by exact ⟨rfl, rfl, trivial⟩) ⟨Nat.le_refl _, rfl⟩ (fun w hI => hI) ?_
      rintro q ⟨h1, h2⟩
      dsimp only at h1 h2 ⊢
      refine t_seq ?_
      refine t_seq ?_
      refine t_region ?_
      refine l_p rfl rfl (p_move rfl) ?_
      refine l_p rfl rfl (p_lens (by exact rfl)) ?_
      refine l_p rfl rfl (p_gt rfl rfl) ?_
      refine l_p rfl rfl (p_move rfl) ?_
      refine l_split 8 rfl (fun h => ?_) (fun h => ?_)
      · obtain ⟨x, r, rfl⟩ : ∃ x r, q = x :: r := by
          cases q with
          | nil => simp at h
          | cons x r => exact ⟨x, r, rfl⟩
        rw [dropwhile_step] at h2
        simp only [List.length_cons] at h1
        refine l_p rfl rfl (p_move rfl) ?_
        refine l_p rfl rfl (p_six 0 (by exact rfl) (by exact rfl) rfl (by omega)) ?_
        refine l_p rfl rfl (p_move rfl) ?_
        refine l_p rfl rfl (p_eq rfl rfl) ?_
        refine l_p rfl rfl (p_pickt rfl rfl) ?_
        refine l_nil ?_
        refine t_ifd rfl (fun hb => ?_) (fun hb => ?_)
        · refine t_skip ?_
          refine t_block ?_
          refine t_region ?_
          refine l_p rfl rfl (p_move rfl) ?_
          refine l_p rfl rfl (p_ssllI (by exact rfl) (by exact rfl) (by omega)) ?_
          refine l_p rfl rfl (p_assign rfl) ?_
          refine l_nil ?_
          refine t_blk ?_
          have hb' : x = c := UInt8.toNat_inj.1 (Int.ofNat_inj.1 hb)
          rw [if_pos hb'] at h2
          exact t_round r ⟨rfl, rfl, trivial⟩ ⟨by omega, h2⟩ (by simp) (fun w hI => hI)
        · rw [if_neg (fun e => hb (by subst e; rfl))] at h2
          refine t_exit rfl ?_
          refine t_seq ?_
          refine t_region ?_
          refine l_p rfl rfl (p_move rfl) ?_
          refine l_p rfl rfl (p_assign rfl) ?_
          refine l_nil ?_
          exact t_ret1 rfl rfl fun w hI => ⟨by rw [← h2], hI⟩
      · have hq : q = [] := List.length_eq_zero_iff.1 (by omega)
        subst hq
        refine l_skip rfl rfl ?_
        refine l_skip rfl rfl ?_
        refine l_skip rfl rfl ?_
        refine l_skip rfl rfl ?_
        refine l_p rfl rfl (p_pickf rfl rfl) ?_
        refine l_nil ?_
        refine t_iff rfl ?_
        refine t_exit rfl ?_
        refine t_seq ?_
        refine t_region ?_
        refine l_p rfl rfl (p_move rfl) ?_
        refine l_p rfl rfl (p_assign rfl) ?_
        refine l_nil ?_
        exact t_ret1 rfl rfl fun w hI => ⟨by rw [← h2]; rfl, hI⟩
    refine l_p rfl rfl (p_assign rfl) ?_
    refine l_nil ?_
    exact t_ret1 rfl rfl fun w hI => ⟨rfl, hI⟩
theorem sbare (σ : Stb) (s : List UInt8) (hs : s.length ≤ 9223372036854775807) : SpV Tryz.prog 97 [st s] σ (st (Sp.bare s)) := by
  refine spv Tryz.func97 rfl (by kernel_rfl) rfl fun F => ?_
  refine t_seq ?_
  refine t_region ?_
  refine l_p rfl rfl (p_assign rfl) ?_
  refine l_nil ?_
  refine t_seq ?_
  refine t_region ?_
  refine l_p rfl rfl (p_move rfl) ?_
  refine l_callv rfl rfl rfl (trimleft σ s 48 (by decide) hs) ?_
  refine l_p rfl rfl (p_assign rfl) ?_
  refine l_nil ?_
  exact t_ret1 rfl rfl fun w hI => ⟨rfl, hI⟩
theorem rbare (σ : Stb) (s : List UInt8) (hs : s.length ≤ 9223372036854775807) : SpV Tryz.prog 85 [st s] σ (st (Sp.bare s)) := by
  refine spv Tryz.func85 rfl (by kernel_rfl) rfl fun F => ?_
  refine t_seq ?_
  refine t_region ?_
  refine l_p rfl rfl (p_assign rfl) ?_
  refine l_nil ?_
  refine t_seq ?_
  refine t_block ?_
  refine t_loop (ι := List UInt8) { E := fun q => [(0, st q)], S := fun _ => σ, M := fun _ => F, Φ := fun q => q.length ≤ s.length ∧ Sp.bare q = Sp.bare s } (fun q => q.length) s
    (by exact ⟨rfl, trivial⟩) ⟨Nat.le_refl _, rfl⟩ (fun w hI => hI) ?_
  rintro q ⟨h1, h2⟩
  dsimp only at h1 h2 ⊢
  refine t_seq ?_
  refine t_seq ?_
  refine t_region ?_
  refine l_p rfl rfl (p_move rfl) ?_
  refine l_p rfl rfl (p_lens (by exact rfl)) ?_
  refine l_p rfl rfl (p_gt rfl rfl) ?_
  refine l_p rfl rfl (p_move rfl) ?_
  refine l_split 6 rfl (fun h => ?_) (fun h => ?_)
  · obtain ⟨x, r, rfl⟩ : ∃ x r, q = x :: r := by
      cases q with
      | nil => simp at h
      | cons x r => exact ⟨x, r, rfl⟩
    rw [Sp.bare, dropwhile_step] at h2
    simp only [List.length_cons] at h1
    refine l_p rfl rfl (p_move rfl) ?_
    refine l_p rfl rfl (p_six 0 (by exact rfl) (by exact rfl) rfl (by omega)) ?_
    refine l_p rfl rfl (p_eq rfl rfl) ?_
    refine l_p rfl rfl (p_pickt rfl rfl) ?_
    refine l_nil ?_
    refine t_ifd rfl (fun hb => ?_) (fun hb => ?_)
    · refine t_skip ?_
      refine t_block ?_
      refine t_region ?_
      refine l_p rfl rfl (p_move rfl) ?_
      refine l_p rfl rfl (p_ssllI (by exact rfl) (by exact rfl) (by omega)) ?_
      refine l_p rfl rfl (p_assign rfl) ?_
      refine l_nil ?_
      refine t_blk ?_
      have hb' : x = 48 := UInt8.toNat_inj.1 (Int.ofNat_inj.1 hb)
      rw [if_pos hb'] at h2
      exact t_round r ⟨rfl, trivial⟩ ⟨by omega, h2⟩ (by simp) (fun w hI => hI)
    · rw [if_neg (fun e => hb (by subst e; rfl))] at h2
      refine t_exit rfl ?_
      refine t_seq ?_
      refine t_region ?_
      refine l_p rfl rfl (p_move rfl) ?_
      refine l_p rfl rfl (p_assign rfl) ?_
      refine l_nil ?_
      exact t_ret1 rfl rfl fun w hI => ⟨by rw [← h2], hI⟩
  · have hq : q = [] := List.length_eq_zero_iff.1 (by omega)
    subst hq
    refine l_skip rfl rfl ?_
    refine l_skip rfl rfl ?_
    refine l_skip rfl rfl ?_
    refine l_p rfl rfl (p_pickf rfl rfl) ?_
    refine l_nil ?_
    refine t_iff rfl ?_
    refine t_exit rfl ?_
    refine t_seq ?_
    refine t_region ?_
    refine l_p rfl rfl (p_move rfl) ?_
    refine l_p rfl rfl (p_assign rfl) ?_
    refine l_nil ?_
    exact t_ret1 rfl rfl fun w hI => ⟨by rw [← h2]; rfl, hI⟩
theorem rless (σ : Stb) (a b : List UInt8) (ha : a.length ≤ 9223372036854775807) (hb : b.length ≤ 9223372036854775807) : SpV Tryz.prog 66 [st a, st b] σ (.bool (lessb a b)) := by
  refine spv Tryz.func66 rfl (by kernel_rfl) rfl fun F => ?_
  refine t_seq ?_
  refine t_region ?_
  refine l_p rfl rfl (p_assign rfl) ?_
  refine l_nil ?_
  refine t_seq ?_
  refine t_region ?_
  refine l_p rfl rfl (p_move rfl) ?_
  refine l_callv rfl rfl rfl (rbare σ a ha) ?_
  refine l_p rfl rfl (p_move rfl) ?_
  refine l_callv rfl rfl rfl (rbare σ b hb) ?_
  refine l_p rfl rfl (p_assign rfl) ?_
  refine l_p rfl rfl (p_assign rfl) ?_
  refine l_nil ?_
  refine t_seq ?_
  refine t_seq ?_
  refine t_region ?_
  refine l_p rfl rfl (p_move rfl) ?_
  refine l_p rfl rfl (p_lens (by exact rfl)) ?_
  refine l_p rfl rfl (p_move rfl) ?_
  refine l_p rfl rfl (p_lens (by exact rfl)) ?_
  refine l_p rfl rfl (p_ne rfl rfl) ?_
  refine l_nil ?_
  refine t_ifd rfl (fun h => ?_) (fun h => ?_)
  · refine t_seq ?_
    refine t_region ?_
    refine l_p rfl rfl (p_move rfl) ?_
    refine l_p rfl rfl (p_lens (by exact rfl)) ?_
    refine l_p rfl rfl (p_move rfl) ?_
    refine l_p rfl rfl (p_lens (by exact rfl)) ?_
    refine l_p rfl rfl (p_lt rfl rfl) ?_
    refine l_p rfl rfl (p_assign rfl) ?_
    refine l_nil ?_
    have h' : ¬ (Sp.bare a).length = (Sp.bare b).length := by omega
    exact t_ret1 rfl rfl fun w hI => ⟨by simp [lessb, h'], hI⟩
  · have h' : (Sp.bare a).length = (Sp.bare b).length := by omega
    refine t_skip ?_
    refine t_seq ?_
    refine t_region ?_
    refine l_p rfl rfl (p_move rfl) ?_
    refine l_p rfl rfl (p_move rfl) ?_
    refine l_p rfl rfl (p_slt rfl rfl) ?_
    refine l_p rfl rfl (p_assign rfl) ?_
    refine l_nil ?_
    skip
    exact t_ret1 rfl rfl fun w hI => ⟨by simp [lessb, h'], hI⟩
theorem sworse (σ : Stb) (a b : Nat) : SpV Tryz.prog 54 [i64 a, i64 b] σ (i64 (worse a b)) := by
  refine spv Tryz.func54 rfl (by kernel_rfl) rfl fun F => ?_
  refine t_seq ?_
  refine t_region ?_
  refine l_p rfl rfl (p_assign rfl) ?_
  refine l_nil ?_
  refine t_seq ?_
  refine t_seq ?_
  refine t_region ?_
  refine l_p rfl rfl (p_move rfl) ?_
  refine l_p rfl rfl (p_eq rfl rfl) ?_
  refine l_p rfl rfl (p_move rfl) ?_
  refine l_split 7 rfl (fun h => ?_) (fun h => ?_)
  · refine l_skip rfl rfl ?_
    refine l_skip rfl rfl ?_
    refine l_p rfl rfl (p_pickt rfl rfl) ?_
    refine l_nil ?_
    refine t_ift rfl ?_
    refine t_seq ?_
    refine t_region ?_
    refine l_p rfl rfl (p_move rfl) ?_
    refine l_p rfl rfl (p_assign rfl) ?_
    refine l_nil ?_
    exact t_ret1 rfl rfl fun w hI => ⟨by rw [worse, if_pos (.inl (by omega))], hI⟩
  refine l_p rfl rfl (p_move rfl) ?_
  refine l_p rfl rfl (p_eq rfl rfl) ?_
  refine l_p rfl rfl (p_pickf rfl rfl) ?_
  refine l_nil ?_
  refine t_ifd rfl (fun h2 => ?_) (fun h2 => ?_)
  · refine t_seq ?_
    refine t_region ?_
    refine l_p rfl rfl (p_move rfl) ?_
    refine l_p rfl rfl (p_assign rfl) ?_
    refine l_nil ?_
    exact t_ret1 rfl rfl fun w hI => ⟨by rw [worse, if_pos (.inr (by omega))], hI⟩
  have e : worse a b = if b = 3 ∨ a = 0 then b else a := by rw [worse, if_neg (by omega)]
  refine t_skip ?_
  refine t_seq ?_
  refine t_seq ?_
  refine t_region ?_
  refine l_p rfl rfl (p_move rfl) ?_
  refine l_p rfl rfl (p_eq rfl rfl) ?_
  refine l_p rfl rfl (p_move rfl) ?_
  refine l_split 14 rfl (fun h3 => ?_) (fun h3 => ?_)
  · refine l_skip rfl rfl ?_
    refine l_skip rfl rfl ?_
    refine l_p rfl rfl (p_pickt rfl rfl) ?_
    refine l_nil ?_
    refine t_ift rfl ?_
    refine t_seq ?_
    refine t_region ?_
    refine l_p rfl rfl (p_move rfl) ?_
    refine l_p rfl rfl (p_assign rfl) ?_
    refine l_nil ?_
    exact t_ret1 rfl rfl fun w hI => ⟨by rw [e, if_pos (.inl (by omega))], hI⟩
  refine l_p rfl rfl (p_move rfl) ?_
  refine l_p rfl rfl (p_eq rfl rfl) ?_
  refine l_p rfl rfl (p_pickf rfl rfl) ?_
  refine l_nil ?_
  refine t_ifd rfl (fun h4 => ?_) (fun h4 => ?_)
  · refine t_seq ?_
    refine t_region ?_
    refine l_p rfl rfl (p_move rfl) ?_
    refine l_p rfl rfl (p_assign rfl) ?_
    refine l_nil ?_
    exact t_ret1 rfl rfl fun w hI => ⟨by rw [e, if_pos (.inr (by omega))], hI⟩
  refine t_skip ?_
  refine t_seq ?_
  refine t_region ?_
  refine l_p rfl rfl (p_move rfl) ?_
  refine l_p rfl rfl (p_assign rfl) ?_
  refine l_nil ?_
  exact t_ret1 rfl rfl fun w hI => ⟨by rw [e, if_neg (by omega)], hI⟩
theorem slate (σ : Stb) (e : Nat) (a b : List UInt8) (ha : a.length ≤ 9223372036854775807) (hb : b.length ≤ 9223372036854775807) : SpV Tryz.prog 88 [i64 e, st a, st b] σ (i64 (late e a b)) := by
  refine spv Tryz.func88 rfl (by kernel_rfl) rfl fun F => ?_
  refine t_seq ?_
  refine t_region ?_
  refine l_p rfl rfl (p_assign rfl) ?_
  refine l_nil ?_
  refine t_seq ?_
  refine t_region ?_
  refine l_p rfl rfl (p_move rfl) ?_
  refine l_callv rfl rfl rfl (sbare σ a ha) ?_
  refine l_p rfl rfl (p_move rfl) ?_
  refine l_callv rfl rfl rfl (sbare σ b hb) ?_
  refine l_p rfl rfl (p_assign rfl) ?_
  refine l_p rfl rfl (p_assign rfl) ?_
  refine l_nil ?_
  refine t_seq ?_
  refine t_seq ?_
  refine t_region ?_
  refine l_p rfl rfl (p_move rfl) ?_
  refine l_p rfl rfl (p_eq rfl rfl) ?_
  refine l_p rfl rfl (p_move rfl) ?_
  refine l_split 13 rfl (fun h => ?_) (fun h => ?_)
  · refine l_p rfl rfl (p_move rfl) ?_
    refine l_p rfl rfl (p_lens (by exact rfl)) ?_
    refine l_p rfl rfl (p_move rfl) ?_
    refine l_p rfl rfl (p_lens (by exact rfl)) ?_
    refine l_p rfl rfl (p_lt rfl rfl) ?_
    refine l_p rfl rfl (p_move rfl) ?_
    refine l_split 19 rfl (fun h2 => ?_) (fun h2 => ?_)
    · refine l_skip rfl rfl ?_
      refine l_skip rfl rfl ?_
      refine l_skip rfl rfl ?_
      refine l_skip rfl rfl ?_
      refine l_skip rfl rfl ?_
      refine l_skip rfl rfl ?_
      refine l_skip rfl rfl ?_
      refine l_skip rfl rfl ?_
      refine l_skip rfl rfl ?_
      refine l_skip rfl rfl ?_
      refine l_p rfl rfl (p_pickt rfl rfl) ?_
      refine l_p rfl rfl (p_pickt rfl rfl) ?_
      refine l_nil ?_
      refine t_ift rfl ?_
      refine t_seq ?_
      refine t_region ?_
      refine l_p rfl rfl (p_assign rfl) ?_
      refine l_nil ?_
      have h2' : (Sp.bare b).length < (Sp.bare a).length := by omega
      exact t_ret1 rfl rfl fun w hI => ⟨by rw [late, if_pos ⟨by omega, by simp [lessb, h2']⟩]; rfl, hI⟩
    · have h2' : ¬ (Sp.bare b).length < (Sp.bare a).length := by omega
      refine l_p rfl rfl (p_move rfl) ?_
      refine l_p rfl rfl (p_lens (by exact rfl)) ?_
      refine l_p rfl rfl (p_move rfl) ?_
      refine l_p rfl rfl (p_lens (by exact rfl)) ?_
      refine l_p rfl rfl (p_eq rfl rfl) ?_
      refine l_p rfl rfl (p_move rfl) ?_
      refine l_split 25 rfl (fun h3 => ?_) (fun h3 => ?_)
      · have h3' : (Sp.bare b).length = (Sp.bare a).length := by omega
        refine l_p rfl rfl (p_move rfl) ?_
        refine l_p rfl rfl (p_move rfl) ?_
        refine l_p rfl rfl (p_slt rfl rfl) ?_
        refine l_p rfl rfl (p_pickt rfl rfl) ?_
        refine l_p rfl rfl (p_pickf rfl rfl) ?_
        refine l_p rfl rfl (p_pickt rfl rfl) ?_
        refine l_nil ?_
        skip
        refine t_if rfl (fun h4 => ?_) (fun h4 => ?_)
        · refine t_seq ?_
          refine t_region ?_
          refine l_p rfl rfl (p_assign rfl) ?_
          refine l_nil ?_
          exact t_ret1 rfl rfl fun w hI => ⟨by rw [late, if_pos ⟨by omega, by simp [lessb, h3', h4]⟩]; rfl, hI⟩
        · refine t_skip ?_
          refine t_seq ?_
          refine t_region ?_
          refine l_p rfl rfl (p_move rfl) ?_
          refine l_p rfl rfl (p_assign rfl) ?_
          refine l_nil ?_
          exact t_ret1 rfl rfl fun w hI => ⟨by rw [late, if_neg (by simp [lessb, h3', h4])], hI⟩
      · have h3' : ¬ (Sp.bare b).length = (Sp.bare a).length := by omega
        refine l_skip rfl rfl ?_
        refine l_skip rfl rfl ?_
        refine l_skip rfl rfl ?_
        refine l_p rfl rfl (p_pickf rfl rfl) ?_
        refine l_p rfl rfl (p_pickf rfl rfl) ?_
        refine l_p rfl rfl (p_pickt rfl rfl) ?_
        refine l_nil ?_
        refine t_iff rfl ?_
        refine t_skip ?_
        refine t_seq ?_
        refine t_region ?_
        refine l_p rfl rfl (p_move rfl) ?_
        refine l_p rfl rfl (p_assign rfl) ?_
        refine l_nil ?_
        exact t_ret1 rfl rfl fun w hI => ⟨by rw [late, if_neg (by simp [lessb, h2', h3'])], hI⟩
  · refine l_skip rfl rfl ?_
    refine l_skip rfl rfl ?_
    refine l_skip rfl rfl ?_
    refine l_skip rfl rfl ?_
    refine l_skip rfl rfl ?_
    refine l_skip rfl rfl ?_
    refine l_skip rfl rfl ?_
    refine l_skip rfl rfl ?_
    refine l_skip rfl rfl ?_
    refine l_skip rfl rfl ?_
    refine l_skip rfl rfl ?_
    refine l_skip rfl rfl ?_
    refine l_skip rfl rfl ?_
    refine l_skip rfl rfl ?_
    refine l_skip rfl rfl ?_
    refine l_skip rfl rfl ?_
    refine l_skip rfl rfl ?_
    refine l_p rfl rfl (p_pickf rfl rfl) ?_
    refine l_nil ?_
    refine t_iff rfl ?_
    refine t_skip ?_
    refine t_seq ?_
    refine t_region ?_
    refine l_p rfl rfl (p_move rfl) ?_
    refine l_p rfl rfl (p_assign rfl) ?_
    refine l_nil ?_
    exact t_ret1 rfl rfl fun w hI => ⟨by rw [late, if_neg (by omega)], hI⟩
abbrev vsp (x : S3) : Value := .agg #[i64 x.1, i64 x.2.1, i64 x.2.2]
abbrev vsp2 (x : S3 × Nat) : Value := .tuple #[vsp x.1, i64 x.2]
theorem ssingle (σ : Stb) (k : Nat) (s : List UInt8) (hs : s.length ≤ 9223372036854775806) : SpV Tryz.prog 70 [i64 k, st s] σ (vsp2 (single k s)) := by
  refine spv Tryz.func70 rfl (by kernel_rfl) rfl fun F => ?_
  refine t_seq ?_
  refine t_region ?_
  refine l_alloc (by exact rfl) (by exact rfl) (by exact rfl) ?_; intro _
  refine l_p rfl rfl (p_assign rfl) ?_
  refine l_nil ?_
  refine t_seq ?_
  refine t_region ?_
  refine l_p rfl rfl (p_move rfl) ?_
  refine l_callv rfl rfl rfl (nparse σ s hs) ?_
  refine l_p rfl rfl (p_move rfl) ?_
  refine l_p rfl rfl (p_ext rfl rfl) ?_
  refine l_p rfl rfl (p_ext rfl rfl) ?_
  refine l_p rfl rfl (p_assign rfl) ?_
  refine l_p rfl rfl (p_assign rfl) ?_
  refine l_nil ?_
  refine t_seq ?_
  refine t_seq ?_
  refine t_region ?_
  refine l_p rfl rfl (p_move rfl) ?_
  refine l_p rfl rfl (p_ne rfl rfl) ?_
  refine l_nil ?_
  refine t_ifd rfl (fun h => ?_) (fun h => ?_)
  · refine t_seq ?_
    refine t_region ?_
    refine l_p rfl rfl (p_build (by exact rfl) (by exact rfl) (by exact rfl) (by exact rfl)) ?_
    refine l_p rfl rfl (p_move rfl) ?_
    refine l_sti rfl rfl rfl rfl rfl (by exact rfl) (by exact rfl) (by exact rfl) (by exact ⟨rfl, rfl⟩) ?_
    refine l_p rfl rfl (p_assign rfl) ?_
    refine l_nil ?_
    have e : single k s = ((0, 0, 0), (pnum s).2) := by rw [single, if_pos (by omega)]
    exact t_ret rfl (.cn rfl Rds.bxi rfl rfl (.tmp rfl .nil)) fun w hI => ⟨by rw [e]; rfl, hI.tail⟩
  · refine t_skip ?_
    refine t_seq ?_
    refine t_region ?_
    refine l_p rfl rfl (p_move rfl) ?_
    refine l_p rfl rfl (p_move rfl) ?_
    refine l_p rfl rfl (p_build (by exact rfl) (by exact rfl) (by exact rfl) (by exact rfl)) ?_
    refine l_sti rfl rfl rfl rfl rfl (by exact rfl) (by exact rfl) (by exact rfl) (by exact ⟨rfl, rfl⟩) ?_
    refine l_p rfl rfl (p_assign rfl) ?_
    refine l_nil ?_
    have e : single k s = ((k, (pnum s).1, 0), 0) := by rw [single, if_neg (by omega)]
    exact t_ret rfl (.cn rfl Rds.bxi rfl rfl (.tmp rfl .nil)) fun w hI => ⟨by rw [e]; rfl, hI.tail⟩
theorem sboth (σ : Stb) (a b : List UInt8) (ha : a.length ≤ 9223372036854775806) (hb : b.length ≤ 9223372036854775806) : SpV Tryz.prog 71 [st a, st b] σ (vsp2 (both a b)) := by
  refine spv Tryz.func71 rfl (by kernel_rfl) rfl fun F => ?_
  refine t_seq ?_
  refine t_region ?_
  refine l_alloc (by exact rfl) (by exact rfl) (by exact rfl) ?_; intro _
  refine l_p rfl rfl (p_assign rfl) ?_
  refine l_nil ?_
  refine t_seq ?_
  refine t_region ?_
  refine l_p rfl rfl (p_move rfl) ?_
  refine l_callv rfl rfl rfl (nparse σ a ha) ?_
  refine l_p rfl rfl (p_move rfl) ?_
  refine l_p rfl rfl (p_ext rfl rfl) ?_
  refine l_p rfl rfl (p_ext rfl rfl) ?_
  refine l_p rfl rfl (p_assign rfl) ?_
  refine l_p rfl rfl (p_assign rfl) ?_
  refine l_nil ?_
  refine t_seq ?_
  refine t_region ?_
  refine l_p rfl rfl (p_move rfl) ?_
  refine l_callv rfl rfl rfl (nparse σ b hb) ?_
  refine l_p rfl rfl (p_move rfl) ?_
  refine l_p rfl rfl (p_ext rfl rfl) ?_
  refine l_p rfl rfl (p_ext rfl rfl) ?_
  refine l_p rfl rfl (p_assign rfl) ?_
  refine l_p rfl rfl (p_assign rfl) ?_
  refine l_nil ?_
  refine t_seq ?_
  refine t_region ?_
  refine l_p rfl rfl (p_move rfl) ?_
  refine l_p rfl rfl (p_move rfl) ?_
  refine l_p rfl rfl (p_build (by exact rfl) (by exact rfl) (by exact rfl) (by exact rfl)) ?_
  refine l_alloc (by exact rfl) (by exact rfl) (by exact rfl) ?_; intro _
  refine l_sti rfl rfl rfl rfl rfl (by exact rfl) (by exact rfl) (by exact rfl) (by exact ⟨rfl, rfl⟩) ?_
  refine l_nil ?_
  refine t_seq ?_
  refine t_seq ?_
  refine t_region ?_
  refine l_p rfl rfl (p_move rfl) ?_
  refine l_p rfl rfl (p_move rfl) ?_
  refine l_callv rfl rfl rfl (sworse σ _ _) ?_
  refine l_p rfl rfl (p_assign rfl) ?_
  refine l_nil ?_
  refine t_seq ?_
  refine t_region ?_
  refine l_p rfl rfl (p_move rfl) ?_
  refine l_p rfl rfl (p_ne rfl rfl) ?_
  refine l_nil ?_
  refine t_ifd rfl (fun h => ?_) (fun h => ?_)
  · refine t_seq ?_
    refine t_region ?_
    refine l_p rfl rfl (p_build (by exact rfl) (by exact rfl) (by exact rfl) (by exact rfl)) ?_
    refine l_p rfl rfl (p_move rfl) ?_
    refine l_p rfl rfl (p_move rfl) ?_
    refine l_p rfl rfl (p_move rfl) ?_
    refine l_callv rfl rfl rfl (slate σ _ a b (by omega) (by omega)) ?_
    refine l_sti rfl rfl rfl rfl rfl (by exact rfl) (by exact rfl) (by exact rfl) (by exact ⟨rfl, rfl⟩) ?_
    refine l_p rfl rfl (p_assign rfl) ?_
    refine l_nil ?_
    have e : both a b = ((0, 0, 0), late (worse (pnum a).2 (pnum b).2) a b) := by rw [both, if_pos (by omega)]
    exact t_ret rfl (.cn rfl Rds.bxi rfl rfl (.tmp rfl .nil)) fun w hI => ⟨by rw [e]; rfl, hI.tail.tail⟩
  · refine t_skip ?_
    refine t_seq ?_
    refine t_seq ?_
    refine t_region ?_
    refine l_p rfl rfl (p_move rfl) ?_
    refine l_p rfl rfl (p_move rfl) ?_
    refine l_p rfl rfl (p_lt rfl rfl) ?_
    refine l_nil ?_
    refine t_ifd rfl (fun h2 => ?_) (fun h2 => ?_)
    · refine t_seq ?_
      refine t_region ?_
      refine l_p rfl rfl (p_build (by exact rfl) (by exact rfl) (by exact rfl) (by exact rfl)) ?_
      refine l_sti rfl rfl rfl rfl rfl (by exact rfl) (by exact rfl) (by exact rfl) (by exact ⟨rfl, rfl⟩) ?_
      refine l_p rfl rfl (p_assign rfl) ?_
      refine l_nil ?_
      have e : both a b = ((0, 0, 0), 3) := by rw [both, if_neg (by omega), if_pos (by omega)]
      exact t_ret rfl (.cn rfl Rds.bxi rfl rfl (.tmp rfl .nil)) fun w hI => ⟨by rw [e]; rfl, hI.tail.tail⟩
    · refine t_skip ?_
      refine t_seq ?_
      refine t_region ?_
      refine l_p rfl rfl (p_ldn (by exact rfl) Rds.bxi (by exact rfl) (by exact rfl)) ?_
      refine l_sti rfl rfl rfl rfl rfl (by exact rfl) (by exact rfl) (by exact rfl) (by exact ⟨rfl, rfl⟩) ?_
      refine l_p rfl rfl (p_assign rfl) ?_
      refine l_nil ?_
      have e : both a b = ((2, (pnum a).1, (pnum b).1), 0) := by rw [both, if_neg (by omega), if_neg (by omega)]
      exact t_ret rfl (.cn rfl Rds.bxi rfl rfl (.tmp rfl .nil)) fun w hI => ⟨by rw [e]; rfl, hI.tail.tail⟩
theorem sone (σ : Stb) (s : List UInt8) (hs : s.length ≤ 9223372036854775806) : SpV Tryz.prog 53 [st s] σ (vsp2 (one s)) := by
  refine spv Tryz.func53 rfl (by kernel_rfl) rfl fun F => ?_
  have hl := cut_len s 45
  refine t_seq ?_
  refine t_region ?_
  refine l_alloc (by exact rfl) (by exact rfl) (by exact rfl) ?_; intro _
  refine l_p rfl rfl (p_assign rfl) ?_
  refine l_nil ?_
  refine t_seq ?_
  refine t_region ?_
  refine l_p rfl rfl (p_move rfl) ?_
  refine l_callv rfl rfl rfl (tcut σ s 45 (by omega)) ?_
  refine l_p rfl rfl (p_move rfl) ?_
  refine l_p rfl rfl (p_ext rfl rfl) ?_
  refine l_p rfl rfl (p_ext rfl rfl) ?_
  refine l_p rfl rfl (p_ext rfl rfl) ?_
  refine l_p rfl rfl (p_assign rfl) ?_
  refine l_p rfl rfl (p_assign rfl) ?_
  refine l_p rfl rfl (p_assign rfl) ?_
  refine l_nil ?_
  refine t_seq ?_
  refine t_block ?_
  refine t_seq ?_
  refine t_region ?_
  refine l_p rfl rfl (p_move rfl) ?_
  refine l_p rfl rfl (p_not rfl) ?_
  refine l_p rfl rfl (p_assign rfl) ?_
  refine l_nil ?_
  refine t_if rfl (fun h => ?_) (fun h => ?_)
  · refine t_seq ?_
    refine t_region ?_
    refine l_p rfl rfl (p_build (by exact rfl) (by exact rfl) (by exact rfl) (by exact rfl)) ?_
    refine l_sti rfl rfl rfl rfl rfl (by exact rfl) (by exact rfl) (by exact rfl) (by exact ⟨rfl, rfl⟩) ?_
    refine l_p rfl rfl (p_assign rfl) ?_
    refine l_nil ?_
    have e : one s = ((0, 0, 0), 3) := by rw [one, if_pos (by simpa using h)]
    exact t_ret rfl (.cn rfl Rds.bxi rfl rfl (.tmp rfl .nil)) fun w hI => ⟨by rw [e]; rfl, hI.tail⟩
  have h0 : ¬ (cut s 45).2.2 = false := by simpa using h
  refine t_seq ?_
  refine t_region ?_
  refine l_p rfl rfl (p_move rfl) ?_
  refine l_p rfl rfl (p_seq rfl rfl) ?_
  refine l_p rfl rfl (p_assign rfl) ?_
  refine l_nil ?_
  refine t_ifd rfl (fun h2 => ?_) (fun h2 => ?_)
  · refine t_seq ?_
    refine t_region ?_
    refine l_p rfl rfl (p_move rfl) ?_
    refine l_callv rfl rfl rfl (ssingle σ 3 _ (by omega)) ?_
    refine l_p rfl rfl (p_ext rfl rfl) ?_
    refine l_p rfl rfl (p_ext rfl rfl) ?_
    refine l_sti rfl rfl rfl rfl rfl (by exact rfl) (by exact rfl) (by exact rfl) (by exact ⟨rfl, rfl⟩) ?_
    refine l_p rfl rfl (p_assign rfl) ?_
    refine l_nil ?_
    have e : one s = single 3 (cut s 45).2.1 := by rw [one, if_neg h0, if_pos h2]
    exact t_ret rfl (.cn rfl Rds.bxi rfl rfl (.tmp rfl .nil)) fun w hI => ⟨by rw [e]; rfl, hI.tail⟩
  refine t_seq ?_
  refine t_region ?_
  refine l_p rfl rfl (p_move rfl) ?_
  refine l_p rfl rfl (p_seq rfl rfl) ?_
  refine l_p rfl rfl (p_assign rfl) ?_
  refine l_nil ?_
  refine t_ifd rfl (fun h3 => ?_) (fun h3 => ?_)
  · refine t_seq ?_
    refine t_region ?_
    refine l_p rfl rfl (p_move rfl) ?_
    refine l_callv rfl rfl rfl (ssingle σ 1 _ (by omega)) ?_
    refine l_p rfl rfl (p_ext rfl rfl) ?_
    refine l_p rfl rfl (p_ext rfl rfl) ?_
    refine l_sti rfl rfl rfl rfl rfl (by exact rfl) (by exact rfl) (by exact rfl) (by exact ⟨rfl, rfl⟩) ?_
    refine l_p rfl rfl (p_assign rfl) ?_
    refine l_nil ?_
    have e : one s = single 1 (cut s 45).1 := by rw [one, if_neg h0, if_neg h2, if_pos h3]
    exact t_ret rfl (.cn rfl Rds.bxi rfl rfl (.tmp rfl .nil)) fun w hI => ⟨by rw [e]; rfl, hI.tail⟩
  refine t_skip ?_
  refine t_blk ?_
  refine t_seq ?_
  refine t_region ?_
  refine l_p rfl rfl (p_move rfl) ?_
  refine l_p rfl rfl (p_move rfl) ?_
  refine l_callv rfl rfl rfl (sboth σ _ _ (by omega) (by omega)) ?_
  refine l_p rfl rfl (p_ext rfl rfl) ?_
  refine l_p rfl rfl (p_ext rfl rfl) ?_
  refine l_sti rfl rfl rfl rfl rfl (by exact rfl) (by exact rfl) (by exact rfl) (by exact ⟨rfl, rfl⟩) ?_
  refine l_p rfl rfl (p_assign rfl) ?_
  refine l_nil ?_
  have e : one s = both (cut s 45).1 (cut s 45).2.1 := by rw [one, if_neg h0, if_neg h2, if_neg h3]
  exact t_ret rfl (.cn rfl Rds.bxi rfl rfl (.tmp rfl .nil)) fun w hI => ⟨by rw [e]; rfl, hI.tail⟩
theorem rone (σ : Stb) (s : List UInt8) (hs : s.length ≤ 9223372036854775806) : SpV Tryz.prog 45 [st s] σ (vsp2 (one s)) := by
  refine spv Tryz.func45 rfl (by kernel_rfl) rfl fun F => ?_
  have hl := cut_len s 45
  refine t_seq ?_
  refine t_region ?_
  refine l_alloc (by exact rfl) (by exact rfl) (by exact rfl) ?_; intro _
  refine l_p rfl rfl (p_assign rfl) ?_
  refine l_nil ?_
  refine t_seq ?_
  refine t_region ?_
  refine l_p rfl rfl (p_move rfl) ?_
  refine l_callv rfl rfl rfl (rcut σ s 45 (by omega)) ?_
  refine l_p rfl rfl (p_move rfl) ?_
  refine l_p rfl rfl (p_ext rfl rfl) ?_
  refine l_p rfl rfl (p_ext rfl rfl) ?_
  refine l_p rfl rfl (p_ext rfl rfl) ?_
  refine l_p rfl rfl (p_assign rfl) ?_
  refine l_p rfl rfl (p_assign rfl) ?_
  refine l_p rfl rfl (p_assign rfl) ?_
  refine l_nil ?_
  refine t_seq ?_
  refine t_region ?_
  refine l_p rfl rfl (p_move rfl) ?_
  refine l_callv rfl rfl rfl (rparse σ _ (by omega)) ?_
  refine l_p rfl rfl (p_move rfl) ?_
  refine l_p rfl rfl (p_ext rfl rfl) ?_
  refine l_p rfl rfl (p_ext rfl rfl) ?_
  refine l_p rfl rfl (p_assign rfl) ?_
  refine l_p rfl rfl (p_assign rfl) ?_
  refine l_nil ?_
  refine t_seq ?_
  refine t_region ?_
  refine l_p rfl rfl (p_move rfl) ?_
  refine l_callv rfl rfl rfl (rparse σ _ (by omega)) ?_
  refine l_p rfl rfl (p_move rfl) ?_
  refine l_p rfl rfl (p_ext rfl rfl) ?_
  refine l_p rfl rfl (p_ext rfl rfl) ?_
  refine l_p rfl rfl (p_assign rfl) ?_
  refine l_p rfl rfl (p_assign rfl) ?_
  refine l_nil ?_
  refine t_block ?_
  refine t_seq ?_
  refine t_region ?_
  refine l_p rfl rfl (p_move rfl) ?_
  refine l_p rfl rfl (p_not rfl) ?_
  refine l_p rfl rfl (p_assign rfl) ?_
  refine l_nil ?_
  refine t_if rfl (fun h => ?_) (fun h => ?_)
  · refine t_seq ?_
    refine t_region ?_
    refine l_p rfl rfl (p_build (by exact rfl) (by exact rfl) (by exact rfl) (by exact rfl)) ?_
    refine l_sti rfl rfl rfl rfl rfl (by exact rfl) (by exact rfl) (by exact rfl) (by exact ⟨rfl, rfl⟩) ?_
    refine l_p rfl rfl (p_assign rfl) ?_
    refine l_nil ?_
    have e : one s = ((0, 0, 0), 3) := by rw [one, if_pos (by simpa using h)]
    exact t_ret rfl (.cn rfl Rds.bxi rfl rfl (.tmp rfl .nil)) fun w hI => ⟨by rw [e]; rfl, hI.tail⟩
  have h0 : ¬ (cut s 45).2.2 = false := by simpa using h
  refine t_seq ?_
  refine t_region ?_
  refine l_p rfl rfl (p_move rfl) ?_
  refine l_p rfl rfl (p_seq rfl rfl) ?_
  refine l_p rfl rfl (p_assign rfl) ?_
  refine l_nil ?_
  refine t_ifd rfl (fun h2 => ?_) (fun h2 => ?_)
  · have e : one s = single 3 (cut s 45).2.1 := by rw [one, if_neg h0, if_pos h2]
    refine t_seq ?_
    refine t_seq ?_
    refine t_region ?_
    refine l_p rfl rfl (p_move rfl) ?_
    refine l_p rfl rfl (p_ne rfl rfl) ?_
    refine l_nil ?_
    refine t_ifd rfl (fun h4 => ?_) (fun h4 => ?_)
    · refine t_seq ?_
      refine t_region ?_
      refine l_p rfl rfl (p_build (by exact rfl) (by exact rfl) (by exact rfl) (by exact rfl)) ?_
      refine l_p rfl rfl (p_move rfl) ?_
      refine l_sti rfl rfl rfl rfl rfl (by exact rfl) (by exact rfl) (by exact rfl) (by exact ⟨rfl, rfl⟩) ?_
      refine l_p rfl rfl (p_assign rfl) ?_
      refine l_nil ?_
      rw [single, if_pos (by omega)] at e
      exact t_ret rfl (.cn rfl Rds.bxi rfl rfl (.tmp rfl .nil)) fun w hI => ⟨by rw [e]; rfl, hI.tail⟩
    · refine t_skip ?_
      refine t_seq ?_
      refine t_region ?_
      refine l_p rfl rfl (p_move rfl) ?_
      refine l_p rfl rfl (p_build (by exact rfl) (by exact rfl) (by exact rfl) (by exact rfl)) ?_
      refine l_sti rfl rfl rfl rfl rfl (by exact rfl) (by exact rfl) (by exact rfl) (by exact ⟨rfl, rfl⟩) ?_
      refine l_p rfl rfl (p_assign rfl) ?_
      refine l_nil ?_
      rw [single, if_neg (by omega)] at e
      exact t_ret rfl (.cn rfl Rds.bxi rfl rfl (.tmp rfl .nil)) fun w hI => ⟨by rw [e]; rfl, hI.tail⟩
  refine t_seq ?_
  refine t_region ?_
  refine l_p rfl rfl (p_move rfl) ?_
  refine l_p rfl rfl (p_seq rfl rfl) ?_
  refine l_p rfl rfl (p_assign rfl) ?_
  refine l_nil ?_
  refine t_ifd rfl (fun h3 => ?_) (fun h3 => ?_)
  · have e : one s = single 1 (cut s 45).1 := by rw [one, if_neg h0, if_neg h2, if_pos h3]
    refine t_seq ?_
    refine t_seq ?_
    refine t_region ?_
    refine l_p rfl rfl (p_move rfl) ?_
    refine l_p rfl rfl (p_ne rfl rfl) ?_
    refine l_nil ?_
    refine t_ifd rfl (fun h4 => ?_) (fun h4 => ?_)
    · refine t_seq ?_
      refine t_region ?_
      refine l_p rfl rfl (p_build (by exact rfl) (by exact rfl) (by exact rfl) (by exact rfl)) ?_
      refine l_p rfl rfl (p_move rfl) ?_
      refine l_sti rfl rfl rfl rfl rfl (by exact rfl) (by exact rfl) (by exact rfl) (by exact ⟨rfl, rfl⟩) ?_
      refine l_p rfl rfl (p_assign rfl) ?_
      refine l_nil ?_
      rw [single, if_pos (by omega)] at e
      exact t_ret rfl (.cn rfl Rds.bxi rfl rfl (.tmp rfl .nil)) fun w hI => ⟨by rw [e]; rfl, hI.tail⟩
    · refine t_skip ?_
      refine t_seq ?_
      refine t_region ?_
      refine l_p rfl rfl (p_move rfl) ?_
      refine l_p rfl rfl (p_build (by exact rfl) (by exact rfl) (by exact rfl) (by exact rfl)) ?_
      refine l_sti rfl rfl rfl rfl rfl (by exact rfl) (by exact rfl) (by exact rfl) (by exact ⟨rfl, rfl⟩) ?_
      refine l_p rfl rfl (p_assign rfl) ?_
      refine l_nil ?_
      rw [single, if_neg (by omega)] at e
      exact t_ret rfl (.cn rfl Rds.bxi rfl rfl (.tmp rfl .nil)) fun w hI => ⟨by rw [e]; rfl, hI.tail⟩
  have e : one s = both (cut s 45).1 (cut s 45).2.1 := by rw [one, if_neg h0, if_neg h2, if_neg h3]
  rw [both_ref] at e
  refine t_seq ?_
  refine t_region ?_
  refine l_p rfl rfl (p_move rfl) ?_
  refine l_p rfl rfl (p_eq rfl rfl) ?_
  refine l_p rfl rfl (p_move rfl) ?_
  refine l_split 55 rfl (fun h4 => ?_) (fun h4 => ?_)
  · rw [if_pos (.inl (by omega))] at e
    refine l_skip rfl rfl ?_
    refine l_skip rfl rfl ?_
    refine l_p rfl rfl (p_pickt rfl rfl) ?_
    refine l_p rfl rfl (p_move rfl) ?_
    refine l_skip rfl rfl ?_
    refine l_skip rfl rfl ?_
    refine l_skip rfl rfl ?_
    refine l_p rfl rfl (p_pickt rfl rfl) ?_
    refine l_p rfl rfl (p_assign rfl) ?_
    refine l_nil ?_
    refine t_ift rfl ?_
    refine t_seq ?_
    refine t_region ?_
    refine l_p rfl rfl (p_build (by exact rfl) (by exact rfl) (by exact rfl) (by exact rfl)) ?_
    refine l_sti rfl rfl rfl rfl rfl (by exact rfl) (by exact rfl) (by exact rfl) (by exact ⟨rfl, rfl⟩) ?_
    refine l_p rfl rfl (p_assign rfl) ?_
    refine l_nil ?_
    exact t_ret rfl (.cn rfl Rds.bxi rfl rfl (.tmp rfl .nil)) fun w hI => ⟨by rw [e]; rfl, hI.tail⟩
  refine l_p rfl rfl (p_move rfl) ?_
  refine l_p rfl rfl (p_eq rfl rfl) ?_
  refine l_p rfl rfl (p_pickf rfl rfl) ?_
  refine l_p rfl rfl (p_move rfl) ?_
  refine l_split 59 rfl (fun h5 => ?_) (fun h5 => ?_)
  · rw [if_pos (.inr (.inl (by omega)))] at e
    refine l_skip rfl rfl ?_
    refine l_skip rfl rfl ?_
    refine l_skip rfl rfl ?_
    refine l_p rfl rfl (p_pickt rfl rfl) ?_
    refine l_p rfl rfl (p_assign rfl) ?_
    refine l_nil ?_
    refine t_ift rfl ?_
    refine t_seq ?_
    refine t_region ?_
    refine l_p rfl rfl (p_build (by exact rfl) (by exact rfl) (by exact rfl) (by exact rfl)) ?_
    refine l_sti rfl rfl rfl rfl rfl (by exact rfl) (by exact rfl) (by exact rfl) (by exact ⟨rfl, rfl⟩) ?_
    refine l_p rfl rfl (p_assign rfl) ?_
    refine l_nil ?_
    exact t_ret rfl (.cn rfl Rds.bxi rfl rfl (.tmp rfl .nil)) fun w hI => ⟨by rw [e]; rfl, hI.tail⟩
  refine l_p rfl rfl (p_move rfl) ?_
  refine l_p rfl rfl (p_move rfl) ?_
  refine l_callv rfl rfl rfl (rless σ _ _ (by omega) (by omega)) ?_
  refine l_p rfl rfl (p_pickf rfl rfl) ?_
  refine l_p rfl rfl (p_assign rfl) ?_
  refine l_nil ?_
  refine t_if rfl (fun h6 => ?_) (fun h6 => ?_)
  · rw [if_pos (.inr (.inr h6))] at e
    refine t_seq ?_
    refine t_region ?_
    refine l_p rfl rfl (p_build (by exact rfl) (by exact rfl) (by exact rfl) (by exact rfl)) ?_
    refine l_sti rfl rfl rfl rfl rfl (by exact rfl) (by exact rfl) (by exact rfl) (by exact ⟨rfl, rfl⟩) ?_
    refine l_p rfl rfl (p_assign rfl) ?_
    refine l_nil ?_
    exact t_ret rfl (.cn rfl Rds.bxi rfl rfl (.tmp rfl .nil)) fun w hI => ⟨by rw [e]; rfl, hI.tail⟩
  rw [if_neg (by rintro (h | h | h); exact h4 (by omega); exact h5 (by omega); rw [h6] at h; cases h)] at e
  refine t_seq ?_
  refine t_region ?_
  refine l_p rfl rfl (p_move rfl) ?_
  refine l_p rfl rfl (p_ne rfl rfl) ?_
  refine l_p rfl rfl (p_move rfl) ?_
  refine l_split 68 rfl (fun h7 => ?_) (fun h7 => ?_)
  · rw [if_pos (.inl (by omega))] at e
    refine l_skip rfl rfl ?_
    refine l_skip rfl rfl ?_
    refine l_p rfl rfl (p_pickt rfl rfl) ?_
    refine l_p rfl rfl (p_assign rfl) ?_
    refine l_nil ?_
    refine t_ift rfl ?_
    refine t_seq ?_
    refine t_region ?_
    refine l_p rfl rfl (p_build (by exact rfl) (by exact rfl) (by exact rfl) (by exact rfl)) ?_
    refine l_sti rfl rfl rfl rfl rfl (by exact rfl) (by exact rfl) (by exact rfl) (by exact ⟨rfl, rfl⟩) ?_
    refine l_p rfl rfl (p_assign rfl) ?_
    refine l_nil ?_
    exact t_ret rfl (.cn rfl Rds.bxi rfl rfl (.tmp rfl .nil)) fun w hI => ⟨by rw [e]; rfl, hI.tail⟩
  refine l_p rfl rfl (p_move rfl) ?_
  refine l_p rfl rfl (p_ne rfl rfl) ?_
  refine l_p rfl rfl (p_pickf rfl rfl) ?_
  refine l_p rfl rfl (p_assign rfl) ?_
  refine l_nil ?_
  refine t_ifd rfl (fun h8 => ?_) (fun h8 => ?_)
  · rw [if_pos (.inr (by omega))] at e
    refine t_seq ?_
    refine t_region ?_
    refine l_p rfl rfl (p_build (by exact rfl) (by exact rfl) (by exact rfl) (by exact rfl)) ?_
    refine l_sti rfl rfl rfl rfl rfl (by exact rfl) (by exact rfl) (by exact rfl) (by exact ⟨rfl, rfl⟩) ?_
    refine l_p rfl rfl (p_assign rfl) ?_
    refine l_nil ?_
    exact t_ret rfl (.cn rfl Rds.bxi rfl rfl (.tmp rfl .nil)) fun w hI => ⟨by rw [e]; rfl, hI.tail⟩
  rw [if_neg (by omega)] at e
  refine t_seq ?_
  refine t_region ?_
  refine l_p rfl rfl (p_move rfl) ?_
  refine l_p rfl rfl (p_move rfl) ?_
  refine l_p rfl rfl (p_build (by exact rfl) (by exact rfl) (by exact rfl) (by exact rfl)) ?_
  refine l_sti rfl rfl rfl rfl rfl (by exact rfl) (by exact rfl) (by exact rfl) (by exact ⟨rfl, rfl⟩) ?_
  refine l_p rfl rfl (p_assign rfl) ?_
  refine l_nil ?_
  exact t_ret rfl (.cn rfl Rds.bxi rfl rfl (.tmp rfl .nil)) fun w hI => ⟨by rw [e]; rfl, hI.tail⟩
end Go.Proofs.YtfglenbfbcckjaaGreatDoor
