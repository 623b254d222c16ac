/- Layer 1 (numbers), and the document's: walks. -/
import Derived.Test.YtfglenbfbcckjaaGreatDoorTy
import Derived.Test.YtfglenbfbcckjaaGreatDoorX2
set_option linter.unusedSimpArgs false
set_option linter.unusedVariables false
set_option maxRecDepth 20000
namespace Go.Proofs.YtfglenbfbcckjaaGreatDoor
open Go.Sp
attribute [local irreducible] Go.Sp.Pr Go.Sp.Ws Go.Sp.Wl Go.Sp.Wq Go.Sp.Rds Go.Sp.Src
theorem ndigit (σ : Stb) (b : UInt8) : SpV Tryz.prog 96 [u8 b] σ (.tuple #[i64 (if isD b then ((b.toNat - 48 : Nat) : Int) else 0), .bool (isD b)]) := by
  refine spv Tryz.func96 rfl (by kernel_rfl) rfl fun F => ?_
  refine t_seq ?_
  refine t_region ?_
  refine l_p rfl rfl (p_assign rfl) ?_
  refine l_p rfl rfl (p_assign rfl) ?_
  refine l_nil ?_
  refine t_seq ?_
  refine t_seq ?_
  refine t_region ?_
  refine l_p rfl rfl (p_move rfl) ?_
  refine l_p rfl rfl (p_lt rfl rfl) ?_
  refine l_p rfl rfl (p_move rfl) ?_
  refine l_split 6 rfl (fun h => ?_) (fun h => ?_)
  · refine l_skip rfl rfl ?_
    refine l_skip rfl rfl ?_
    refine l_p rfl rfl (p_pickt rfl rfl) ?_
    refine l_nil ?_
    refine t_ift rfl ?_
    refine t_seq ?_
    refine t_region ?_
    refine l_p rfl rfl (p_assign rfl) ?_
    refine l_p rfl rfl (p_assign rfl) ?_
    refine l_nil ?_
    have e : isD b = false := by simp [isD]; omega
    exact t_ret2 rfl rfl rfl fun w hI => ⟨by rw [e]; rfl, hI⟩
  · refine l_p rfl rfl (p_move rfl) ?_
    refine l_p rfl rfl (p_gt rfl rfl) ?_
    refine l_p rfl rfl (p_pickf rfl rfl) ?_
    refine l_nil ?_
    refine t_ifd rfl (fun h2 => ?_) (fun h2 => ?_)
    · refine t_seq ?_
      refine t_region ?_
      refine l_p rfl rfl (p_assign rfl) ?_
      refine l_p rfl rfl (p_assign rfl) ?_
      refine l_nil ?_
      have e : isD b = false := by simp [isD]; omega
      exact t_ret2 rfl rfl rfl fun w hI => ⟨by rw [e]; rfl, hI⟩
    · refine t_skip ?_
      refine t_seq ?_
      refine t_region ?_
      refine l_p rfl rfl (p_move rfl) ?_
      refine l_p rfl rfl (p_subb rfl rfl (by omega)) ?_
      refine l_p rfl rfl (p_conv64 (by exact rfl) (by omega)) ?_
      refine l_p rfl rfl (p_assign rfl) ?_
      refine l_p rfl rfl (p_assign rfl) ?_
      refine l_nil ?_
      have e : isD b = true := by simp [isD]; omega
      exact t_ret2 rfl rfl rfl fun w hI => ⟨by rw [e]; simp; omega, hI⟩
theorem rdigit (σ : Stb) (b : UInt8) : SpV Tryz.prog 84 [u8 b] σ (.bool (isD b)) := by
  refine spv Tryz.func84 rfl (by kernel_rfl) rfl fun F => ?_
  refine t_seq ?_
  refine t_region ?_
  refine l_p rfl rfl (p_assign rfl) ?_
  refine l_nil ?_
  refine t_seq ?_
  refine t_region ?_
  refine l_p rfl rfl (p_move rfl) ?_
  refine l_p rfl rfl (p_ge rfl rfl) ?_
  refine l_p rfl rfl (p_move rfl) ?_
  refine l_split 5 rfl (fun h => ?_) (fun h => ?_)
  all_goals
    first | (refine l_p rfl rfl (p_move rfl) ?_; refine l_p rfl rfl (p_le rfl rfl) ?_; refine l_p rfl rfl (p_pickt rfl rfl) ?_; refine l_p rfl rfl (p_assign rfl) ?_; refine l_nil ?_) | (refine l_skip rfl rfl ?_; refine l_skip rfl rfl ?_; refine l_p rfl rfl (p_pickf rfl rfl) ?_; refine l_p rfl rfl (p_assign rfl) ?_; refine l_nil ?_)
    exact t_ret1 rfl rfl fun w hI => ⟨by congr 1; rw [Bool.eq_iff_iff]; simp [isD]; try omega, hI⟩
abbrev vnum (x : Nat × Nat) : Value := .tuple #[i64 x.1, i64 x.2]
theorem nparse (σ : Stb) (s : List UInt8) (hs : s.length ≤ 9223372036854775806) : SpV Tryz.prog 87 [st s] σ (vnum (pnum s)) := by
  refine spv Tryz.func87 rfl (by kernel_rfl) rfl fun F => ?_
  refine t_seq ?_
  refine t_region ?_
  refine l_p rfl rfl (p_assign rfl) ?_
  refine l_p rfl rfl (p_assign rfl) ?_
  refine l_nil ?_
  refine t_scope ?_
  refine t_seq ?_
  refine t_region ?_
  refine l_p rfl rfl (p_assign rfl) ?_
  refine l_p rfl rfl (p_assign rfl) ?_
  refine l_nil ?_
  refine t_seq ?_
  refine t_label ?_
  refine t_seq ?_
  refine t_seq ?_
  refine t_region ?_
  refine l_p rfl rfl (p_move rfl) ?_
  refine l_p rfl rfl (p_lens (by exact rfl)) ?_
  refine l_p rfl rfl (p_move rfl) ?_
  refine l_nil ?_
  refine t_block ?_
  refine t_loop (ι := Nat × Nat × Bool) { E := fun i => [(0, st s), (10, i64 s.length), (11, i64 i.1), (4, i64 i.2.1), (5, .bool i.2.2)], S := fun _ => σ, M := fun _ => F, Φ := fun i => i.1 ≤ s.length ∧ (s.take i.1).all isD = true ∧ i.2.1 ≤ maxNum ∧ (i.2.2 = true → maxNum < val (s.take i.1)) ∧ (i.2.2 = false → i.2.1 = val (s.take i.1)) } (fun i => s.length - i.1) (0, 0, false)
    (by exact ⟨rfl, rfl, rfl, rfl, rfl, trivial⟩) ⟨Nat.zero_le _, by simp, by simp [maxNum], by simp, by simp [val]⟩ (fun w hI => hI) ?_
  rintro ⟨i, n, ov⟩ ⟨h1, h2, h3, h4, h5⟩
  dsimp only at h1 h2 h3 h4 h5 ⊢
  refine t_seq ?_
  refine t_region ?_
  refine l_p rfl rfl (p_lt rfl rfl) ?_
  refine l_nil ?_
  refine t_seq ?_
  refine t_ifd rfl (fun h => ?_) (fun h => ?_)
  · have hn : i < s.length := by omega
    refine t_skip ?_
    refine t_seq ?_
    refine t_block ?_
    refine t_seq ?_
    refine t_region ?_
    refine l_p rfl rfl (p_move rfl) ?_
    refine l_p rfl rfl (p_assign rfl) ?_
    refine l_nil ?_
    refine t_seq ?_
    refine t_region ?_
    refine l_p rfl rfl (p_move rfl) ?_
    refine l_p rfl rfl (p_move rfl) ?_
    refine l_p rfl rfl (p_six _ (by exact rfl) (by exact rfl) rfl (by omega)) ?_
    refine l_callv rfl rfl rfl (ndigit _ _) ?_
    refine l_p rfl rfl (p_move rfl) ?_
    refine l_p rfl rfl (p_ext rfl rfl) ?_
    refine l_p rfl rfl (p_ext rfl rfl) ?_
    refine l_p rfl rfl (p_assign rfl) ?_
    refine l_p rfl rfl (p_assign rfl) ?_
    refine l_nil ?_
    refine t_seq ?_
    refine t_block ?_
    refine t_seq ?_
    refine t_region ?_
    refine l_p rfl rfl (p_move rfl) ?_
    refine l_p rfl rfl (p_not rfl) ?_
    refine l_p rfl rfl (p_assign rfl) ?_
    refine l_nil ?_
    have ht := val_take hn
    have hall : (s.take (i + 1)).all isD = (isD s[i]) := by rw [take_succ s i hn, List.all_append, h2]; simp
    refine t_if rfl (fun hd => ?_) (fun hd => ?_)
    · have hd' : isD s[i] = false := by simpa using hd
      refine t_seq ?_
      refine t_region ?_
      refine l_p rfl rfl (p_assign rfl) ?_
      refine l_p rfl rfl (p_assign rfl) ?_
      refine l_nil ?_
      have e : pnum s = (0, 3) := pnum_bad (List.getElem_mem hn) hd'
      exact t_ret2 rfl rfl rfl fun w hI => ⟨by rw [e]; rfl, hI⟩
    · have hd' : isD s[i] = true := by simpa using hd
      rw [hd'] at hall
      simp only [hd', if_true]
      have hb : s[i].toNat - 48 ≤ 9 := by simp [isD] at hd'; omega
      refine t_seq ?_
      refine t_region ?_
      refine l_p rfl rfl (p_move rfl) ?_
      refine l_p rfl rfl (p_assign rfl) ?_
      refine l_nil ?_
      cases ov with
      | true =>
        have h4' := h4 rfl
        refine t_ift rfl ?_
        refine t_exit rfl ?_
        refine t_region ?_
        refine l_p rfl rfl (p_add rfl rfl (by omega)) ?_
        refine l_p rfl rfl (p_move rfl) ?_
        refine l_nil ?_
        exact t_round (i + 1, n, true) ⟨rfl, rfl, gi rfl (by omega), rfl, rfl, trivial⟩ ⟨by omega, hall, h3, fun _ => by simp only; omega, fun h => by cases h⟩ (by show s.length - (i + 1) < s.length - i; omega) (fun w hI => hI)
      | false =>
        have h5' := h5 rfl
        simp only [maxNum] at h3
        refine t_iff rfl ?_
        refine t_skip ?_
        refine t_blk ?_
        refine t_seq ?_
        refine t_seq ?_
        refine t_region ?_
        refine l_p rfl rfl (p_move rfl) ?_
        refine l_p rfl rfl (p_move rfl) ?_
        refine l_p rfl rfl (p_sub rfl rfl (by omega)) ?_
        refine l_p rfl rfl (p_quo rfl rfl (by omega)) ?_
        refine l_p rfl rfl (p_gt rfl rfl) ?_
        refine l_nil ?_
        refine t_ifd rfl (fun h6 => ?_) (fun h6 => ?_)
        · refine t_seq ?_
          refine t_region ?_
          refine l_p rfl rfl (p_assign rfl) ?_
          refine l_nil ?_
          refine t_exit rfl ?_
          refine t_region ?_
          refine l_p rfl rfl (p_add rfl rfl (by omega)) ?_
          refine l_p rfl rfl (p_move rfl) ?_
          refine l_nil ?_
          exact t_round (i + 1, n, true) ⟨rfl, rfl, gi rfl (by omega), rfl, rfl, trivial⟩ ⟨by omega, hall, by simpa [maxNum] using h3, fun _ => by simp only [maxNum]; omega, fun h => by cases h⟩ (by show s.length - (i + 1) < s.length - i; omega) (fun w hI => hI)
        · refine t_skip ?_
          refine t_region ?_
          refine l_p rfl rfl (p_move rfl) ?_
          refine l_p rfl rfl (p_mul rfl rfl (by omega)) ?_
          refine l_p rfl rfl (p_move rfl) ?_
          refine l_p rfl rfl (p_add rfl rfl (by omega)) ?_
          refine l_p rfl rfl (p_assign rfl) ?_
          refine l_nil ?_
          refine t_blk ?_
          refine t_region ?_
          refine l_p rfl rfl (p_add rfl rfl (by omega)) ?_
          refine l_p rfl rfl (p_move rfl) ?_
          refine l_nil ?_
          skip
          exact t_round (i + 1, 10 * n + (s[i].toNat - 48), false) ⟨rfl, rfl, gi rfl (by omega), gi rfl (by simp), rfl, trivial⟩ ⟨by omega, hall, by simp only [maxNum]; omega, fun h => (by cases h), fun _ => by simp only; omega⟩ (by show s.length - (i + 1) < s.length - i; omega) (fun w hI => hI)
  · have hn : i = s.length := by omega
    subst hn
    simp only [List.take_length] at h2 h4 h5
    refine t_exit rfl ?_
    refine t_seq ?_
    refine t_block ?_
    refine t_seq ?_
    refine t_region ?_
    refine l_p rfl rfl (p_move rfl) ?_
    refine l_p rfl rfl (p_seq rfl rfl) ?_
    refine l_p rfl rfl (p_assign rfl) ?_
    refine l_nil ?_
    refine t_ifd rfl (fun h6 => ?_) (fun h6 => ?_)
    · refine t_seq ?_
      refine t_region ?_
      refine l_p rfl rfl (p_assign rfl) ?_
      refine l_p rfl rfl (p_assign rfl) ?_
      refine l_nil ?_
      subst h6
      exact t_ret2 rfl rfl rfl fun w hI => ⟨rfl, hI⟩
    · refine t_seq ?_
      refine t_region ?_
      refine l_p rfl rfl (p_move rfl) ?_
      refine l_p rfl rfl (p_assign rfl) ?_
      refine l_nil ?_
      cases ov with
      | true =>
        have h4' := h4 rfl
        refine t_ift rfl ?_
        refine t_seq ?_
        refine t_region ?_
        refine l_p rfl rfl (p_assign rfl) ?_
        refine l_p rfl rfl (p_assign rfl) ?_
        refine l_nil ?_
        exact t_ret2 rfl rfl rfl fun w hI => ⟨by rw [pnum_over h6 h2 h4']; rfl, hI⟩
      | false =>
        have h5' := h5 rfl
        refine t_iff rfl ?_
        refine t_skip ?_
        refine t_blk ?_
        refine t_seq ?_
        refine t_region ?_
        refine l_p rfl rfl (p_move rfl) ?_
        refine l_p rfl rfl (p_assign rfl) ?_
        refine l_p rfl rfl (p_assign rfl) ?_
        refine l_nil ?_
        exact t_ret2 rfl rfl rfl fun w hI => ⟨by rw [pnum_ok h6 h2 (by omega)]; simp [h5'], hI⟩
theorem rparse (σ : Stb) (s : List UInt8) (hs : s.length ≤ 9223372036854775806) : SpV Tryz.prog 65 [st s] σ (vnum (pnum s)) := by
  refine spv Tryz.func65 rfl (by kernel_rfl) rfl fun F => ?_
  refine t_seq ?_
  refine t_region ?_
  refine l_p rfl rfl (p_assign rfl) ?_
  refine l_p rfl rfl (p_assign rfl) ?_
  refine l_nil ?_
  refine t_seq ?_
  refine t_seq ?_
  refine t_region ?_
  refine l_p rfl rfl (p_move rfl) ?_
  refine l_p rfl rfl (p_lens (by exact rfl)) ?_
  refine l_p rfl rfl (p_eq rfl rfl) ?_
  refine l_nil ?_
  refine t_ifd rfl (fun h0 => ?_) (fun h0 => ?_)
  · have : s = [] := List.length_eq_zero_iff.1 (by omega)
    subst this
    refine t_seq ?_
    refine t_region ?_
    refine l_p rfl rfl (p_assign rfl) ?_
    refine l_p rfl rfl (p_assign rfl) ?_
    refine l_nil ?_
    exact t_ret2 rfl rfl rfl fun w hI => ⟨rfl, hI⟩
  have hne : s ≠ [] := fun e => h0 (by subst e; rfl)
  refine t_skip ?_
  refine t_seq ?_
  refine t_seq ?_
  refine t_region ?_
  refine l_p rfl rfl (p_assign rfl) ?_
  refine l_nil ?_
  refine t_cut (ι := Unit) { E := fun _ => [(0, st s)], S := fun _ => σ, M := fun _ => F, Φ := fun _ => s.all isD = true } ?_ ?_
  · refine t_block ?_
    refine t_loop (ι := Nat) { E := fun n => [(0, st s), (4, i64 n)], S := fun _ => σ, M := fun _ => F, Φ := fun n => n ≤ s.length ∧ (s.take n).all isD = true } (fun n => s.length - n) 0
      (by exact ⟨rfl, rfl, trivial⟩) ⟨Nat.zero_le _, by simp⟩ (fun w hI => hI) ?_
    rintro i ⟨h1, h2⟩
    dsimp only at h1 h2 ⊢
    refine t_seq ?_
    refine t_seq ?_
    refine t_region ?_
    refine l_p rfl rfl (p_move rfl) ?_
    refine l_p rfl rfl (p_move rfl) ?_
    refine l_p rfl rfl (p_lens (by exact rfl)) ?_
    refine l_p rfl rfl (p_lt rfl rfl) ?_
    refine l_nil ?_
    refine t_ifd rfl (fun h => ?_) (fun h => ?_)
    · have hn : i < s.length := by omega
      have hall : (s.take (i + 1)).all isD = (isD s[i]) := by rw [take_succ s i hn, List.all_append, h2]; simp
      refine t_skip ?_
      refine t_seq ?_
      refine t_block ?_
      refine t_seq ?_
      refine t_region ?_
      refine l_p rfl rfl (p_move rfl) ?_
      refine l_p rfl rfl (p_move rfl) ?_
      refine l_p rfl rfl (p_six _ (by exact rfl) (by exact rfl) rfl (by omega)) ?_
      refine l_callv rfl rfl rfl (rdigit _ _) ?_
      refine l_p rfl rfl (p_not rfl) ?_
      refine l_nil ?_
      refine t_if rfl (fun hd => ?_) (fun hd => ?_)
      · have hd' : isD s[i] = false := by simpa using hd
        refine t_seq ?_
        refine t_region ?_
        refine l_p rfl rfl (p_assign rfl) ?_
        refine l_p rfl rfl (p_assign rfl) ?_
        refine l_nil ?_
        have e : pnum s = (0, 3) := pnum_bad (List.getElem_mem hn) hd'
        exact t_ret2 rfl rfl rfl fun w hI => ⟨by rw [e]; rfl, hI⟩
      · have hd' : isD s[i] = true := by simpa using hd
        refine t_skip ?_
        refine t_blk ?_
        refine t_region ?_
        refine l_p rfl rfl (p_move rfl) ?_
        refine l_p rfl rfl (p_add rfl rfl (by omega)) ?_
        refine l_p rfl rfl (p_assign rfl) ?_
        refine l_nil ?_
        exact t_round (i + 1) ⟨rfl, gi rfl (by omega), trivial⟩ ⟨by omega, by rw [hall, hd']⟩ (by show s.length - (i + 1) < s.length - i; omega) (fun w hI => hI)
    · have hn : i = s.length := by omega
      subst hn
      refine t_exit rfl ?_
      exact t_back () ⟨rfl, trivial⟩ (by simpa using h2) (fun w hI => hI)
  intro _ hall
  dsimp only at hall ⊢
  refine t_seq ?_
  refine t_region ?_
  refine l_p rfl rfl (p_assign rfl) ?_
  refine l_nil ?_
  refine t_seq ?_
  have hlen : 0 < s.length := by omega
  refine t_cut (ι := Nat) { E := fun i => [(0, st s), (5, i64 i)], S := fun _ => σ, M := fun _ => F, Φ := fun i => i < s.length ∧ val (s.drop i) = val s ∧ ((s.drop i).length = 1 ∨ ∃ b r, s.drop i = b :: r ∧ b ≠ 48) } ?_ ?_
  · refine t_block ?_
    refine t_loop (ι := Nat) { E := fun n => [(0, st s), (5, i64 n)], S := fun _ => σ, M := fun _ => F, Φ := fun n => n < s.length ∧ val (s.drop n) = val s } (fun n => s.length - n) 0
      (by exact ⟨rfl, rfl, trivial⟩) ⟨hlen, by simp⟩ (fun w hI => hI) ?_
    rintro i ⟨h1, h2⟩
    dsimp only at h1 h2 ⊢
    refine t_seq ?_
    refine t_seq ?_
    refine t_region ?_
    refine l_p rfl rfl (p_move rfl) ?_
    refine l_p rfl rfl (p_move rfl) ?_
    refine l_p rfl rfl (p_lens (by exact rfl)) ?_
    refine l_p rfl rfl (p_sub rfl rfl (by omega)) ?_
    refine l_p rfl rfl (p_lt rfl rfl) ?_
    refine l_p rfl rfl (p_move rfl) ?_
    refine l_split 28 rfl (fun h => ?_) (fun h => ?_)
    · refine l_p rfl rfl (p_move rfl) ?_
      refine l_p rfl rfl (p_move rfl) ?_
      refine l_p rfl rfl (p_six _ (by exact rfl) (by exact rfl) rfl (by omega)) ?_
      refine l_p rfl rfl (p_eq rfl rfl) ?_
      refine l_p rfl rfl (p_pickt rfl rfl) ?_
      refine l_nil ?_
      refine t_ifd rfl (fun h3 => ?_) (fun h3 => ?_)
      · refine t_skip ?_
        refine t_block ?_
        refine t_region ?_
        refine l_p rfl rfl (p_move rfl) ?_
        refine l_p rfl rfl (p_add rfl rfl (by omega)) ?_
        refine l_p rfl rfl (p_assign rfl) ?_
        refine l_nil ?_
        refine t_blk ?_
        have e : s[i] = 48 := UInt8.toNat_inj.1 (by simpa using (Int.ofNat_inj.1 h3))
        rw [drop_cons s i h1, e, val_cons] at h2
        exact t_round (i + 1) ⟨rfl, gi rfl (by omega), trivial⟩ ⟨by omega, by simpa using h2⟩ (by show s.length - (i + 1) < s.length - i; omega) (fun w hI => hI)
      · refine t_exit rfl ?_
        exact t_back i ⟨rfl, rfl, trivial⟩ ⟨h1, h2, .inr ⟨s[i], _, drop_cons s i h1, fun e => h3 (by rw [e]; rfl)⟩⟩ (fun w hI => hI)
    · refine l_skip rfl rfl ?_
      refine l_skip rfl rfl ?_
      refine l_skip rfl rfl ?_
      refine l_skip rfl rfl ?_
      refine l_p rfl rfl (p_pickf rfl rfl) ?_
      refine l_nil ?_
      refine t_iff rfl ?_
      refine t_exit rfl ?_
      exact t_back i ⟨rfl, rfl, trivial⟩ ⟨h1, h2, .inl (by simp; omega)⟩ (fun w hI => hI)
  rintro i ⟨h1, h2, h3⟩
  dsimp only at h1 h2 h3 ⊢
  have hall' : (s.drop i).all isD = true := by
    rw [List.all_eq_true] at hall ⊢
    exact fun x hx => hall x (List.mem_of_mem_drop hx)
  have hlt : (s.drop i).length ≤ 9223372036854775806 := by simp; omega
  skip
  refine t_seq ?_
  refine t_region ?_
  refine l_p rfl rfl (p_move rfl) ?_
  refine l_p rfl rfl (p_move rfl) ?_
  refine l_p rfl rfl (p_ssll _ (by exact rfl) (by exact rfl) rfl (by omega)) ?_
  refine l_p rfl rfl (p_assign rfl) ?_
  refine l_nil ?_
  try simp only [Int.toNat_natCast]
  generalize s.drop i = t at *
  have hov := over_iff hall' h3
  rw [h2] at hov
  refine t_seq ?_
  refine t_cut (ι := Unit) { E := fun _ => [(6, st t)], S := fun _ => σ, M := fun _ => F, Φ := fun i => val s ≤ maxNum } ?_ ?_
  · refine t_seq ?_
    refine t_region ?_
    refine l_p rfl rfl (p_move rfl) ?_
    refine l_p rfl rfl (p_lens (by exact rfl)) ?_
    refine l_p rfl rfl (p_gt rfl rfl) ?_
    refine l_p rfl rfl (p_move rfl) ?_
    refine l_split 42 rfl (fun h4 => ?_) (fun h4 => ?_)
    · have h4' : 19 < t.length := by omega
      simp only [h4', decide_true, Bool.true_or] at hov
      have hgt : maxNum < val s := by simpa using hov.symm
      refine l_skip rfl rfl ?_
      refine l_skip rfl rfl ?_
      refine l_skip rfl rfl ?_
      refine l_skip rfl rfl ?_
      refine l_skip rfl rfl ?_
      refine l_skip rfl rfl ?_
      refine l_skip rfl rfl ?_
      refine l_p rfl rfl (p_pickt rfl rfl) ?_
      refine l_nil ?_
      refine t_ift rfl ?_
      refine t_seq ?_
      refine t_region ?_
      refine l_p rfl rfl (p_assign rfl) ?_
      refine l_p rfl rfl (p_assign rfl) ?_
      refine l_nil ?_
      exact t_ret2 rfl rfl rfl fun w hI => ⟨by rw [pnum_over hne hall hgt]; rfl, hI⟩
    · have h4' : ¬ 19 < t.length := by omega
      simp only [h4', decide_false, Bool.false_or] at hov
      refine l_p rfl rfl (p_move rfl) ?_
      refine l_p rfl rfl (p_lens (by exact rfl)) ?_
      refine l_p rfl rfl (p_eq rfl rfl) ?_
      refine l_p rfl rfl (p_move rfl) ?_
      refine l_split 46 rfl (fun h5 => ?_) (fun h5 => ?_)
      · have h5' : t.length = 19 := by omega
        simp only [h5', decide_true, Bool.true_and] at hov
        refine l_p rfl rfl (p_move rfl) ?_
        refine l_p rfl rfl (p_sgt (b := maxS) rfl rfl) ?_
        refine l_p rfl rfl (p_pickt rfl rfl) ?_
        refine l_p rfl rfl (p_pickf rfl rfl) ?_
        refine l_nil ?_
        refine t_if rfl (fun h6 => ?_) (fun h6 => ?_)
        · have hgt : maxNum < val s := by rw [h6] at hov; simpa using hov.symm
          refine t_seq ?_
          refine t_region ?_
          refine l_p rfl rfl (p_assign rfl) ?_
          refine l_p rfl rfl (p_assign rfl) ?_
          refine l_nil ?_
          exact t_ret2 rfl rfl rfl fun w hI => ⟨by rw [pnum_over hne hall hgt]; rfl, hI⟩
        · have hle : val s ≤ maxNum := by rw [h6] at hov; simpa using hov.symm
          refine t_skip ?_
          exact t_back () ⟨rfl, trivial⟩ hle (fun w hI => hI)
      · have h5' : ¬ t.length = 19 := by omega
        simp only [h5', decide_false, Bool.false_and] at hov
        have hle : val s ≤ maxNum := by simpa using hov.symm
        refine l_skip rfl rfl ?_
        refine l_skip rfl rfl ?_
        refine l_p rfl rfl (p_pickf rfl rfl) ?_
        refine l_p rfl rfl (p_pickf rfl rfl) ?_
        refine l_nil ?_
        refine t_iff rfl ?_
        refine t_skip ?_
        exact t_back () ⟨rfl, trivial⟩ hle (fun w hI => hI)
  intro _ hle
  dsimp only at hle ⊢
  refine t_seq ?_
  refine t_region ?_
  refine l_p rfl rfl (p_assign rfl) ?_
  refine l_nil ?_
  refine t_seq ?_
  refine t_seq ?_
  refine t_region ?_
  refine l_p rfl rfl (p_assign rfl) ?_
  refine l_nil ?_
  refine t_block ?_
  refine t_loop (ι := Nat) { E := fun k => [(6, st t), (8, i64 k), (7, i64 (val (t.take k)))], S := fun _ => σ, M := fun _ => F, Φ := fun k => k ≤ t.length } (fun k => t.length - k) 0
    (by exact ⟨rfl, rfl, rfl, trivial⟩) (Nat.zero_le _) (fun w hI => hI) ?_
  intro k hk
  dsimp only at hk ⊢
  refine t_seq ?_
  refine t_seq ?_
  refine t_region ?_
  refine l_p rfl rfl (p_move rfl) ?_
  refine l_p rfl rfl (p_move rfl) ?_
  refine l_p rfl rfl (p_lens (by exact rfl)) ?_
  refine l_p rfl rfl (p_lt rfl rfl) ?_
  refine l_nil ?_
  refine t_ifd rfl (fun h => ?_) (fun h => ?_)
  · have hn : k < t.length := by omega
    have ht := val_take hn
    have hb := val_take_le t (k + 1)
    have hd : isD t[k] = true := (List.all_eq_true.1 hall') _ (List.getElem_mem hn)
    simp only [isD, Bool.and_eq_true, decide_eq_true_eq] at hd
    simp only [maxNum] at hle
    refine t_skip ?_
    refine t_seq ?_
    refine t_block ?_
    refine t_region ?_
    refine l_p rfl rfl (p_move rfl) ?_
    refine l_p rfl rfl (p_mul rfl rfl (by omega)) ?_
    refine l_p rfl rfl (p_move rfl) ?_
    refine l_p rfl rfl (p_move rfl) ?_
    refine l_p rfl rfl (p_six _ (by exact rfl) (by exact rfl) rfl (by omega)) ?_
    refine l_p rfl rfl (p_conv64 (by exact rfl) (by omega)) ?_
    refine l_p rfl rfl (p_add rfl rfl (by omega)) ?_
    refine l_p rfl rfl (p_sub rfl rfl (by omega)) ?_
    refine l_p rfl rfl (p_assign rfl) ?_
    refine l_nil ?_
    refine t_blk ?_
    refine t_region ?_
    refine l_p rfl rfl (p_move rfl) ?_
    refine l_p rfl rfl (p_add rfl rfl (by omega)) ?_
    refine l_p rfl rfl (p_assign rfl) ?_
    refine l_nil ?_
    skip
    exact t_round (k + 1) ⟨rfl, gi rfl (by omega), gi rfl (by rw [ht]; omega), trivial⟩ (by omega) (by show t.length - (k + 1) < t.length - k; omega) (fun w hI => hI)
  · have hn : k = t.length := by omega
    subst hn
    refine t_exit rfl ?_
    refine t_seq ?_
    refine t_region ?_
    refine l_p rfl rfl (p_move rfl) ?_
    refine l_p rfl rfl (p_assign rfl) ?_
    refine l_p rfl rfl (p_assign rfl) ?_
    refine l_nil ?_
    exact t_ret2 rfl rfl rfl fun w hI => ⟨by rw [pnum_ok hne hall hle]; simp [h2], hI⟩


end Go.Proofs.YtfglenbfbcckjaaGreatDoor
