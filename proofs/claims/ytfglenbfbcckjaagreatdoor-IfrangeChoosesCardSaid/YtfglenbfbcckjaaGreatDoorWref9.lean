/- Chapter 9: the document's answer: walks of its validators, and of its merging. -/
import Derived.Test.YtfglenbfbcckjaaGreatDoorX8
import Derived.Test.YtfglenbfbcckjaaGreatDoorE17
set_option linter.unusedVariables false
set_option linter.unusedSimpArgs false
set_option maxRecDepth 20000
namespace Go.Proofs.YtfglenbfbcckjaaGreatDoor
open Go.Sp
attribute [local irreducible] Go.Sp.Pr Go.Sp.Ws Go.Sp.Wl Go.Sp.Wq Go.Sp.Rds Go.Sp.Src
theorem mayT_eq (b : UInt8) : mayT b = true ↔ b.toNat = 33 ∨ ¬ (b.toNat < 35 ∨ b.toNat = 127) := by
  simp [mayT]; omega
theorem rtag (σ : Stb) (s : List UInt8) (hs : s.length ≤ 9223372036854775806) : SpV Tryz.prog 67 [st s] σ (.bool (plainT s)) := by
  refine spv Tryz.func67 rfl (by kernel_rfl) rfl fun F => ?_
  refine t_seq ?_
  refine t_region ?_
  refine l_p rfl rfl (p_assign rfl) ?_
  refine l_nil ?_
  refine t_seq ?_
  refine t_seq ?_
  refine t_region ?_
  refine l_p rfl rfl (p_assign rfl) ?_
  refine l_nil ?_
  refine t_block ?_
  refine t_loop (ι := Nat) { E := fun n => [(0, st s), (3, i64 n)], S := fun _ => σ, M := fun _ => F, Φ := fun n => n ≤ s.length ∧ plainT (s.drop n) = plainT s } (fun n => s.length - n) 0
    (by exact ⟨rfl, rfl, trivial⟩) ⟨Nat.zero_le _, rfl⟩ (fun w hI => hI) ?_
  rintro i ⟨h1, h2⟩
  dsimp only at h1 h2 ⊢
  refine t_seq ?_
  refine t_seq ?_
  refine t_region ?_
  refine l_p rfl rfl (p_move rfl) ?_
  refine l_p rfl rfl (p_move rfl) ?_
  refine l_p rfl rfl (p_lens (by exact rfl)) ?_
  refine l_p rfl rfl (p_lt rfl rfl) ?_
  refine l_nil ?_
  refine t_ifd rfl (fun h => ?_) (fun h => ?_)
  · have hn : i < s.length := by omega
    have hm := mayT_eq s[i]
    have hst : plainT s = (mayT s[i] && plainT (s.drop (i + 1))) := by rw [← h2, drop_cons s i hn]; rfl
    refine t_skip ?_
    refine t_seq ?_
    refine t_block ?_
    refine t_seq ?_
    refine t_region ?_
    refine l_p rfl rfl (p_move rfl) ?_
    refine l_p rfl rfl (p_move rfl) ?_
    refine l_p rfl rfl (p_six _ (by exact rfl) (by exact rfl) rfl (by omega)) ?_
    refine l_p rfl rfl (p_assign rfl) ?_
    refine l_nil ?_
    refine t_seq ?_
    refine t_region ?_
    refine l_p rfl rfl (p_move rfl) ?_
    refine l_p rfl rfl (p_ne rfl rfl) ?_
    refine l_p rfl rfl (p_move rfl) ?_
    have bad : ∀ w, Inv σ F w → ¬ (mayT s[i] = true) → Value.bool false = .bool (plainT s) ∧ Inv σ F w := fun w hI hb => ⟨by rw [hst]; simp at hb; simp [hb], hI⟩
    have good : mayT s[i] = true → plainT (s.drop (i + 1)) = plainT s := fun hb => by rw [hst, hb]; rfl
    refine l_split 16 rfl (fun h5 => ?_) (fun h5 => ?_)
    · refine l_p rfl rfl (p_move rfl) ?_
      refine l_p rfl rfl (p_lt rfl rfl) ?_
      refine l_p rfl rfl (p_move rfl) ?_
      refine l_split 19 rfl (fun h6 => ?_) (fun h6 => ?_)
      · refine l_skip rfl rfl ?_
        refine l_skip rfl rfl ?_
        refine l_p rfl rfl (p_pickt rfl rfl) ?_
        refine l_p rfl rfl (p_pickt rfl rfl) ?_
        refine l_nil ?_
        refine t_ift rfl ?_
        refine t_seq ?_
        refine t_region ?_
        refine l_p rfl rfl (p_assign rfl) ?_
        refine l_nil ?_
        exact t_ret1 rfl rfl fun w hI => bad w hI (by rw [hm]; omega)
      · refine l_p rfl rfl (p_move rfl) ?_
        refine l_p rfl rfl (p_eq rfl rfl) ?_
        refine l_p rfl rfl (p_pickf rfl rfl) ?_
        refine l_p rfl rfl (p_pickt rfl rfl) ?_
        refine l_nil ?_
        refine t_ifd rfl (fun h7 => ?_) (fun h7 => ?_)
        · refine t_seq ?_
          refine t_region ?_
          refine l_p rfl rfl (p_assign rfl) ?_
          refine l_nil ?_
          exact t_ret1 rfl rfl fun w hI => bad w hI (by rw [hm]; omega)
        · refine t_skip ?_
          refine t_blk ?_
          refine t_region ?_
          refine l_p rfl rfl (p_move rfl) ?_
          refine l_p rfl rfl (p_add rfl rfl (by omega)) ?_
          refine l_p rfl rfl (p_assign rfl) ?_
          refine l_nil ?_
          exact t_round (i + 1) ⟨rfl, gi rfl (by omega), trivial⟩ ⟨by omega, good (by rw [hm]; omega)⟩ (by show s.length - (i + 1) < s.length - i; omega) (fun w hI => hI)
    · refine l_skip rfl rfl ?_
      refine l_skip rfl rfl ?_
      refine l_skip rfl rfl ?_
      refine l_skip rfl rfl ?_
      refine l_skip rfl rfl ?_
      refine l_skip rfl rfl ?_
      refine l_p rfl rfl (p_pickf rfl rfl) ?_
      refine l_nil ?_
      refine t_iff rfl ?_
      refine t_skip ?_
      refine t_blk ?_
      refine t_region ?_
      refine l_p rfl rfl (p_move rfl) ?_
      refine l_p rfl rfl (p_add rfl rfl (by omega)) ?_
      refine l_p rfl rfl (p_assign rfl) ?_
      refine l_nil ?_
      exact t_round (i + 1) ⟨rfl, gi rfl (by omega), trivial⟩ ⟨by omega, good (by rw [hm]; omega)⟩ (by show s.length - (i + 1) < s.length - i; omega) (fun w hI => hI)
  · have hn : i = s.length := by omega
    subst hn
    refine t_exit rfl ?_
    refine t_seq ?_
    refine t_region ?_
    refine l_p rfl rfl (p_assign rfl) ?_
    refine l_nil ?_
    exact t_ret1 rfl rfl fun w hI => ⟨by rw [← h2]; simp [plainT], hI⟩
theorem retag (σ : Stb) (s : List UInt8) (hs : s.length ≤ 4000000000) : SpV Tryz.prog 46 [st s] σ (vet2 (etagP s)) := by
  refine spv Tryz.func46 rfl (by kernel_rfl) rfl fun F => ?_
  have hql := sansWk_len s
  have hE : etagP s = if quotedT (sansWk s) = false then ((false, []), 3) else if plainT (inner (sansWk s)) = false then ((false, []), 3) else if 40 < (inner (sansWk s)).length then ((false, []), 10) else ((isWk s, inner (sansWk s)), 0) := rfl
  generalize htot : etagP s = tot at *
  clear htot
  refine t_seq ?_
  refine t_region ?_
  refine l_alloc (by exact rfl) (by exact rfl) (by exact rfl) ?_; intro _
  refine l_p rfl rfl (p_assign rfl) ?_
  refine l_nil ?_
  rename_i bx
  refine t_seq ?_
  refine t_cut (ι := Unit) { E := fun _ => [(0, st s), (2, .pointer (some ⟨bx, 0, none⟩)), (4, .bool (isWk s))], S := fun _ => σ, M := fun _ => Bx bx [.bool false, st []] 55 :: F, Φ := fun _ => True } ?_ ?_
  · have hw : ∀ (h : 2 ≤ s.length), isWk s = (decide (s[0] = 87) && decide (s[1] = 47)) := fun h => by
      match s, h with
      | x :: y :: r, _ => simp [isWk, wkS]
    refine t_region ?_
    refine l_p rfl rfl (p_move rfl) ?_
    refine l_p rfl rfl (p_lens (by exact rfl)) ?_
    refine l_p rfl rfl (p_ge rfl rfl) ?_
    refine l_p rfl rfl (p_move rfl) ?_
    refine l_split 8 rfl (fun h => ?_) (fun h => ?_)
    · have hw := hw (by omega)
      refine l_p rfl rfl (p_move rfl) ?_
      refine l_p rfl rfl (p_six 0 (by exact rfl) (by exact rfl) rfl (by omega)) ?_
      refine l_p rfl rfl (p_eq rfl rfl) ?_
      refine l_p rfl rfl (p_pickt rfl rfl) ?_
      refine l_p rfl rfl (p_move rfl) ?_
      refine l_split 13 rfl (fun h2 => ?_) (fun h2 => ?_)
      · have h2' : s[0] = 87 := UInt8.toNat_inj.1 (Int.ofNat_inj.1 h2)
        refine l_p rfl rfl (p_move rfl) ?_
        refine l_p rfl rfl (p_six 1 (by exact rfl) (by exact rfl) rfl (by omega)) ?_
        refine l_p rfl rfl (p_eq rfl rfl) ?_
        refine l_p rfl rfl (p_pickt rfl rfl) ?_
        refine l_p rfl rfl (p_assign rfl) ?_
        refine l_nil ?_
        refine t_back () ⟨rfl, rfl, by rw [hw, h2']; simp only [decide_true, Bool.true_and]; exact congrArg (fun b => some (Value.bool b)) (by rw [Bool.eq_iff_iff]; simp only [decide_eq_true_eq]; exact ⟨fun e => UInt8.toNat_inj.1 (Int.ofNat_inj.1 e), fun e => by rw [e]; rfl⟩), trivial⟩ trivial (fun w hI => hI)
      · have h2' : ¬ s[0] = 87 := fun e => h2 (by rw [e]; rfl)
        refine l_skip rfl rfl ?_
        refine l_skip rfl rfl ?_
        refine l_skip rfl rfl ?_
        refine l_p rfl rfl (p_pickf rfl rfl) ?_
        refine l_p rfl rfl (p_assign rfl) ?_
        refine l_nil ?_
        refine t_back () ⟨rfl, rfl, by rw [hw]; simp only [h2', decide_false, Bool.false_and]; rfl, trivial⟩ trivial (fun w hI => hI)
    · have hw : isWk s = false := by simp [isWk]; omega
      refine l_skip rfl rfl ?_
      refine l_skip rfl rfl ?_
      refine l_skip rfl rfl ?_
      refine l_p rfl rfl (p_pickf rfl rfl) ?_
      refine l_p rfl rfl (p_move rfl) ?_
      refine l_skip rfl rfl ?_
      refine l_skip rfl rfl ?_
      refine l_skip rfl rfl ?_
      refine l_p rfl rfl (p_pickf rfl rfl) ?_
      refine l_p rfl rfl (p_assign rfl) ?_
      refine l_nil ?_
      refine t_back () ⟨rfl, rfl, by rw [hw]; rfl, trivial⟩ trivial (fun w hI => hI)
  rintro ⟨⟩ -
  dsimp only
  skip
  refine t_seq ?_
  refine t_seq ?_
  refine t_region ?_
  refine l_p rfl rfl (p_move rfl) ?_
  refine l_nil ?_
  refine t_cut (ι := Unit) { E := fun _ => [(0, st (sansWk s)), (2, .pointer (some ⟨bx, 0, none⟩)), (4, .bool (isWk s))], S := fun _ => σ, M := fun _ => Bx bx [.bool false, st []] 55 :: F, Φ := fun _ => True } ?_ ?_
  · refine t_if rfl (fun h => ?_) (fun h => ?_)
    · have h2 : 2 ≤ s.length := by simp [isWk] at h; omega
      refine t_region ?_
      refine l_p rfl rfl (p_move rfl) ?_
      refine l_p rfl rfl (p_ssll _ (by exact rfl) (by exact rfl) rfl (by omega)) ?_
      refine l_p rfl rfl (p_assign rfl) ?_
      refine l_nil ?_
      exact t_back () ⟨by simp only [sansWk, h, if_true]; rfl, rfl, rfl, trivial⟩ trivial (fun w hI => hI)
    · refine t_skip ?_
      exact t_back () ⟨by simp [sansWk, h]; rfl, rfl, rfl, trivial⟩ trivial (fun w hI => hI)
  rintro ⟨⟩ -
  dsimp only
  generalize sansWk s = q at *
  generalize isWk s = wk at *
  have hbad : quotedT q = false → tot = ((false, []), 3) := fun h => by rw [hE, if_pos h]
  refine t_seq ?_
  refine t_seq ?_
  refine t_region ?_
  refine l_p rfl rfl (p_move rfl) ?_
  refine l_p rfl rfl (p_lens (by exact rfl)) ?_
  refine l_p rfl rfl (p_lt rfl rfl) ?_
  refine l_p rfl rfl (p_move rfl) ?_
  refine l_split 24 rfl (fun h => ?_) (fun h => ?_)
  · have e := hbad (quotedT_short (by omega))
    refine l_skip rfl rfl ?_
    refine l_skip rfl rfl ?_
    refine l_skip rfl rfl ?_
    refine l_p rfl rfl (p_pickt rfl rfl) ?_
    refine l_p rfl rfl (p_move rfl) ?_
    refine l_skip rfl rfl ?_
    refine l_skip rfl rfl ?_
    refine l_skip rfl rfl ?_
    refine l_skip rfl rfl ?_
    refine l_skip rfl rfl ?_
    refine l_skip rfl rfl ?_
    refine l_p rfl rfl (p_pickt rfl rfl) ?_
    refine l_p rfl rfl (p_move rfl) ?_
    refine l_skip rfl rfl ?_
    refine l_skip rfl rfl ?_
    refine l_skip rfl rfl ?_
    refine l_skip rfl rfl ?_
    refine l_skip rfl rfl ?_
    refine l_skip rfl rfl ?_
    refine l_skip rfl rfl ?_
    refine l_p rfl rfl (p_pickt rfl rfl) ?_
    refine l_nil ?_
    refine t_ift rfl ?_
    refine t_seq ?_
    refine t_region ?_
    refine l_p rfl rfl (p_build (by exact rfl) (by exact rfl) (by exact rfl) (by exact rfl)) ?_
    refine l_sti rfl rfl rfl rfl rfl (by exact rfl) (by exact rfl) (by exact rfl) (by exact ⟨rfl, rfl⟩) ?_
    refine l_p rfl rfl (p_assign rfl) ?_
    refine l_nil ?_
    exact t_ret rfl (.cn rfl Rds.bxi rfl rfl (.tmp rfl .nil)) fun w hI => ⟨by rw [e]; rfl, hI.tail⟩
  have h2 : 2 ≤ q.length := by omega
  have hqe := quotedT_eq h2
  have el : ((q.length : Int) - 1).toNat = q.length - 1 := by omega
  refine l_p rfl rfl (p_move rfl) ?_
  refine l_p rfl rfl (p_six 0 (by exact rfl) (by exact rfl) rfl (by omega)) ?_
  refine l_p rfl rfl (p_ne rfl rfl) ?_
  refine l_p rfl rfl (p_pickf rfl rfl) ?_
  refine l_p rfl rfl (p_move rfl) ?_
  refine l_split 29 rfl (fun h3 => ?_) (fun h3 => ?_)
  · have e := hbad (by rw [hqe]; have : ¬ q[0] = 34 := fun e => h3 (by show ((q[0].toNat : Nat) : Int) = 34; rw [e]; rfl); simp [this])
    refine l_skip rfl rfl ?_
    refine l_skip rfl rfl ?_
    refine l_skip rfl rfl ?_
    refine l_skip rfl rfl ?_
    refine l_skip rfl rfl ?_
    refine l_skip rfl rfl ?_
    refine l_p rfl rfl (p_pickt rfl rfl) ?_
    refine l_p rfl rfl (p_move rfl) ?_
    refine l_skip rfl rfl ?_
    refine l_skip rfl rfl ?_
    refine l_skip rfl rfl ?_
    refine l_skip rfl rfl ?_
    refine l_skip rfl rfl ?_
    refine l_skip rfl rfl ?_
    refine l_skip rfl rfl ?_
    refine l_p rfl rfl (p_pickt rfl rfl) ?_
    refine l_nil ?_
    refine t_ift rfl ?_
    refine t_seq ?_
    refine t_region ?_
    refine l_p rfl rfl (p_build (by exact rfl) (by exact rfl) (by exact rfl) (by exact rfl)) ?_
    refine l_sti rfl rfl rfl rfl rfl (by exact rfl) (by exact rfl) (by exact rfl) (by exact ⟨rfl, rfl⟩) ?_
    refine l_p rfl rfl (p_assign rfl) ?_
    refine l_nil ?_
    exact t_ret rfl (.cn rfl Rds.bxi rfl rfl (.tmp rfl .nil)) fun w hI => ⟨by rw [e]; rfl, hI.tail⟩
  refine l_p rfl rfl (p_move rfl) ?_
  refine l_p rfl rfl (p_move rfl) ?_
  refine l_p rfl rfl (p_lens (by exact rfl)) ?_
  refine l_p rfl rfl (p_sub rfl rfl (by omega)) ?_
  refine l_p rfl rfl (p_sixI (by exact rfl) (by exact rfl) (by omega)) ?_
  refine l_p rfl rfl (p_ne rfl rfl) ?_
  refine l_p rfl rfl (p_pickf rfl rfl) ?_
  refine l_p rfl rfl (p_move rfl) ?_
  simp only [el]
  refine l_split 37 rfl (fun h4 => ?_) (fun h4 => ?_)
  · have e := hbad (by rw [hqe]; have : ¬ q[q.length - 1] = 34 := fun e => h4 (by rw [e]; rfl); simp [this])
    refine l_skip rfl rfl ?_
    refine l_skip rfl rfl ?_
    refine l_skip rfl rfl ?_
    refine l_skip rfl rfl ?_
    refine l_skip rfl rfl ?_
    refine l_skip rfl rfl ?_
    refine l_skip rfl rfl ?_
    refine l_p rfl rfl (p_pickt rfl rfl) ?_
    refine l_nil ?_
    refine t_ift rfl ?_
    refine t_seq ?_
    refine t_region ?_
    refine l_p rfl rfl (p_build (by exact rfl) (by exact rfl) (by exact rfl) (by exact rfl)) ?_
    refine l_sti rfl rfl rfl rfl rfl (by exact rfl) (by exact rfl) (by exact rfl) (by exact ⟨rfl, rfl⟩) ?_
    refine l_p rfl rfl (p_assign rfl) ?_
    refine l_nil ?_
    exact t_ret rfl (.cn rfl Rds.bxi rfl rfl (.tmp rfl .nil)) fun w hI => ⟨by rw [e]; rfl, hI.tail⟩
  have hq : quotedT q = true := by
    rw [hqe]
    have e1 : q[0] = 34 := UInt8.toNat_inj.1 (Int.ofNat_inj.1 (Decidable.not_not.1 h3))
    have e2 : q[q.length - 1] = 34 := UInt8.toNat_inj.1 (Int.ofNat_inj.1 (Decidable.not_not.1 h4))
    simp [e1, e2]
  rw [if_neg (by simp [hq])] at hE
  have hil : (inner q).length = q.length - 2 := by simp [inner]; omega
  refine l_p rfl rfl (p_move rfl) ?_
  refine l_p rfl rfl (p_move rfl) ?_
  refine l_p rfl rfl (p_lens (by exact rfl)) ?_
  refine l_p rfl rfl (p_sub rfl rfl (by omega)) ?_
  refine l_p rfl rfl (p_sslI (by exact rfl) (by exact rfl) (by exact rfl) (by omega)) ?_
  simp only [el]
  have hi : List.drop (Int.toNat 1) (List.take (q.length - 1) q) = inner q := rfl
  rw [hi]
  skip
  refine l_callv rfl rfl rfl (rtag σ (inner q) (by omega)) ?_
  refine l_p rfl rfl (p_not rfl) ?_
  refine l_p rfl rfl (p_pickf rfl rfl) ?_
  refine l_nil ?_
  refine t_if rfl (fun h5 => ?_) (fun h5 => ?_)
  · rw [if_pos (by simpa using h5)] at hE
    refine t_seq ?_
    refine t_region ?_
    refine l_p rfl rfl (p_build (by exact rfl) (by exact rfl) (by exact rfl) (by exact rfl)) ?_
    refine l_sti rfl rfl rfl rfl rfl (by exact rfl) (by exact rfl) (by exact rfl) (by exact ⟨rfl, rfl⟩) ?_
    refine l_p rfl rfl (p_assign rfl) ?_
    refine l_nil ?_
    exact t_ret rfl (.cn rfl Rds.bxi rfl rfl (.tmp rfl .nil)) fun w hI => ⟨by rw [hE]; rfl, hI.tail⟩
  have h5' : plainT (inner q) = true := by simpa using h5
  rw [if_neg (by simp [h5'])] at hE
  refine t_skip ?_
  refine t_seq ?_
  refine t_seq ?_
  refine t_region ?_
  refine l_p rfl rfl (p_move rfl) ?_
  refine l_p rfl rfl (p_lens (by exact rfl)) ?_
  refine l_p rfl rfl (p_gt rfl rfl) ?_
  refine l_nil ?_
  refine t_ifd rfl (fun h6 => ?_) (fun h6 => ?_)
  · rw [if_pos (by omega)] at hE
    refine t_seq ?_
    refine t_region ?_
    refine l_p rfl rfl (p_build (by exact rfl) (by exact rfl) (by exact rfl) (by exact rfl)) ?_
    refine l_sti rfl rfl rfl rfl rfl (by exact rfl) (by exact rfl) (by exact rfl) (by exact ⟨rfl, rfl⟩) ?_
    refine l_p rfl rfl (p_assign rfl) ?_
    refine l_nil ?_
    exact t_ret rfl (.cn rfl Rds.bxi rfl rfl (.tmp rfl .nil)) fun w hI => ⟨by rw [hE]; rfl, hI.tail⟩
  rw [if_neg (by omega)] at hE
  refine t_skip ?_
  refine t_seq ?_
  refine t_region ?_
  refine l_p rfl rfl (p_move rfl) ?_
  refine l_p rfl rfl (p_move rfl) ?_
  refine l_p rfl rfl (p_move rfl) ?_
  refine l_p rfl rfl (p_lens (by exact rfl)) ?_
  refine l_p rfl rfl (p_sub rfl rfl (by omega)) ?_
  refine l_p rfl rfl (p_sslI (by exact rfl) (by exact rfl) (by exact rfl) (by omega)) ?_
  refine l_p rfl rfl (p_build (by exact rfl) (by exact rfl) (by exact rfl) (by exact rfl)) ?_
  refine l_sti rfl rfl rfl rfl rfl (by exact rfl) (by exact rfl) (by exact rfl) (by exact ⟨rfl, rfl⟩) ?_
  refine l_p rfl rfl (p_assign rfl) ?_
  refine l_nil ?_
  simp only [el, hi]
  skip
  exact t_ret rfl (.cn rfl Rds.bxi rfl rfl (.tmp rfl .nil)) fun w hI => ⟨by rw [hE]; rfl, hI.tail⟩
theorem ruse (σ : Stb) (s tag : List UInt8) (hs : s.length ≤ 4000000000) : SpV Tryz.prog 20 [st s, st tag] σ (.bool (useP s tag)) := by
  refine spv Tryz.func20 rfl (by kernel_rfl) rfl fun F => ?_
  have ht := trim_len s
  refine t_seq ?_
  refine t_region ?_
  refine l_p rfl rfl (p_assign rfl) ?_
  refine l_nil ?_
  refine t_seq ?_
  refine t_region ?_
  refine l_p rfl rfl (p_move rfl) ?_
  refine l_callv rfl rfl rfl (rtrim σ s (by omega)) ?_
  refine l_p rfl rfl (p_assign rfl) ?_
  refine l_nil ?_
  refine t_seq ?_
  refine t_region ?_
  refine l_p rfl rfl (p_move rfl) ?_
  refine l_callv rfl rfl rfl (retag σ (trim s) (by omega)) ?_
  have hu : useP s tag = (decide (trim s = []) || (decide ((etagP (trim s)).2 = 0) && (!(etagP (trim s)).1.1 && decide ((etagP (trim s)).1.2 = tag)))) := rfl
  generalize etagP (trim s) = x at *
  obtain ⟨⟨x1, x2⟩, x3⟩ := x
  refine l_p rfl rfl (p_move rfl) ?_
  refine l_p rfl rfl (p_ext rfl rfl) ?_
  refine l_p rfl rfl (p_ext rfl rfl) ?_
  refine l_alloc (by exact rfl) (by exact rfl) (by exact rfl) ?_; intro _
  refine l_sti rfl rfl rfl rfl rfl (by exact rfl) (by exact rfl) (by exact rfl) (by exact ⟨rfl, rfl⟩) ?_
  refine l_p rfl rfl (p_assign rfl) ?_
  refine l_nil ?_
  refine t_seq ?_
  refine t_region ?_
  refine l_p rfl rfl (p_move rfl) ?_
  refine l_p rfl rfl (p_seq rfl rfl) ?_
  refine l_p rfl rfl (p_move rfl) ?_
  refine l_split 17 rfl (fun h2 => ?_) (fun h2 => ?_)
  · refine l_skip rfl rfl ?_
    refine l_skip rfl rfl ?_
    refine l_skip rfl rfl ?_
    refine l_skip rfl rfl ?_
    refine l_skip rfl rfl ?_
    refine l_skip rfl rfl ?_
    refine l_skip rfl rfl ?_
    refine l_skip rfl rfl ?_
    refine l_skip rfl rfl ?_
    refine l_skip rfl rfl ?_
    refine l_skip rfl rfl ?_
    refine l_skip rfl rfl ?_
    refine l_skip rfl rfl ?_
    refine l_p rfl rfl (p_pickt rfl rfl) ?_
    refine l_p rfl rfl (p_assign rfl) ?_
    refine l_nil ?_
    exact t_ret1 rfl rfl fun w hI => ⟨by rw [hu]; simp [h2], hI.tail⟩
  · refine l_p rfl rfl (p_move rfl) ?_
    refine l_p rfl rfl (p_eq rfl rfl) ?_
    refine l_p rfl rfl (p_move rfl) ?_
    refine l_split 20 rfl (fun h3 => ?_) (fun h3 => ?_)
    · refine l_p rfl rfl (p_fa (by exact rfl) Rds.bxi) ?_
      refine l_p rfl rfl (p_ld1 (by exact rfl) Rds.bxi) ?_
      refine l_p rfl rfl (p_not rfl) ?_
      refine l_p rfl rfl (p_pickt rfl rfl) ?_
      refine l_p rfl rfl (p_move rfl) ?_
      refine l_splitb 25 rfl (fun h4 => ?_) (fun h4 => ?_)
      · refine l_p rfl rfl (p_fa (by exact rfl) Rds.bxi) ?_
        refine l_p rfl rfl (p_ld1 (by exact rfl) (Rds.fld Rds.bxi (by exact rfl))) ?_
        refine l_p rfl rfl (p_move rfl) ?_
        refine l_p rfl rfl (p_seq rfl rfl) ?_
        refine l_p rfl rfl (p_pickt rfl rfl) ?_
        refine l_p rfl rfl (p_pickf rfl rfl) ?_
        refine l_p rfl rfl (p_assign rfl) ?_
        refine l_nil ?_
        exact t_ret1 rfl rfl fun w hI => ⟨by rw [hu]; simp at h4 h3; simp [h2, h3, h4], hI.tail⟩
      · refine l_skip rfl rfl ?_
        refine l_skip rfl rfl ?_
        refine l_skip rfl rfl ?_
        refine l_skip rfl rfl ?_
        refine l_p rfl rfl (p_pickf rfl rfl) ?_
        refine l_p rfl rfl (p_pickf rfl rfl) ?_
        refine l_p rfl rfl (p_assign rfl) ?_
        refine l_nil ?_
        exact t_ret1 rfl rfl fun w hI => ⟨by rw [hu]; simp at h4; simp [h2, h4], hI.tail⟩
    · refine l_skip rfl rfl ?_
      refine l_skip rfl rfl ?_
      refine l_skip rfl rfl ?_
      refine l_p rfl rfl (p_pickf rfl rfl) ?_
      refine l_p rfl rfl (p_move rfl) ?_
      refine l_skip rfl rfl ?_
      refine l_skip rfl rfl ?_
      refine l_skip rfl rfl ?_
      refine l_skip rfl rfl ?_
      refine l_p rfl rfl (p_pickf rfl rfl) ?_
      refine l_p rfl rfl (p_pickf rfl rfl) ?_
      refine l_p rfl rfl (p_assign rfl) ?_
      refine l_nil ?_
      exact t_ret1 rfl rfl fun w hI => ⟨by rw [hu]; simp at h3; simp [h2, h3], hI.tail⟩
end Go.Proofs.YtfglenbfbcckjaaGreatDoor
