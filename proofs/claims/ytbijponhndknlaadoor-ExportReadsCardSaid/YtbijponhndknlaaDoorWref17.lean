/- The document's records: walks. -/
import Derived.Test.YtbijponhndknlaaDoorWcodec
set_option linter.unusedSimpArgs false
set_option linter.unusedVariables false
set_option maxRecDepth 20000
namespace Go.Proofs.YtbijponhndknlaaDoor
open Go.Sp
attribute [local irreducible] Go.Sp.Pr Go.Sp.Ws Go.Sp.Wl Go.Sp.Wq Go.Sp.Rds Go.Sp.Src
theorem mayT_eq (b : UInt8) : mayT b = true ↔ b.toNat = 33 ∨ ¬ (b.toNat < 35 ∨ b.toNat = 127) := by
  simp [mayT]; omega
theorem rtag (σ : Stb) (s : List UInt8) (hs : s.length ≤ 9223372036854775806) : SpV Tryd.prog 42 [st s] σ (.bool (plainT s)) := by
  refine spv Tryd.func42 rfl (by kernel_rfl) rfl fun F => ?_
  refine t_seq ?_
  refine t_region ?_
  refine l_p rfl rfl (p_assign rfl) ?_
  refine l_nil ?_
  refine t_seq ?_
  refine t_seq ?_
  refine t_region ?_
  refine l_p rfl rfl (p_assign rfl) ?_
  refine l_nil ?_
  refine t_block ?_
  refine t_loop (ι := Nat) { E := fun n => [(0, st s), (3, i64 n)], S := fun _ => σ, M := fun _ => F, Φ := fun n => n ≤ s.length ∧ plainT (s.drop n) = plainT s } (fun n => s.length - n) 0
    (by exact ⟨rfl, rfl, trivial⟩) ⟨Nat.zero_le _, rfl⟩ (fun w hI => hI) ?_
  rintro i ⟨h1, h2⟩
  dsimp only at h1 h2 ⊢
  refine t_seq ?_
  refine t_seq ?_
  refine t_region ?_
  refine l_p rfl rfl (p_move rfl) ?_
  refine l_p rfl rfl (p_move rfl) ?_
  refine l_p rfl rfl (p_lens (by exact rfl)) ?_
  refine l_p rfl rfl (p_lt rfl rfl) ?_
  refine l_nil ?_
  refine t_ifd rfl (fun h => ?_) (fun h => ?_)
  · have hn : i < s.length := by omega
    have hm := mayT_eq s[i]
    have hst : plainT s = (mayT s[i] && plainT (s.drop (i + 1))) := by rw [← h2, drop_cons s i hn]; rfl
    refine t_skip ?_
    refine t_seq ?_
    refine t_block ?_
    refine t_seq ?_
    refine t_region ?_
    refine l_p rfl rfl (p_move rfl) ?_
    refine l_p rfl rfl (p_move rfl) ?_
    refine l_p rfl rfl (p_six _ (by exact rfl) (by exact rfl) rfl (by omega)) ?_
    refine l_p rfl rfl (p_assign rfl) ?_
    refine l_nil ?_
    refine t_seq ?_
    refine t_region ?_
    refine l_p rfl rfl (p_move rfl) ?_
    refine l_p rfl rfl (p_ne rfl rfl) ?_
    refine l_p rfl rfl (p_move rfl) ?_
    have bad : ∀ w, Inv σ F w → ¬ (mayT s[i] = true) → Value.bool false = .bool (plainT s) ∧ Inv σ F w := fun w hI hb => ⟨by rw [hst]; simp at hb; simp [hb], hI⟩
    have good : mayT s[i] = true → plainT (s.drop (i + 1)) = plainT s := fun hb => by rw [hst, hb]; rfl
    refine l_split 16 rfl (fun h5 => ?_) (fun h5 => ?_)
    · refine l_p rfl rfl (p_move rfl) ?_
      refine l_p rfl rfl (p_lt rfl rfl) ?_
      refine l_p rfl rfl (p_move rfl) ?_
      refine l_split 19 rfl (fun h6 => ?_) (fun h6 => ?_)
      · refine l_skip rfl rfl ?_
        refine l_skip rfl rfl ?_
        refine l_p rfl rfl (p_pickt rfl rfl) ?_
        refine l_p rfl rfl (p_pickt rfl rfl) ?_
        refine l_nil ?_
        refine t_ift rfl ?_
        refine t_seq ?_
        refine t_region ?_
        refine l_p rfl rfl (p_assign rfl) ?_
        refine l_nil ?_
        exact t_ret1 rfl rfl fun w hI => bad w hI (by rw [hm]; omega)
      · refine l_p rfl rfl (p_move rfl) ?_
        refine l_p rfl rfl (p_eq rfl rfl) ?_
        refine l_p rfl rfl (p_pickf rfl rfl) ?_
        refine l_p rfl rfl (p_pickt rfl rfl) ?_
        refine l_nil ?_
        refine t_ifd rfl (fun h7 => ?_) (fun h7 => ?_)
        · refine t_seq ?_
          refine t_region ?_
          refine l_p rfl rfl (p_assign rfl) ?_
          refine l_nil ?_
          exact t_ret1 rfl rfl fun w hI => bad w hI (by rw [hm]; omega)
        · refine t_skip ?_
          refine t_blk ?_
          refine t_region ?_
          refine l_p rfl rfl (p_move rfl) ?_
          refine l_p rfl rfl (p_add rfl rfl (by omega)) ?_
          refine l_p rfl rfl (p_assign rfl) ?_
          refine l_nil ?_
          exact t_round (i + 1) ⟨rfl, gi rfl (by omega), trivial⟩ ⟨by omega, good (by rw [hm]; omega)⟩ (by show s.length - (i + 1) < s.length - i; omega) (fun w hI => hI)
    · refine l_skip rfl rfl ?_
      refine l_skip rfl rfl ?_
      refine l_skip rfl rfl ?_
      refine l_skip rfl rfl ?_
      refine l_skip rfl rfl ?_
      refine l_skip rfl rfl ?_
      refine l_p rfl rfl (p_pickf rfl rfl) ?_
      refine l_nil ?_
      refine t_iff rfl ?_
      refine t_skip ?_
      refine t_blk ?_
      refine t_region ?_
      refine l_p rfl rfl (p_move rfl) ?_
      refine l_p rfl rfl (p_add rfl rfl (by omega)) ?_
      refine l_p rfl rfl (p_assign rfl) ?_
      refine l_nil ?_
      exact t_round (i + 1) ⟨rfl, gi rfl (by omega), trivial⟩ ⟨by omega, good (by rw [hm]; omega)⟩ (by show s.length - (i + 1) < s.length - i; omega) (fun w hI => hI)
  · have hn : i = s.length := by omega
    subst hn
    refine t_exit rfl ?_
    refine t_seq ?_
    refine t_region ?_
    refine l_p rfl rfl (p_assign rfl) ?_
    refine l_nil ?_
    exact t_ret1 rfl rfl fun w hI => ⟨by rw [← h2]; simp [plainT], hI⟩
theorem rlay (σ : Stb) (n k : Nat) (hk : k ≤ 8) (hn : n < 18446744073709551616) : Sp1 Tryd.prog 27 [.int .u64 n, i64 k] σ fun v σ' r => σ = σ' ∧ ∃ A c, v = .slice A (be n k).length c ∧ r = own 1 eu8 5 (.slice A (be n k).length c) (be n k) := by
  refine sp1 Tryd.func27 rfl (by kernel_rfl) rfl fun F => ?_
  refine t_seq ?_
  refine t_region ?_
  refine l_p rfl rfl (p_assign rfl) ?_
  refine l_nil ?_
  refine t_seq ?_
  refine t_region ?_
  refine l_p rfl rfl (p_assign rfl) ?_
  refine l_nil ?_
  refine t_seq ?_
  refine t_seq ?_
  refine t_region ?_
  refine l_p rfl rfl (p_assign rfl) ?_
  refine l_nil ?_
  refine t_block ?_
  refine t_loop (ι := Nat × List UInt8 × Option Addr × Nat × List Res) { E := fun i => [(0, .int .u64 n), (1, i64 k), (6, i64 i.1), (5, .slice i.2.2.1 i.2.1.length i.2.2.2.1)], S := fun _ => σ, M := fun i => own 1 eu8 5 (.slice i.2.2.1 i.2.1.length i.2.2.2.1) i.2.1 :: (i.2.2.2.2 ++ F), Φ := fun i => i.1 ≤ 8 ∧ i.2.1.length ≤ 8 ∧ i.2.1 ++ be n (min k (8 - i.1)) = be n k } (fun i => 8 - i.1) (0, [], none, 0, [])
    (by exact ⟨rfl, rfl, rfl, rfl, trivial⟩) ⟨by simp, by simp, by simp [Nat.min_eq_left hk]⟩ (fun w hI => hI.own0 ..) ?_
  rintro ⟨j, out, A2, c2, R⟩ ⟨h1, h1', h2⟩
  dsimp only at h1 h1' h2 ⊢
  have hlen := congrArg List.length h2
  simp only [List.length_append, be_len] at hlen
  refine t_seq ?_
  refine t_seq ?_
  refine t_region ?_
  refine l_p rfl rfl (p_move rfl) ?_
  refine l_p rfl rfl (p_lt rfl rfl) ?_
  refine l_nil ?_
  refine t_ifd rfl (fun h => ?_) (fun h => ?_)
  · refine t_skip ?_
    refine t_seq ?_
    refine t_block ?_
    refine t_seq ?_
    refine t_region ?_
    refine l_p rfl rfl (p_move rfl) ?_
    refine l_p rfl rfl (p_move rfl) ?_
    refine l_p rfl rfl (p_sub rfl rfl (by omega)) ?_
    refine l_p rfl rfl (p_ge rfl rfl) ?_
    refine l_nil ?_
    refine t_ifd rfl (fun h3 => ?_) (fun h3 => ?_)
    · obtain ⟨m, hm⟩ : ∃ m, 8 - j = m + 1 := ⟨7 - j, by omega⟩
      have hstep : (out ++ [UInt8.ofNat (n / 256 ^ m)]) ++ be n (min k (8 - (j + 1))) = be n k := by rw [← h2, Nat.min_eq_right (by omega), Nat.min_eq_right (by omega), hm, show 8 - (j + 1) = m by omega, be]; simp
      have hv : n / 2 ^ (56 - 8 * (j : Int)).toNat = n / 256 ^ m := by rw [show (56 - 8 * (j : Int)).toNat = 8 * m by omega, Nat.pow_mul]
      refine t_region ?_
      refine l_p rfl rfl (p_move rfl) ?_
      refine l_p rfl rfl (p_move rfl) ?_
      refine l_p rfl rfl (p_move rfl) ?_
      refine l_p rfl rfl (p_mul rfl rfl (by omega)) ?_
      refine l_p rfl rfl (p_sub rfl rfl (by omega)) ?_
      refine l_p rfl rfl (p_shr64 rfl rfl (by omega)) ?_
      refine l_p rfl rfl (p_convb (by exact rfl)) ?_
      refine l_bsl (by exact rfl) (by exact rfl) (by exact rfl) (by exact rfl) (by exact rfl) (by exact rfl) (by exact rfl) ?_; intro _
      rw [hv]
      refine l_app1 (enc := eu8) (UInt8.ofNat (n / 256 ^ m)) rfl rfl rfl rfl (.s .z) .z (by exact rfl) rfl (by exact rfl) (by exact rfl) (by omega) (by omega) fun A' c' => ?_
      refine l_p rfl rfl (p_assign rfl) ?_
      refine l_nil ?_
      refine t_blk ?_
      refine t_region ?_
      refine l_p rfl rfl (p_move rfl) ?_
      refine l_p rfl rfl (p_add rfl rfl (by omega)) ?_
      refine l_p rfl rfl (p_assign rfl) ?_
      refine l_nil ?_
      exact t_round (j + 1, out ++ [UInt8.ofNat (n / 256 ^ m)], A', c', _ :: R) ⟨rfl, rfl, gi rfl (by omega), gs rfl (by simp), trivial⟩ ⟨by omega, by simp; omega, hstep⟩ (by show 8 - (j + 1) < 8 - j; omega) (fun w hI => hI.oc (by simp) rfl)
    · refine t_skip ?_
      refine t_blk ?_
      refine t_region ?_
      refine l_p rfl rfl (p_move rfl) ?_
      refine l_p rfl rfl (p_add rfl rfl (by omega)) ?_
      refine l_p rfl rfl (p_assign rfl) ?_
      refine l_nil ?_
      exact t_round (j + 1, out, A2, c2, R) ⟨rfl, rfl, gi rfl (by omega), rfl, trivial⟩ ⟨by omega, h1', by rw [← h2, Nat.min_eq_left (by omega), Nat.min_eq_left (by omega)]⟩ (by show 8 - (j + 1) < 8 - j; omega) (fun w hI => hI)
  · have : j = 8 := by omega
    subst this
    simp only [Nat.sub_self, Nat.min_zero, be, List.append_nil] at h2
    subst h2
    refine t_exit rfl ?_
    refine t_seq ?_
    refine t_region ?_
    refine l_p rfl rfl (p_move rfl) ?_
    refine l_p rfl rfl (p_assign rfl) ?_
    refine l_nil ?_
    exact t_ret1 rfl rfl fun w hI => ⟨σ, _, .refl σ, ⟨rfl, _, _, rfl, rfl⟩, hI.keep1⟩
theorem rbegin (σ : Stb) (o g : Nat) (ho : o ≤ 15) (hg : g ≤ 2147483647) : Sp1 Tryd.prog 26 [i64 o, i64 g] σ fun v σ' r => σ = σ' ∧ ∃ A c, v = .slice A (be o 1 ++ be g 4).length c ∧ r = own 1 eu8 5 (.slice A (be o 1 ++ be g 4).length c) (be o 1 ++ be g 4) := by
  refine sp1 Tryd.func26 rfl (by kernel_rfl) rfl fun F => ?_
  refine t_seq ?_
  refine t_region ?_
  refine l_p rfl rfl (p_assign rfl) ?_
  refine l_nil ?_
  refine t_seq ?_
  refine t_region ?_
  refine l_p rfl rfl (p_move rfl) ?_
  refine l_p rfl rfl (p_convbI (by exact rfl) (by omega)) ?_
  refine l_bsl (by exact rfl) (by exact rfl) (by exact rfl) (by exact rfl) (by exact rfl) (by exact rfl) (by exact rfl) ?_; intro _
  refine l_p rfl rfl (p_move rfl) ?_
  refine l_p rfl rfl (p_convu64 (by exact rfl) (by omega)) ?_
  refine l_call1 rfl rfl rfl (rlay σ g 4 (by decide) (by omega)) ?_
  rintro _ _ _ - ⟨rfl, A3, c3, rfl, rfl⟩
  skip
  refine l_ownb 1 eu8 (be o 1) 1 (.s .z) rfl (by simp [be]; rfl) (by simp) (by simp [be_len]) ?_
  refine l_appu (xs := be o 1) (be g 4) rfl rfl rfl rfl .z (Src.ownu (.s .z)) rfl (by simp [be_len]) fun A4 c4 => ?_
  refine l_p rfl rfl (p_assign rfl) ?_
  refine l_nil ?_
  exact t_ret1 rfl rfl fun w hI => ⟨σ, _, .refl σ, ⟨rfl, A4, c4, by simp, by simp⟩, Inv.keep1 (R := [_]) hI⟩
theorem rowner (σ : Stb) (o g : Int) : SpV Tryd.prog 41 [i64 o, i64 g] σ (.bool (ownerB o g)) := by
  have no : ∀ w F, Inv σ F w → ¬ (0 ≤ o ∧ o ≤ 15 ∧ 1 ≤ g ∧ g ≤ 2147483647) → Value.bool false = .bool (ownerB o g) ∧ Inv σ F w := fun w F hI h => ⟨by congr 1; symm; rw [Bool.eq_false_iff]; intro hh; simp only [ownerB, Bool.and_eq_true, decide_eq_true_eq] at hh; omega, hI⟩
  refine spv Tryd.func41 rfl (by kernel_rfl) rfl fun F => ?_
  refine t_seq ?_
  refine t_region ?_
  refine l_p rfl rfl (p_assign rfl) ?_
  refine l_nil ?_
  refine t_seq ?_
  refine t_region ?_
  refine l_p rfl rfl (p_move rfl) ?_
  refine l_p rfl rfl (p_ge rfl rfl) ?_
  refine l_p rfl rfl (p_move rfl) ?_
  refine l_split 7 rfl (fun h => ?_) (fun h => ?_)
  · refine l_p rfl rfl (p_move rfl) ?_
    refine l_p rfl rfl (p_le rfl rfl) ?_
    refine l_p rfl rfl (p_pickt rfl rfl) ?_
    refine l_p rfl rfl (p_move rfl) ?_
    refine l_split 11 rfl (fun h2 => ?_) (fun h2 => ?_)
    · refine l_p rfl rfl (p_move rfl) ?_
      refine l_p rfl rfl (p_ge rfl rfl) ?_
      refine l_p rfl rfl (p_pickt rfl rfl) ?_
      refine l_p rfl rfl (p_move rfl) ?_
      refine l_split 15 rfl (fun h3 => ?_) (fun h3 => ?_)
      · refine l_p rfl rfl (p_move rfl) ?_
        refine l_p rfl rfl (p_le rfl rfl) ?_
        refine l_p rfl rfl (p_pickt rfl rfl) ?_
        refine l_p rfl rfl (p_assign rfl) ?_
        refine l_nil ?_
        exact t_ret1 rfl rfl fun w hI => ⟨by congr 1; rw [Bool.eq_iff_iff]; simp only [ownerB, Bool.and_eq_true, decide_eq_true_eq]; omega, hI⟩
      · refine l_skip rfl rfl ?_
        refine l_skip rfl rfl ?_
        refine l_p rfl rfl (p_pickf rfl rfl) ?_
        refine l_p rfl rfl (p_assign rfl) ?_
        refine l_nil ?_
        exact t_ret1 rfl rfl fun w hI => no w _ hI (by omega)
    · refine l_skip rfl rfl ?_
      refine l_skip rfl rfl ?_
      refine l_p rfl rfl (p_pickf rfl rfl) ?_
      refine l_p rfl rfl (p_move rfl) ?_
      refine l_skip rfl rfl ?_
      refine l_skip rfl rfl ?_
      refine l_p rfl rfl (p_pickf rfl rfl) ?_
      refine l_p rfl rfl (p_assign rfl) ?_
      refine l_nil ?_
      exact t_ret1 rfl rfl fun w hI => no w _ hI (by omega)
  · refine l_skip rfl rfl ?_
    refine l_skip rfl rfl ?_
    refine l_p rfl rfl (p_pickf rfl rfl) ?_
    refine l_p rfl rfl (p_move rfl) ?_
    refine l_skip rfl rfl ?_
    refine l_skip rfl rfl ?_
    refine l_p rfl rfl (p_pickf rfl rfl) ?_
    refine l_p rfl rfl (p_move rfl) ?_
    refine l_skip rfl rfl ?_
    refine l_skip rfl rfl ?_
    refine l_p rfl rfl (p_pickf rfl rfl) ?_
    refine l_p rfl rfl (p_assign rfl) ?_
    refine l_nil ?_
    exact t_ret1 rfl rfl fun w hI => no w _ hI (by omega)
theorem rrightbind (σ : Stb) (x : BindM) (hs : x.2.2.1.length ≤ 9223372036854775806) : SpV Tryd.prog 24 [vBind x] σ (.bool (rightBind x)) := by
  obtain ⟨o, g, tag, len, tick⟩ := x
  dsimp only at hs
  have no : ∀ w F, Inv σ F w → ¬ (ownerB o g = true ∧ 0 ≤ len ∧ len ≤ 4096 ∧ 0 ≤ tick ∧ tick ≤ 4611686018427387903 ∧ tag.length ≤ 40) → Value.bool false = .bool (rightBind (o, g, tag, len, tick)) ∧ Inv σ F w := fun w F hI h => ⟨by
    congr 1; symm; rw [Bool.eq_false_iff]; intro hh; simp only [rightBind, Bool.and_eq_true, decide_eq_true_eq] at hh
    exact h ⟨hh.1, hh.2.1.1, hh.2.1.2, hh.2.2.1.1, hh.2.2.1.2, hh.2.2.2.2⟩, hI⟩
  simp only [vBind]
  refine spv Tryd.func24 rfl (by kernel_rfl) rfl fun F => ?_
  refine t_seq ?_
  refine t_region ?_
  refine l_box rfl rfl rfl rfl ?_; intro _
  refine l_p rfl rfl (p_assign rfl) ?_
  refine l_nil ?_
  refine t_seq ?_
  refine t_region ?_
  refine l_p rfl rfl (p_fa (by exact rfl) Rds.bxi) ?_
  refine l_p rfl rfl (p_ld1 (by exact rfl) Rds.bxi) ?_
  refine l_p rfl rfl (p_fa (by exact rfl) Rds.bxi) ?_
  refine l_p rfl rfl (p_ld1 (by exact rfl) (Rds.fld Rds.bxi (by exact rfl))) ?_
  refine l_callv rfl rfl rfl (rowner σ o g) ?_
  refine l_p rfl rfl (p_move rfl) ?_
  refine l_splitb 8 rfl (fun h => ?_) (fun h => ?_)
  · refine l_p rfl rfl (p_fa (by exact rfl) Rds.bxi) ?_
    refine l_p rfl rfl (p_ld1 (by exact rfl) (Rds.fld Rds.bxi (by exact rfl))) ?_
    refine l_p rfl rfl (p_ge rfl rfl) ?_
    refine l_p rfl rfl (p_pickt rfl rfl) ?_
    refine l_p rfl rfl (p_move rfl) ?_
    refine l_split 13 rfl (fun h2 => ?_) (fun h2 => ?_)
    · refine l_p rfl rfl (p_fa (by exact rfl) Rds.bxi) ?_
      refine l_p rfl rfl (p_ld1 (by exact rfl) (Rds.fld Rds.bxi (by exact rfl))) ?_
      refine l_p rfl rfl (p_le rfl rfl) ?_
      refine l_p rfl rfl (p_pickt rfl rfl) ?_
      refine l_p rfl rfl (p_move rfl) ?_
      refine l_split 18 rfl (fun h3 => ?_) (fun h3 => ?_)
      · refine l_p rfl rfl (p_fa (by exact rfl) Rds.bxi) ?_
        refine l_p rfl rfl (p_ld1 (by exact rfl) (Rds.fld Rds.bxi (by exact rfl))) ?_
        refine l_p rfl rfl (p_ge rfl rfl) ?_
        refine l_p rfl rfl (p_pickt rfl rfl) ?_
        refine l_p rfl rfl (p_move rfl) ?_
        refine l_split 23 rfl (fun h4 => ?_) (fun h4 => ?_)
        · refine l_p rfl rfl (p_fa (by exact rfl) Rds.bxi) ?_
          refine l_p rfl rfl (p_ld1 (by exact rfl) (Rds.fld Rds.bxi (by exact rfl))) ?_
          refine l_p rfl rfl (p_le rfl rfl) ?_
          refine l_p rfl rfl (p_pickt rfl rfl) ?_
          refine l_p rfl rfl (p_move rfl) ?_
          refine l_split 28 rfl (fun h5 => ?_) (fun h5 => ?_)
          · refine l_p rfl rfl (p_fa (by exact rfl) Rds.bxi) ?_
            refine l_p rfl rfl (p_ld1 (by exact rfl) (Rds.fld Rds.bxi (by exact rfl))) ?_
            refine l_p rfl rfl (p_lens (by exact rfl)) ?_
            refine l_p rfl rfl (p_le rfl rfl) ?_
            refine l_p rfl rfl (p_pickt rfl rfl) ?_
            refine l_p rfl rfl (p_move rfl) ?_
            refine l_split 34 rfl (fun h6 => ?_) (fun h6 => ?_)
            · refine l_p rfl rfl (p_fa (by exact rfl) Rds.bxi) ?_
              refine l_p rfl rfl (p_ld1 (by exact rfl) (Rds.fld Rds.bxi (by exact rfl))) ?_
              refine l_callv rfl rfl rfl (rtag σ tag hs) ?_
              refine l_p rfl rfl (p_pickt rfl rfl) ?_
              refine l_p rfl rfl (p_assign rfl) ?_
              refine l_nil ?_
              exact t_ret1 rfl rfl fun w hI => ⟨by
                congr 1; rw [Bool.eq_iff_iff]; simp only [rightBind, Bool.and_eq_true, decide_eq_true_eq]
                exact ⟨fun hp => ⟨h, ⟨h2, h3⟩, ⟨h4, h5⟩, hp, by omega⟩, fun hh => hh.2.2.2.1⟩, hI.tail⟩
            · refine l_skip rfl rfl ?_
              refine l_skip rfl rfl ?_
              refine l_skip rfl rfl ?_
              refine l_p rfl rfl (p_pickf rfl rfl) ?_
              refine l_p rfl rfl (p_assign rfl) ?_
              refine l_nil ?_
              exact t_ret1 rfl rfl fun w hI => no w _ hI.tail (by omega)
          · refine l_skip rfl rfl ?_
            refine l_skip rfl rfl ?_
            refine l_skip rfl rfl ?_
            refine l_skip rfl rfl ?_
            refine l_p rfl rfl (p_pickf rfl rfl) ?_
            refine l_p rfl rfl (p_move rfl) ?_
            refine l_skip rfl rfl ?_
            refine l_skip rfl rfl ?_
            refine l_skip rfl rfl ?_
            refine l_p rfl rfl (p_pickf rfl rfl) ?_
            refine l_p rfl rfl (p_assign rfl) ?_
            refine l_nil ?_
            exact t_ret1 rfl rfl fun w hI => no w _ hI.tail (by omega)
        · refine l_skip rfl rfl ?_
          refine l_skip rfl rfl ?_
          refine l_skip rfl rfl ?_
          refine l_p rfl rfl (p_pickf rfl rfl) ?_
          refine l_p rfl rfl (p_move rfl) ?_
          refine l_skip rfl rfl ?_
          refine l_skip rfl rfl ?_
          refine l_skip rfl rfl ?_
          refine l_skip rfl rfl ?_
          refine l_p rfl rfl (p_pickf rfl rfl) ?_
          refine l_p rfl rfl (p_move rfl) ?_
          refine l_skip rfl rfl ?_
          refine l_skip rfl rfl ?_
          refine l_skip rfl rfl ?_
          refine l_p rfl rfl (p_pickf rfl rfl) ?_
          refine l_p rfl rfl (p_assign rfl) ?_
          refine l_nil ?_
          exact t_ret1 rfl rfl fun w hI => no w _ hI.tail (by omega)
      · refine l_skip rfl rfl ?_
        refine l_skip rfl rfl ?_
        refine l_skip rfl rfl ?_
        refine l_p rfl rfl (p_pickf rfl rfl) ?_
        refine l_p rfl rfl (p_move rfl) ?_
        refine l_skip rfl rfl ?_
        refine l_skip rfl rfl ?_
        refine l_skip rfl rfl ?_
        refine l_p rfl rfl (p_pickf rfl rfl) ?_
        refine l_p rfl rfl (p_move rfl) ?_
        refine l_skip rfl rfl ?_
        refine l_skip rfl rfl ?_
        refine l_skip rfl rfl ?_
        refine l_skip rfl rfl ?_
        refine l_p rfl rfl (p_pickf rfl rfl) ?_
        refine l_p rfl rfl (p_move rfl) ?_
        refine l_skip rfl rfl ?_
        refine l_skip rfl rfl ?_
        refine l_skip rfl rfl ?_
        refine l_p rfl rfl (p_pickf rfl rfl) ?_
        refine l_p rfl rfl (p_assign rfl) ?_
        refine l_nil ?_
        exact t_ret1 rfl rfl fun w hI => no w _ hI.tail (by omega)
    · refine l_skip rfl rfl ?_
      refine l_skip rfl rfl ?_
      refine l_skip rfl rfl ?_
      refine l_p rfl rfl (p_pickf rfl rfl) ?_
      refine l_p rfl rfl (p_move rfl) ?_
      refine l_skip rfl rfl ?_
      refine l_skip rfl rfl ?_
      refine l_skip rfl rfl ?_
      refine l_p rfl rfl (p_pickf rfl rfl) ?_
      refine l_p rfl rfl (p_move rfl) ?_
      refine l_skip rfl rfl ?_
      refine l_skip rfl rfl ?_
      refine l_skip rfl rfl ?_
      refine l_p rfl rfl (p_pickf rfl rfl) ?_
      refine l_p rfl rfl (p_move rfl) ?_
      refine l_skip rfl rfl ?_
      refine l_skip rfl rfl ?_
      refine l_skip rfl rfl ?_
      refine l_skip rfl rfl ?_
      refine l_p rfl rfl (p_pickf rfl rfl) ?_
      refine l_p rfl rfl (p_move rfl) ?_
      refine l_skip rfl rfl ?_
      refine l_skip rfl rfl ?_
      refine l_skip rfl rfl ?_
      refine l_p rfl rfl (p_pickf rfl rfl) ?_
      refine l_p rfl rfl (p_assign rfl) ?_
      refine l_nil ?_
      exact t_ret1 rfl rfl fun w hI => no w _ hI.tail (by omega)
  · refine l_skip rfl rfl ?_
    refine l_skip rfl rfl ?_
    refine l_skip rfl rfl ?_
    refine l_p rfl rfl (p_pickf rfl rfl) ?_
    refine l_p rfl rfl (p_move rfl) ?_
    refine l_skip rfl rfl ?_
    refine l_skip rfl rfl ?_
    refine l_skip rfl rfl ?_
    refine l_p rfl rfl (p_pickf rfl rfl) ?_
    refine l_p rfl rfl (p_move rfl) ?_
    refine l_skip rfl rfl ?_
    refine l_skip rfl rfl ?_
    refine l_skip rfl rfl ?_
    refine l_p rfl rfl (p_pickf rfl rfl) ?_
    refine l_p rfl rfl (p_move rfl) ?_
    refine l_skip rfl rfl ?_
    refine l_skip rfl rfl ?_
    refine l_skip rfl rfl ?_
    refine l_p rfl rfl (p_pickf rfl rfl) ?_
    refine l_p rfl rfl (p_move rfl) ?_
    refine l_skip rfl rfl ?_
    refine l_skip rfl rfl ?_
    refine l_skip rfl rfl ?_
    refine l_skip rfl rfl ?_
    refine l_p rfl rfl (p_pickf rfl rfl) ?_
    refine l_p rfl rfl (p_move rfl) ?_
    refine l_skip rfl rfl ?_
    refine l_skip rfl rfl ?_
    refine l_skip rfl rfl ?_
    refine l_p rfl rfl (p_pickf rfl rfl) ?_
    refine l_p rfl rfl (p_assign rfl) ?_
    refine l_nil ?_
    exact t_ret1 rfl rfl fun w hI => no w _ hI.tail (by rw [h]; simp)
theorem rrightpiece (σ : Stb) (x : PieceM) (A : Option Addr) (cc : Nat) : SpV Tryd.prog 25 [vPiece x A cc] σ (.bool (rightPiece x)) := by
  obtain ⟨o, g, i, body⟩ := x
  have no : ∀ w F, Inv σ F w → ¬ (ownerB o g = true ∧ 0 ≤ i ∧ i ≤ 4096 ∧ 1 ≤ body.length ∧ body.length ≤ 64) → Value.bool false = .bool (rightPiece (o, g, i, body)) ∧ Inv σ F w := fun w F hI h => ⟨by
    congr 1; symm; rw [Bool.eq_false_iff]; intro hh; simp only [rightPiece, Bool.and_eq_true, decide_eq_true_eq] at hh
    exact h ⟨hh.1, hh.2.1.1, hh.2.1.2, hh.2.2⟩, hI⟩
  simp only [vPiece]
  refine spv Tryd.func25 rfl (by kernel_rfl) rfl fun F => ?_
  refine t_seq ?_
  refine t_region ?_
  refine l_box rfl rfl rfl rfl ?_; intro _
  refine l_p rfl rfl (p_assign rfl) ?_
  refine l_nil ?_
  refine t_seq ?_
  refine t_region ?_
  refine l_p rfl rfl (p_fa (by exact rfl) Rds.bxi) ?_
  refine l_p rfl rfl (p_ld1 (by exact rfl) Rds.bxi) ?_
  refine l_p rfl rfl (p_fa (by exact rfl) Rds.bxi) ?_
  refine l_p rfl rfl (p_ld1 (by exact rfl) (Rds.fld Rds.bxi (by exact rfl))) ?_
  refine l_callv rfl rfl rfl (rowner σ o g) ?_
  refine l_p rfl rfl (p_move rfl) ?_
  refine l_splitb 8 rfl (fun h => ?_) (fun h => ?_)
  · refine l_p rfl rfl (p_fa (by exact rfl) Rds.bxi) ?_
    refine l_p rfl rfl (p_ld1 (by exact rfl) (Rds.fld Rds.bxi (by exact rfl))) ?_
    refine l_p rfl rfl (p_ge rfl rfl) ?_
    refine l_p rfl rfl (p_pickt rfl rfl) ?_
    refine l_p rfl rfl (p_move rfl) ?_
    refine l_split 13 rfl (fun h2 => ?_) (fun h2 => ?_)
    · refine l_p rfl rfl (p_fa (by exact rfl) Rds.bxi) ?_
      refine l_p rfl rfl (p_ld1 (by exact rfl) (Rds.fld Rds.bxi (by exact rfl))) ?_
      refine l_p rfl rfl (p_le rfl rfl) ?_
      refine l_p rfl rfl (p_pickt rfl rfl) ?_
      refine l_p rfl rfl (p_move rfl) ?_
      refine l_split 18 rfl (fun h3 => ?_) (fun h3 => ?_)
      · refine l_p rfl rfl (p_fa (by exact rfl) Rds.bxi) ?_
        refine l_p rfl rfl (p_ld1 (by exact rfl) (Rds.fld Rds.bxi (by exact rfl))) ?_
        refine l_p rfl rfl (p_lensl (by exact rfl)) ?_
        refine l_p rfl rfl (p_ge rfl rfl) ?_
        refine l_p rfl rfl (p_pickt rfl rfl) ?_
        refine l_p rfl rfl (p_move rfl) ?_
        refine l_split 24 rfl (fun h4 => ?_) (fun h4 => ?_)
        · refine l_p rfl rfl (p_fa (by exact rfl) Rds.bxi) ?_
          refine l_p rfl rfl (p_ld1 (by exact rfl) (Rds.fld Rds.bxi (by exact rfl))) ?_
          refine l_p rfl rfl (p_lensl (by exact rfl)) ?_
          refine l_p rfl rfl (p_le rfl rfl) ?_
          refine l_p rfl rfl (p_pickt rfl rfl) ?_
          refine l_p rfl rfl (p_assign rfl) ?_
          refine l_nil ?_
          exact t_ret1 rfl rfl fun w hI => ⟨by
            congr 1; rw [Bool.eq_iff_iff]; simp only [rightPiece, Bool.and_eq_true, decide_eq_true_eq]
            exact ⟨fun hp => ⟨h, ⟨h2, h3⟩, by omega, by omega⟩, fun hh => by omega⟩, hI.tail⟩
        · refine l_skip rfl rfl ?_
          refine l_skip rfl rfl ?_
          refine l_skip rfl rfl ?_
          refine l_skip rfl rfl ?_
          refine l_p rfl rfl (p_pickf rfl rfl) ?_
          refine l_p rfl rfl (p_assign rfl) ?_
          refine l_nil ?_
          exact t_ret1 rfl rfl fun w hI => no w _ hI.tail (by omega)
      · refine l_skip rfl rfl ?_
        refine l_skip rfl rfl ?_
        refine l_skip rfl rfl ?_
        refine l_skip rfl rfl ?_
        refine l_p rfl rfl (p_pickf rfl rfl) ?_
        refine l_p rfl rfl (p_move rfl) ?_
        refine l_skip rfl rfl ?_
        refine l_skip rfl rfl ?_
        refine l_skip rfl rfl ?_
        refine l_skip rfl rfl ?_
        refine l_p rfl rfl (p_pickf rfl rfl) ?_
        refine l_p rfl rfl (p_assign rfl) ?_
        refine l_nil ?_
        exact t_ret1 rfl rfl fun w hI => no w _ hI.tail (by omega)
    · refine l_skip rfl rfl ?_
      refine l_skip rfl rfl ?_
      refine l_skip rfl rfl ?_
      refine l_p rfl rfl (p_pickf rfl rfl) ?_
      refine l_p rfl rfl (p_move rfl) ?_
      refine l_skip rfl rfl ?_
      refine l_skip rfl rfl ?_
      refine l_skip rfl rfl ?_
      refine l_skip rfl rfl ?_
      refine l_p rfl rfl (p_pickf rfl rfl) ?_
      refine l_p rfl rfl (p_move rfl) ?_
      refine l_skip rfl rfl ?_
      refine l_skip rfl rfl ?_
      refine l_skip rfl rfl ?_
      refine l_skip rfl rfl ?_
      refine l_p rfl rfl (p_pickf rfl rfl) ?_
      refine l_p rfl rfl (p_assign rfl) ?_
      refine l_nil ?_
      exact t_ret1 rfl rfl fun w hI => no w _ hI.tail (by omega)
  · refine l_skip rfl rfl ?_
    refine l_skip rfl rfl ?_
    refine l_skip rfl rfl ?_
    refine l_p rfl rfl (p_pickf rfl rfl) ?_
    refine l_p rfl rfl (p_move rfl) ?_
    refine l_skip rfl rfl ?_
    refine l_skip rfl rfl ?_
    refine l_skip rfl rfl ?_
    refine l_p rfl rfl (p_pickf rfl rfl) ?_
    refine l_p rfl rfl (p_move rfl) ?_
    refine l_skip rfl rfl ?_
    refine l_skip rfl rfl ?_
    refine l_skip rfl rfl ?_
    refine l_skip rfl rfl ?_
    refine l_p rfl rfl (p_pickf rfl rfl) ?_
    refine l_p rfl rfl (p_move rfl) ?_
    refine l_skip rfl rfl ?_
    refine l_skip rfl rfl ?_
    refine l_skip rfl rfl ?_
    refine l_skip rfl rfl ?_
    refine l_p rfl rfl (p_pickf rfl rfl) ?_
    refine l_p rfl rfl (p_assign rfl) ?_
    refine l_nil ?_
    exact t_ret1 rfl rfl fun w hI => no w _ hI.tail (by rw [h]; simp)
theorem rbind (σ : Stb) (x : BindM) (h' : rightBind x = true) : Sp1 Tryd.prog 15 [vBind x] σ fun v σ' r => σ = σ' ∧ ∃ A c, v = .slice A (bindBytes x).length c ∧ r = own 1 eu8 5 (.slice A (bindBytes x).length c) (bindBytes x) := by
  obtain ⟨o, g, len, tick, e, ho, hg, hlen, htick, htag⟩ := own_bind h'
  obtain ⟨o', g', tag, len', tick'⟩ := x
  cases e
  dsimp only at htag
  simp only [vBind]
  refine sp1 Tryd.func15 rfl (by kernel_rfl) rfl fun F => ?_
  refine t_seq ?_
  refine t_region ?_
  refine l_box rfl rfl rfl rfl ?_; intro _
  refine l_p rfl rfl (p_assign rfl) ?_
  refine l_nil ?_
  refine t_seq ?_
  refine t_drawd _ (fun w hI => hI) ?_
  refine d_take 0 rfl (by kernel_rfl) rfl rfl (p_fa (by exact rfl) Rds.bxi) ?_
  refine d_take 1 rfl (by kernel_rfl) rfl rfl (p_ld1 (by exact rfl) Rds.bxi) ?_
  refine d_take 2 rfl (by kernel_rfl) rfl rfl (p_fa (by exact rfl) Rds.bxi) ?_
  refine d_take 3 rfl (by kernel_rfl) rfl rfl (p_ld1 (by exact rfl) (Rds.fld Rds.bxi (by exact rfl))) ?_
  refine d_take 5 rfl (by kernel_rfl) rfl rfl (p_fa (by exact rfl) Rds.bxi) ?_
  refine d_take 6 rfl (by kernel_rfl) rfl rfl (p_ld1 (by exact rfl) (Rds.fld Rds.bxi (by exact rfl))) ?_
  refine d_take 7 rfl (by kernel_rfl) rfl rfl (p_convu64 (by exact rfl) (by omega)) ?_
  refine d_br1 (i := 4) (by kernel_rfl) rfl ?_
  refine l_call1 rfl rfl rfl (rbegin σ o g ho hg) ?_
  rintro _ _ _ - ⟨rfl, A1, c1, rfl, rfl⟩
  refine l_nil ?_
  refine d_go (fun w hI => hI.tail) ?_
  refine d_br1 (i := 8) (by kernel_rfl) rfl ?_
  refine l_call1 rfl rfl rfl (rlay σ len 2 (by decide) (by omega)) ?_
  rintro _ _ _ - ⟨rfl, A2, c2, rfl, rfl⟩
  refine l_nil ?_
  refine d_go (fun w hI => hI.tail.tail) ?_
  refine d_br1 (i := 9) (by kernel_rfl) rfl ?_
  refine l_appu (be len 2) rfl rfl rfl rfl (.s .z) (Src.ownu .z) rfl (by simp [be_len]) fun A3 c3 => ?_
  refine l_nil ?_
  refine d_go (fun w hI => hI.tail.tail) ?_
  refine d_take 10 rfl (by kernel_rfl) rfl rfl (p_assign rfl) ?_
  refine d_done (by kernel_rfl) ?_
  refine t_seq ?_
  refine t_region ?_
  refine l_p rfl rfl (p_move rfl) ?_
  refine l_p rfl rfl (p_fa (by exact rfl) Rds.bxi) ?_
  refine l_p rfl rfl (p_ld1 (by exact rfl) (Rds.fld Rds.bxi (by exact rfl))) ?_
  refine l_p rfl rfl (p_convu64 (by exact rfl) (by omega)) ?_
  refine l_call1 rfl rfl rfl (rlay σ tick 8 (by decide) (by omega)) ?_
  rintro _ _ _ - ⟨rfl, A4, c4, rfl, rfl⟩
  skip
  refine l_appu (be tick 8) rfl rfl rfl rfl (.s .z) (Src.ownu .z) rfl (by simp [be_len]) fun A5 c5 => ?_
  refine l_p rfl rfl (p_assign rfl) ?_
  refine l_nil ?_
  refine t_seq ?_
  refine t_region ?_
  refine l_p rfl rfl (p_move rfl) ?_
  refine l_p rfl rfl (p_fa (by exact rfl) Rds.bxi) ?_
  refine l_p rfl rfl (p_ld1 (by exact rfl) (Rds.fld Rds.bxi (by exact rfl))) ?_
  refine l_appu tag rfl rfl rfl rfl .z (Src.str tag) rfl (by simp [be_len]; omega) fun A6 c6 => ?_
  refine l_p rfl rfl (p_assign rfl) ?_
  refine l_nil ?_
  exact t_ret1 rfl rfl fun w hI => ⟨σ, _, .refl σ, ⟨rfl, A6, c6, by simp [bindBytes, Nat.add_assoc], by simp [bindBytes, Nat.add_assoc]⟩, Inv.keep1 (R := [_, _, _]) hI⟩
theorem rpiece {σ : Stb} (x : PieceM) {A : Option Addr} {cc : Nat} (hS : Sl σ 1 eu8 (.slice A x.2.2.2.length cc) x.2.2.2) (h' : rightPiece x = true) : Sp1 Tryd.prog 16 [vPiece x A cc] σ fun v σ' r => σ = σ' ∧ ∃ A c, v = .slice A (pieceBytes x).length c ∧ r = own 1 eu8 5 (.slice A (pieceBytes x).length c) (pieceBytes x) := by
  obtain ⟨o, g, i, e, ho, hg, hi, hb1, hb2⟩ := own_piece h'
  obtain ⟨o', g', i', body⟩ := x
  cases e
  dsimp only at hb1 hb2 hS
  simp only [vPiece]
  refine sp1 Tryd.func16 rfl (by kernel_rfl) rfl fun F => ?_
  refine t_seq ?_
  refine t_region ?_
  refine l_box rfl rfl rfl rfl ?_; intro _
  refine l_p rfl rfl (p_assign rfl) ?_
  refine l_nil ?_
  refine t_seq ?_
  refine t_drawd _ (fun w hI => hI) ?_
  refine d_take 0 rfl (by kernel_rfl) rfl rfl (p_fa (by exact rfl) Rds.bxi) ?_
  refine d_take 1 rfl (by kernel_rfl) rfl rfl (p_ld1 (by exact rfl) Rds.bxi) ?_
  refine d_take 2 rfl (by kernel_rfl) rfl rfl (p_fa (by exact rfl) Rds.bxi) ?_
  refine d_take 3 rfl (by kernel_rfl) rfl rfl (p_ld1 (by exact rfl) (Rds.fld Rds.bxi (by exact rfl))) ?_
  refine d_take 5 rfl (by kernel_rfl) rfl rfl (p_fa (by exact rfl) Rds.bxi) ?_
  refine d_take 6 rfl (by kernel_rfl) rfl rfl (p_ld1 (by exact rfl) (Rds.fld Rds.bxi (by exact rfl))) ?_
  refine d_take 7 rfl (by kernel_rfl) rfl rfl (p_convu64 (by exact rfl) (by omega)) ?_
  refine d_br1 (i := 4) (by kernel_rfl) rfl ?_
  refine l_call1 rfl rfl rfl (rbegin σ o g ho hg) ?_
  rintro _ _ _ - ⟨rfl, A1, c1, rfl, rfl⟩
  refine l_nil ?_
  refine d_go (fun w hI => hI.tail) ?_
  refine d_br1 (i := 8) (by kernel_rfl) rfl ?_
  refine l_call1 rfl rfl rfl (rlay σ i 2 (by decide) (by omega)) ?_
  rintro _ _ _ - ⟨rfl, A2, c2, rfl, rfl⟩
  refine l_nil ?_
  refine d_go (fun w hI => hI.tail.tail) ?_
  refine d_br1 (i := 9) (by kernel_rfl) rfl ?_
  refine l_appu (be i 2) rfl rfl rfl rfl (.s .z) (Src.ownu .z) rfl (by simp [be_len]) fun A3 c3 => ?_
  refine l_nil ?_
  refine d_go (fun w hI => hI.tail.tail) ?_
  refine d_take 10 rfl (by kernel_rfl) rfl rfl (p_assign rfl) ?_
  refine d_done (by kernel_rfl) ?_
  refine t_seq ?_
  refine t_region ?_
  refine l_p rfl rfl (p_move rfl) ?_
  refine l_p rfl rfl (p_fa (by exact rfl) Rds.bxi) ?_
  refine l_p rfl rfl (p_ld1 (by exact rfl) (Rds.fld Rds.bxi (by exact rfl))) ?_
  refine l_appu body rfl rfl rfl rfl .z (Src.slu hS) rfl (by simp [be_len]; omega) fun A6 c6 => ?_
  refine l_p rfl rfl (p_assign rfl) ?_
  refine l_nil ?_
  exact t_ret1 rfl rfl fun w hI => ⟨σ, _, .refl σ, ⟨rfl, A6, c6, by simp [pieceBytes, Nat.add_assoc], by simp [pieceBytes, Nat.add_assoc]⟩, Inv.keep1 (R := [_, _]) hI⟩
theorem rbytes {σ : Stb} {A B : Option Addr} {n0 c0 n1 c1 : Nat} {a b : List UInt8} (hS : Sl σ 1 eu8 (.slice A n0 c0) a) (hT : Sl σ 1 eu8 (.slice B n1 c1) b) :
    SpV Tryd.prog 9 [.slice A n0 c0, .slice B n1 c1] σ (.bool (decide (a = b))) := by
  have hn := hS.len
  have hn' := hT.len
  subst hn; subst hn'
  have hb1 := hS.bound
  have hb2 := hT.bound
  refine spv Tryd.func9 rfl (by kernel_rfl) rfl fun F => ?_
  refine t_seq ?_
  refine t_region ?_
  refine l_p rfl rfl (p_assign rfl) ?_
  refine l_nil ?_
  refine t_seq ?_
  refine t_seq ?_
  refine t_region ?_
  refine l_p rfl rfl (p_move rfl) ?_
  refine l_p rfl rfl (p_lensl (by exact rfl)) ?_
  refine l_p rfl rfl (p_move rfl) ?_
  refine l_p rfl rfl (p_lensl (by exact rfl)) ?_
  refine l_p rfl rfl (p_ne rfl rfl) ?_
  refine l_nil ?_
  refine t_ifd rfl (fun h => ?_) (fun h => ?_)
  · refine t_seq ?_
    refine t_region ?_
    refine l_p rfl rfl (p_assign rfl) ?_
    refine l_nil ?_
    exact t_ret1 rfl rfl fun w hI => ⟨by rw [decide_eq_false]; rintro rfl; exact h rfl, hI⟩
  have h' : a.length = b.length := by omega
  refine t_skip ?_
  refine t_seq ?_
  refine t_seq ?_
  refine t_region ?_
  refine l_p rfl rfl (p_move rfl) ?_
  refine l_p rfl rfl (p_lensl (by exact rfl)) ?_
  refine l_p rfl rfl (p_move rfl) ?_
  refine l_nil ?_
  refine t_block ?_
  refine t_loop (ι := Nat) { E := fun j => [(0, .slice A a.length c0), (1, .slice B b.length c1), (12, i64 a.length), (13, i64 j)], S := fun _ => σ, M := fun _ => F, Φ := fun j => j ≤ a.length ∧ a.take j = b.take j } (fun j => a.length - j) 0
    (by exact ⟨rfl, rfl, rfl, rfl, trivial⟩) ⟨Nat.zero_le _, rfl⟩ (fun w hI => hI) ?_
  rintro j ⟨hj, he⟩
  dsimp only at hj he ⊢
  refine t_seq ?_
  refine t_region ?_
  refine l_p rfl rfl (p_lt rfl rfl) ?_
  refine l_nil ?_
  refine t_seq ?_
  refine t_ifd rfl (fun h3 => ?_) (fun h3 => ?_)
  · have hj2 : j < a.length := by omega
    have hj3 : j < b.length := by omega
    refine t_skip ?_
    refine t_seq ?_
    refine t_block ?_
    refine t_seq ?_
    refine t_region ?_
    refine l_p rfl rfl (p_move rfl) ?_
    refine l_p rfl rfl (p_assign rfl) ?_
    refine l_nil ?_
    refine t_seq ?_
    refine t_draw (by kernel_rfl) ?_
    refine q_p rfl rfl (p_move rfl) ?_
    refine q_p rfl rfl (p_move rfl) ?_
    refine q_p rfl rfl (p_ix _ (by exact rfl) (by exact rfl) (by exact rfl) (by omega) (Rds.ix (by assumption) (by omega))) ?_
    refine q_p rfl rfl (p_ld1 (by exact rfl) (Rds.of (Rds.ix (by assumption) (by omega)) (by exact rfl))) ?_
    refine q_p rfl rfl (p_move rfl) ?_
    refine q_p rfl rfl (p_move rfl) ?_
    refine q_p rfl rfl (p_ix _ (by exact rfl) (by exact rfl) (by exact rfl) (by omega) (Rds.ix (by assumption) (by omega))) ?_
    refine q_p rfl rfl (p_ld1 (by exact rfl) (Rds.of (Rds.ix (by assumption) (by omega)) (by exact rfl))) ?_
    refine q_p rfl rfl (p_ne rfl rfl) ?_
    refine q_nil ?_
    refine t_ifd rfl (fun h4 => ?_) (fun h4 => ?_)
    · refine t_seq ?_
      refine t_region ?_
      refine l_p rfl rfl (p_assign rfl) ?_
      refine l_nil ?_
      exact t_ret1 rfl rfl fun w hI => ⟨by rw [decide_eq_false]; rintro rfl; exact h4 rfl, hI⟩
    · refine t_skip ?_
      refine t_blk ?_
      refine t_region ?_
      refine l_p rfl rfl (p_add rfl rfl (by omega)) ?_
      refine l_p rfl rfl (p_move rfl) ?_
      refine l_nil ?_
      refine t_round (j + 1) ⟨rfl, rfl, rfl, gi rfl (by omega), trivial⟩ ⟨by omega, ?_⟩ (by show a.length - (j + 1) < a.length - j; omega) (fun w hI => hI)
      rw [take_succ a j hj2, take_succ b j hj3, he]
      congr 2
      apply UInt8.toNat_inj.1
      omega
  · have : j = a.length := by omega
    subst this
    rw [List.take_length, h', List.take_length] at he
    refine t_exit rfl ?_
    refine t_seq ?_
    refine t_region ?_
    refine l_p rfl rfl (p_assign rfl) ?_
    refine l_nil ?_
    exact t_ret1 rfl rfl fun w hI => ⟨by rw [decide_eq_true he], hI⟩
theorem rsamepiece {σ : Stb} (x y : PieceM) {A B : Option Addr} {c1 c2 : Nat} (hS : Sl σ 1 eu8 (.slice A x.2.2.2.length c1) x.2.2.2) (hT : Sl σ 1 eu8 (.slice B y.2.2.2.length c2) y.2.2.2) :
    SpV Tryd.prog 28 [vPiece x A c1, vPiece y B c2] σ (.bool (decide (x = y))) := by
  obtain ⟨o, g, i, body⟩ := x
  obtain ⟨o', g', i', body'⟩ := y
  dsimp only at hS hT
  simp only [vPiece]
  refine spv Tryd.func28 rfl (by kernel_rfl) rfl fun F => ?_
  refine t_seq ?_
  refine t_region ?_
  refine l_box rfl rfl rfl rfl ?_; intro _
  refine l_box rfl rfl rfl rfl ?_; intro _
  refine l_p rfl rfl (p_assign rfl) ?_
  refine l_nil ?_
  refine t_seq ?_
  refine t_region ?_
  refine l_p rfl rfl (p_fa (by exact rfl) Rds.bxi) ?_
  refine l_p rfl rfl (p_ld1 (by exact rfl) Rds.bxi) ?_
  refine l_p rfl rfl (p_fa (by exact rfl) Rds.bxi) ?_
  refine l_p rfl rfl (p_ld1 (by exact rfl) Rds.bxi) ?_
  refine l_p rfl rfl (p_eq rfl rfl) ?_
  refine l_p rfl rfl (p_move rfl) ?_
  refine l_split 10 rfl (fun h => ?_) (fun h => ?_)
  · refine l_p rfl rfl (p_fa (by exact rfl) Rds.bxi) ?_
    refine l_p rfl rfl (p_ld1 (by exact rfl) (Rds.fld Rds.bxi (by exact rfl))) ?_
    refine l_p rfl rfl (p_fa (by exact rfl) Rds.bxi) ?_
    refine l_p rfl rfl (p_ld1 (by exact rfl) (Rds.fld Rds.bxi (by exact rfl))) ?_
    refine l_p rfl rfl (p_eq rfl rfl) ?_
    refine l_p rfl rfl (p_pickt rfl rfl) ?_
    refine l_p rfl rfl (p_move rfl) ?_
    refine l_split 17 rfl (fun h2 => ?_) (fun h2 => ?_)
    · refine l_p rfl rfl (p_fa (by exact rfl) Rds.bxi) ?_
      refine l_p rfl rfl (p_ld1 (by exact rfl) (Rds.fld Rds.bxi (by exact rfl))) ?_
      refine l_p rfl rfl (p_fa (by exact rfl) Rds.bxi) ?_
      refine l_p rfl rfl (p_ld1 (by exact rfl) (Rds.fld Rds.bxi (by exact rfl))) ?_
      refine l_p rfl rfl (p_eq rfl rfl) ?_
      refine l_p rfl rfl (p_pickt rfl rfl) ?_
      refine l_p rfl rfl (p_move rfl) ?_
      refine l_split 24 rfl (fun h3 => ?_) (fun h3 => ?_)
      · refine l_p rfl rfl (p_fa (by exact rfl) Rds.bxi) ?_
        refine l_p rfl rfl (p_ld1 (by exact rfl) (Rds.fld Rds.bxi (by exact rfl))) ?_
        refine l_p rfl rfl (p_fa (by exact rfl) Rds.bxi) ?_
        refine l_p rfl rfl (p_ld1 (by exact rfl) (Rds.fld Rds.bxi (by exact rfl))) ?_
        refine l_callv rfl rfl rfl (rbytes hS hT) ?_
        refine l_p rfl rfl (p_pickt rfl rfl) ?_
        refine l_p rfl rfl (p_assign rfl) ?_
        refine l_nil ?_
        exact t_ret1 rfl rfl fun w hI => ⟨by congr 1; exact decide_eq_decide.2 (by simp only [Prod.mk.injEq]; exact ⟨fun hb => ⟨h, h2, h3, hb⟩, fun hb => hb.2.2.2⟩), hI.tail.tail⟩
      · refine l_skip rfl rfl ?_
        refine l_skip rfl rfl ?_
        refine l_skip rfl rfl ?_
        refine l_skip rfl rfl ?_
        refine l_skip rfl rfl ?_
        refine l_p rfl rfl (p_pickf rfl rfl) ?_
        refine l_p rfl rfl (p_assign rfl) ?_
        refine l_nil ?_
        exact t_ret1 rfl rfl fun w hI => ⟨by congr 1; symm; apply decide_eq_false; intro e; cases e; omega, hI.tail.tail⟩
    · refine l_skip rfl rfl ?_
      refine l_skip rfl rfl ?_
      refine l_skip rfl rfl ?_
      refine l_skip rfl rfl ?_
      refine l_skip rfl rfl ?_
      refine l_p rfl rfl (p_pickf rfl rfl) ?_
      refine l_p rfl rfl (p_move rfl) ?_
      refine l_skip rfl rfl ?_
      refine l_skip rfl rfl ?_
      refine l_skip rfl rfl ?_
      refine l_skip rfl rfl ?_
      refine l_skip rfl rfl ?_
      refine l_p rfl rfl (p_pickf rfl rfl) ?_
      refine l_p rfl rfl (p_assign rfl) ?_
      refine l_nil ?_
      exact t_ret1 rfl rfl fun w hI => ⟨by congr 1; symm; apply decide_eq_false; intro e; cases e; omega, hI.tail.tail⟩
  · refine l_skip rfl rfl ?_
    refine l_skip rfl rfl ?_
    refine l_skip rfl rfl ?_
    refine l_skip rfl rfl ?_
    refine l_skip rfl rfl ?_
    refine l_p rfl rfl (p_pickf rfl rfl) ?_
    refine l_p rfl rfl (p_move rfl) ?_
    refine l_skip rfl rfl ?_
    refine l_skip rfl rfl ?_
    refine l_skip rfl rfl ?_
    refine l_skip rfl rfl ?_
    refine l_skip rfl rfl ?_
    refine l_p rfl rfl (p_pickf rfl rfl) ?_
    refine l_p rfl rfl (p_move rfl) ?_
    refine l_skip rfl rfl ?_
    refine l_skip rfl rfl ?_
    refine l_skip rfl rfl ?_
    refine l_skip rfl rfl ?_
    refine l_skip rfl rfl ?_
    refine l_p rfl rfl (p_pickf rfl rfl) ?_
    refine l_p rfl rfl (p_assign rfl) ?_
    refine l_nil ?_
    exact t_ret1 rfl rfl fun w hI => ⟨by congr 1; symm; apply decide_eq_false; intro e; cases e; omega, hI.tail.tail⟩
theorem llay {σ : Stb} {A B : Option Addr} {c1 c2 : Nat} {a b : List UInt8} (hl : b.length ≤ 65535) (ha : a.length ≤ 10000000000000) (hT : Sl σ 1 eu8 (.slice B b.length c2) b) :
    Sq1 Tryd.prog 14 [.slice A a.length c1, .slice B b.length c2] σ (own 1 eu8 5 (.slice A a.length c1) a) fun v σ' r => σ = σ' ∧ ∃ A c, v = .slice A (a ++ layB b).length c ∧ r = own 1 eu8 5 (.slice A (a ++ layB b).length c) (a ++ layB b) := by
  refine sq1 Tryd.func14 rfl (by kernel_rfl) rfl fun F => ?_
  refine t_seq ?_
  refine t_region ?_
  refine l_p rfl rfl (p_assign rfl) ?_
  refine l_nil ?_
  refine t_seq ?_
  refine t_region ?_
  refine l_p rfl rfl (p_move rfl) ?_
  refine l_p rfl rfl (p_move rfl) ?_
  refine l_p rfl rfl (p_lensl (by exact rfl)) ?_
  refine l_p rfl rfl (p_quo rfl rfl (by omega)) ?_
  refine l_p rfl rfl (p_convbI (by exact rfl) (by omega)) ?_
  refine l_p rfl rfl (p_move rfl) ?_
  refine l_p rfl rfl (p_lensl (by exact rfl)) ?_
  refine l_p rfl rfl (p_remk rfl rfl (by omega)) ?_
  refine l_p rfl rfl (p_convbI (by exact rfl) (by omega)) ?_
  refine l_bsl (by exact rfl) (by exact rfl) (by exact rfl) (by exact rfl) (by exact rfl) (by exact rfl) (by exact rfl) ?_; intro _
  have e : [UInt8.ofNat (b.length / 256), UInt8.ofNat (b.length % 256)] = be b.length 2 := by
    simp only [be, Nat.pow_one, Nat.pow_zero, Nat.div_one, List.cons.injEq, and_true, true_and]
    apply UInt8.toNat_inj.1; simp
  refine l_appu (xs := a) (be b.length 2) rfl rfl rfl rfl (.s .z) (Src.bxu .z (by rw [← e]; exact rfl) rfl) rfl (by simp [be_len]; omega) fun A3 c3 => ?_
  refine l_p rfl rfl (p_move rfl) ?_
  refine l_appu b rfl rfl rfl rfl .z (Src.slu hT) rfl (by simp [be_len]; omega) fun A4 c4 => ?_
  refine l_p rfl rfl (p_assign rfl) ?_
  refine l_nil ?_
  exact t_ret1 rfl rfl fun w hI => ⟨σ, _, .refl σ, ⟨rfl, A4, c4, by simp [layB, Nat.add_assoc], by simp [layB, Nat.add_assoc]⟩, Inv.keep1 (R := [_]) hI⟩
end Go.Proofs.YtbijponhndknlaaDoor
