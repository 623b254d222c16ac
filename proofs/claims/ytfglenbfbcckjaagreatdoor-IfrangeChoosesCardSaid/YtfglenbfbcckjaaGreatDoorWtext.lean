/- Layer 3 (text), and the document's: walks. -/
import Derived.Test.YtfglenbfbcckjaaGreatDoorTy
import Derived.Test.YtfglenbfbcckjaaGreatDoorX1
set_option linter.unusedSimpArgs false
set_option linter.unusedVariables false
set_option maxRecDepth 20000
namespace Go.Proofs.YtfglenbfbcckjaaGreatDoor
open Go.Sp
attribute [local irreducible] Go.Sp.Pr Go.Sp.Ws Go.Sp.Wl Go.Sp.Wq Go.Sp.Rds Go.Sp.Src
theorem tblank (σ : Stb) (b : UInt8) : SpV Tryz.prog 56 [u8 b] σ (.bool (isBl b)) := by
  refine spv Tryz.func56 rfl (by kernel_rfl) rfl fun F => ?_
  refine t_seq ?_
  refine t_region ?_
  refine l_p rfl rfl (p_assign rfl) ?_
  refine l_nil ?_
  refine t_seq ?_
  refine t_region ?_
  refine l_p rfl rfl (p_move rfl) ?_
  refine l_p rfl rfl (p_eq rfl rfl) ?_
  refine l_p rfl rfl (p_move rfl) ?_
  refine l_split 5 rfl (fun h => ?_) (fun h => ?_)
  all_goals
    first | (refine l_skip rfl rfl ?_; refine l_skip rfl rfl ?_; refine l_p rfl rfl (p_pickt rfl rfl) ?_; refine l_p rfl rfl (p_assign rfl) ?_; refine l_nil ?_) | (refine l_p rfl rfl (p_move rfl) ?_; refine l_p rfl rfl (p_eq rfl rfl) ?_; refine l_p rfl rfl (p_pickf rfl rfl) ?_; refine l_p rfl rfl (p_assign rfl) ?_; refine l_nil ?_)
    exact t_ret1 rfl rfl fun w hI => ⟨(by congr 1; rw [Bool.eq_iff_iff]; simp [isBl]; omega), hI⟩
theorem rblank (σ : Stb) (b : UInt8) : SpV Tryz.prog 64 [u8 b] σ (.bool (isBl b)) := by
  refine spv Tryz.func64 rfl (by kernel_rfl) rfl fun F => ?_
  refine t_seq ?_
  refine t_region ?_
  refine l_p rfl rfl (p_assign rfl) ?_
  refine l_nil ?_
  refine t_seq ?_
  refine t_region ?_
  refine l_p rfl rfl (p_move rfl) ?_
  refine l_p rfl rfl (p_eq rfl rfl) ?_
  refine l_p rfl rfl (p_move rfl) ?_
  refine l_split 5 rfl (fun h => ?_) (fun h => ?_)
  all_goals
    first | (refine l_skip rfl rfl ?_; refine l_skip rfl rfl ?_; refine l_p rfl rfl (p_pickt rfl rfl) ?_; refine l_p rfl rfl (p_assign rfl) ?_; refine l_nil ?_) | (refine l_p rfl rfl (p_move rfl) ?_; refine l_p rfl rfl (p_eq rfl rfl) ?_; refine l_p rfl rfl (p_pickf rfl rfl) ?_; refine l_p rfl rfl (p_assign rfl) ?_; refine l_nil ?_)
    exact t_ret1 rfl rfl fun w hI => ⟨(by congr 1; rw [Bool.eq_iff_iff]; simp [isBl]; omega), hI⟩

theorem tright (σ : Stb) (s : List UInt8) (hs : s.length ≤ 9223372036854775807) : SpV Tryz.prog 55 [st s] σ (st (trimR s)) := by
  refine spv Tryz.func55 rfl (by kernel_rfl) rfl fun F => ?_
  refine t_seq ?_
  refine t_region ?_
  refine l_p rfl rfl (p_assign rfl) ?_
  refine l_nil ?_
  refine t_seq ?_
  refine t_region ?_
  refine l_p rfl rfl (p_move rfl) ?_
  refine l_p rfl rfl (p_lens (by exact rfl)) ?_
  refine l_p rfl rfl (p_assign rfl) ?_
  refine l_nil ?_
  refine t_seq ?_
  refine t_block ?_
  refine t_loop (ι := Nat) { E := fun n => [(0, st s), (3, i64 n)], S := fun _ => σ, M := fun _ => F, Φ := fun n => n ≤ s.length ∧ trimR (s.take n) = trimR s } (fun n => n) s.length
    (by exact ⟨rfl, rfl, trivial⟩) ⟨Nat.le_refl _, by simp⟩ (fun w hI => hI) ?_
  rintro n ⟨h1, h2⟩
  dsimp only
  refine t_seq ?_
  refine t_seq ?_
  refine t_region ?_
  refine l_p rfl rfl (p_move rfl) ?_
  refine l_p rfl rfl (p_gt rfl rfl) ?_
  refine l_p rfl rfl (p_move rfl) ?_
  refine l_split 8 rfl (fun h => ?_) (fun h => ?_)
  · obtain ⟨m, rfl⟩ : ∃ m, n = m + 1 := ⟨n - 1, by omega⟩
    refine l_p rfl rfl (p_move rfl) ?_
    refine l_p rfl rfl (p_move rfl) ?_
    refine l_p rfl rfl (p_sub rfl rfl (by omega)) ?_
    refine l_p rfl rfl (p_sixI (by exact rfl) (by exact rfl) (by omega)) ?_
    simp only [show ((m + 1 : Nat) : Int) - 1 = (m : Int) by omega, Int.toNat_natCast]
    refine l_callv rfl rfl rfl (tblank _ _) ?_
    refine l_p rfl rfl (p_pickt rfl rfl) ?_
    refine l_nil ?_
    rw [trimR_take s m (by omega)] at h2
    refine t_if rfl (fun hb => ?_) (fun hb => ?_)
    · refine t_skip ?_
      refine t_block ?_
      refine t_region ?_
      refine l_p rfl rfl (p_move rfl) ?_
      refine l_p rfl rfl (p_sub rfl rfl (by omega)) ?_
      refine l_p rfl rfl (p_assign rfl) ?_
      refine l_nil ?_
      refine t_blk ?_
      rw [hb] at h2
      exact t_round m ⟨rfl, gi rfl (by omega), trivial⟩ ⟨by omega, h2⟩ (Nat.lt_succ_self _) (fun w hI => hI)
    · rw [hb] at h2
      refine t_exit rfl ?_
      refine t_seq ?_
      refine t_region ?_
      refine l_p rfl rfl (p_move rfl) ?_
      refine l_p rfl rfl (p_move rfl) ?_
      refine l_p rfl rfl (p_sslh _ (by exact rfl) (by exact rfl) rfl (by omega)) ?_
      refine l_p rfl rfl (p_assign rfl) ?_
      refine l_nil ?_
      simp only [Bool.false_eq_true, if_false] at h2
      exact t_ret1 rfl rfl fun w hI => ⟨by rw [h2], hI⟩
  · have hn : n = 0 := by omega
    subst hn
    refine l_skip rfl rfl ?_
    refine l_skip rfl rfl ?_
    refine l_skip rfl rfl ?_
    refine l_skip rfl rfl ?_
    refine l_skip rfl rfl ?_
    refine l_p rfl rfl (p_pickf rfl rfl) ?_
    refine l_nil ?_
    refine t_iff rfl ?_
    refine t_exit rfl ?_
    refine t_seq ?_
    refine t_region ?_
    refine l_p rfl rfl (p_move rfl) ?_
    refine l_p rfl rfl (p_move rfl) ?_
    refine l_p rfl rfl (p_sslh _ (by exact rfl) (by exact rfl) rfl (by omega)) ?_
    refine l_p rfl rfl (p_assign rfl) ?_
    refine l_nil ?_
    exact t_ret1 rfl rfl fun w hI => ⟨by rw [← h2]; rfl, hI⟩
theorem ttrim (σ : Stb) (s : List UInt8) (hs : s.length ≤ 9223372036854775807) : SpV Tryz.prog 26 [st s] σ (st (trim s)) := by
  refine spv Tryz.func26 rfl (by kernel_rfl) rfl fun F => ?_
  have hr : (trimR s).length ≤ s.length := trimR_len s
  refine t_seq ?_
  refine t_region ?_
  refine l_p rfl rfl (p_assign rfl) ?_
  refine l_nil ?_
  refine t_seq ?_
  refine t_region ?_
  refine l_p rfl rfl (p_move rfl) ?_
  refine l_callv rfl rfl rfl (tright σ s hs) ?_
  refine l_p rfl rfl (p_assign rfl) ?_
  refine l_nil ?_
  refine t_seq ?_
  refine t_region ?_
  refine l_p rfl rfl (p_assign rfl) ?_
  refine l_nil ?_
  refine t_seq ?_
  refine t_block ?_
  generalize hq : trimR s = q at hr
  refine t_loop (ι := Nat) { E := fun n => [(0, st q), (3, i64 n)], S := fun _ => σ, M := fun _ => F, Φ := fun n => n ≤ q.length ∧ trimL (q.drop n) = trim s } (fun n => q.length - n) 0
    (by exact ⟨rfl, rfl, trivial⟩) ⟨Nat.zero_le _, by simp [trim, hq]⟩ (fun w hI => hI) ?_
  rintro n ⟨h1, h2⟩
  dsimp only
  refine t_seq ?_
  refine t_seq ?_
  refine t_region ?_
  refine l_p rfl rfl (p_move rfl) ?_
  refine l_p rfl rfl (p_move rfl) ?_
  refine l_p rfl rfl (p_lens (by exact rfl)) ?_
  refine l_p rfl rfl (p_lt rfl rfl) ?_
  refine l_p rfl rfl (p_move rfl) ?_
  refine l_split 10 rfl (fun h => ?_) (fun h => ?_)
  · have hn : n < q.length := by omega
    refine l_p rfl rfl (p_move rfl) ?_
    refine l_p rfl rfl (p_move rfl) ?_
    refine l_p rfl rfl (p_six _ (by exact rfl) (by exact rfl) rfl (by omega)) ?_
    refine l_callv rfl rfl rfl (tblank _ _) ?_
    refine l_p rfl rfl (p_pickt rfl rfl) ?_
    refine l_nil ?_
    rw [drop_cons q n hn, trimL, List.dropWhile_cons] at h2
    refine t_if rfl (fun hb => ?_) (fun hb => ?_)
    · refine t_skip ?_
      refine t_block ?_
      refine t_region ?_
      refine l_p rfl rfl (p_move rfl) ?_
      refine l_p rfl rfl (p_add rfl rfl (by omega)) ?_
      refine l_p rfl rfl (p_assign rfl) ?_
      refine l_nil ?_
      refine t_blk ?_
      rw [hb] at h2
      exact t_round (n + 1) ⟨rfl, gi rfl (by omega), trivial⟩ ⟨by omega, by simpa [trimL] using h2⟩ (by show q.length - (n + 1) < q.length - n; omega) (fun w hI => hI)
    · rw [hb] at h2
      refine t_exit rfl ?_
      refine t_seq ?_
      refine t_region ?_
      refine l_p rfl rfl (p_move rfl) ?_
      refine l_p rfl rfl (p_move rfl) ?_
      refine l_p rfl rfl (p_ssll _ (by exact rfl) (by exact rfl) rfl (by omega)) ?_
      refine l_p rfl rfl (p_assign rfl) ?_
      refine l_nil ?_
      simp only [Bool.false_eq_true, if_false] at h2
      exact t_ret1 rfl rfl fun w hI => ⟨by rw [← h2, ← drop_cons q n hn], hI⟩
  · have hn : n = q.length := by omega
    subst hn
    refine l_skip rfl rfl ?_
    refine l_skip rfl rfl ?_
    refine l_skip rfl rfl ?_
    refine l_skip rfl rfl ?_
    refine l_p rfl rfl (p_pickf rfl rfl) ?_
    refine l_nil ?_
    refine t_iff rfl ?_
    refine t_exit rfl ?_
    refine t_seq ?_
    refine t_region ?_
    refine l_p rfl rfl (p_move rfl) ?_
    refine l_p rfl rfl (p_move rfl) ?_
    refine l_p rfl rfl (p_ssll _ (by exact rfl) (by exact rfl) rfl (by omega)) ?_
    refine l_p rfl rfl (p_assign rfl) ?_
    refine l_nil ?_
    exact t_ret1 rfl rfl fun w hI => ⟨by rw [← h2]; simp [trimL], hI⟩
theorem tindex (σ : Stb) (s : List UInt8) (b : UInt8) : SpV Tryz.prog 68 [st s, u8 b] σ (i64 (firstIdx ⟨s.toArray⟩ b)) := by
  refine spv Tryz.func68 rfl (by kernel_rfl) rfl fun F => ?_
  refine t_seq ?_
  refine t_region ?_
  refine l_p rfl rfl (p_assign rfl) ?_
  refine l_nil ?_
  refine t_seq ?_
  refine t_region ?_
  refine l_p rfl rfl (p_move rfl) ?_
  refine l_p rfl rfl (p_move rfl) ?_
  refine l_callv rfl rfl rfl (v := i64 (firstIdx ⟨s.toArray⟩ b)) ?_ ?_
  · refine spv Tryz.func86 rfl (by kernel_rfl) rfl fun F => ?_
    refine t_seq ?_
    refine t_region ?_
    refine l_p rfl rfl (p_assign rfl) ?_
    refine l_nil ?_
    refine t_seq ?_
    refine t_region ?_
    refine l_p rfl rfl (p_move rfl) ?_
    refine l_p rfl rfl (p_move rfl) ?_
    refine l_p rfl rfl (p_extern rfl Tryz.func95 (by kernel_rfl) rfl (by kernel_rfl) (e := Extern.BytealgIndexByte.indexByte) (by kernel_rfl) (fun w hI => run_indexByte_string _ _ w)) ?_
    refine l_p rfl rfl (p_assign rfl) ?_
    refine l_nil ?_
    exact t_ret1 rfl rfl fun w hI => ⟨by simp, hI⟩
  · refine l_p rfl rfl (p_assign rfl) ?_
    refine l_nil ?_
    exact t_ret1 rfl rfl fun w hI => ⟨rfl, hI⟩
abbrev vcut (x : List UInt8 × List UInt8 × Bool) : Value := .tuple #[st x.1, st x.2.1, .bool x.2.2]
theorem tcut (σ : Stb) (s : List UInt8) (b : UInt8) (hs : s.length ≤ 9223372036854775806) : SpV Tryz.prog 50 [st s, u8 b] σ (vcut (cut s b)) := by
  refine spv Tryz.func50 rfl (by kernel_rfl) rfl fun F => ?_
  refine t_seq ?_
  refine t_region ?_
  refine l_p rfl rfl (p_assign rfl) ?_
  refine l_p rfl rfl (p_assign rfl) ?_
  refine l_p rfl rfl (p_assign rfl) ?_
  refine l_nil ?_
  refine t_seq ?_
  refine t_region ?_
  refine l_p rfl rfl (p_move rfl) ?_
  refine l_p rfl rfl (p_move rfl) ?_
  refine l_callv rfl rfl rfl (tindex _ _ _) ?_
  refine l_p rfl rfl (p_assign rfl) ?_
  refine l_nil ?_
  refine t_seq ?_
  refine t_seq ?_
  refine t_region ?_
  refine l_p rfl rfl (p_move rfl) ?_
  refine l_p rfl rfl (p_lt rfl rfl) ?_
  refine l_nil ?_
  rcases idx_cut s b with ⟨h1, h2⟩ | ⟨i, h0, h1, h2⟩
  · rw [h1, h2]
    refine t_ift (by rfl) ?_
    refine t_seq ?_
    refine t_region ?_
    refine l_p rfl rfl (p_move rfl) ?_
    refine l_p rfl rfl (p_assign rfl) ?_
    refine l_p rfl rfl (p_assign rfl) ?_
    refine l_p rfl rfl (p_assign rfl) ?_
    refine l_nil ?_
    exact t_ret3 rfl rfl rfl rfl fun w hI => ⟨rfl, hI⟩
  · rw [h1, h2]
    refine t_ifd rfl (fun h => by omega) (fun h => ?_)
    refine t_skip ?_
    refine t_seq ?_
    refine t_draw (by kernel_rfl) ?_
    refine q_p rfl rfl (p_move rfl) ?_
    refine q_p rfl rfl (p_move rfl) ?_
    refine q_p rfl rfl (p_sslh _ (by exact rfl) (by exact rfl) rfl (by omega)) ?_
    refine q_p rfl rfl (p_move rfl) ?_
    refine q_p rfl rfl (p_move rfl) ?_
    refine q_p rfl rfl (p_add rfl rfl (by omega)) ?_
    refine q_p rfl rfl (p_ssllI (by exact rfl) (by exact rfl) (by omega)) ?_
    refine q_p rfl rfl (p_assign rfl) ?_
    refine q_p rfl rfl (p_assign rfl) ?_
    refine q_p rfl rfl (p_assign rfl) ?_
    refine q_nil ?_
    exact t_ret3 rfl rfl rfl rfl fun w hI => ⟨by simp [Int.toNat_natCast_add_one], hI⟩
theorem rcut (σ : Stb) (s : List UInt8) (b : UInt8) (hs : s.length ≤ 9223372036854775806) : SpV Tryz.prog 40 [st s, u8 b] σ (vcut (cut s b)) := by
  refine spv Tryz.func40 rfl (by kernel_rfl) rfl fun F => ?_
  refine t_seq ?_
  refine t_region ?_
  refine l_p rfl rfl (p_assign rfl) ?_
  refine l_p rfl rfl (p_assign rfl) ?_
  refine l_p rfl rfl (p_assign rfl) ?_
  refine l_nil ?_
  refine t_seq ?_
  refine t_seq ?_
  refine t_region ?_
  refine l_p rfl rfl (p_assign rfl) ?_
  refine l_nil ?_
  refine t_block ?_
  refine t_loop (ι := Nat) { E := fun n => [(0, st s), (1, u8 b), (7, i64 n)], S := fun _ => σ, M := fun _ => F, Φ := fun n => n ≤ s.length ∧ ∀ j, j < n → s[j]? ≠ some b } (fun n => s.length - n) 0
    (by exact ⟨rfl, rfl, rfl, trivial⟩) ⟨Nat.zero_le _, by simp⟩ (fun w hI => hI) ?_
  rintro n ⟨h1, h2⟩
  dsimp only
  refine t_seq ?_
  refine t_seq ?_
  refine t_region ?_
  refine l_p rfl rfl (p_move rfl) ?_
  refine l_p rfl rfl (p_move rfl) ?_
  refine l_p rfl rfl (p_lens (by exact rfl)) ?_
  refine l_p rfl rfl (p_lt rfl rfl) ?_
  refine l_nil ?_
  refine t_ifd rfl (fun h => ?_) (fun h => ?_)
  · have hn : n < s.length := by omega
    refine t_skip ?_
    refine t_seq ?_
    refine t_block ?_
    refine t_seq ?_
    refine t_region ?_
    refine l_p rfl rfl (p_move rfl) ?_
    refine l_p rfl rfl (p_move rfl) ?_
    refine l_p rfl rfl (p_six _ (by exact rfl) (by exact rfl) rfl (by omega)) ?_
    refine l_p rfl rfl (p_move rfl) ?_
    refine l_p rfl rfl (p_eq rfl rfl) ?_
    refine l_nil ?_
    refine t_ifd rfl (fun hb => ?_) (fun hb => ?_)
    · refine t_seq ?_
      refine t_draw (by kernel_rfl) ?_
      refine q_p rfl rfl (p_move rfl) ?_
      refine q_p rfl rfl (p_move rfl) ?_
      refine q_p rfl rfl (p_sslh _ (by exact rfl) (by exact rfl) rfl (by omega)) ?_
      refine q_p rfl rfl (p_move rfl) ?_
      refine q_p rfl rfl (p_move rfl) ?_
      refine q_p rfl rfl (p_add rfl rfl (by omega)) ?_
      refine q_p rfl rfl (p_ssllI (by exact rfl) (by exact rfl) (by omega)) ?_
      refine q_p rfl rfl (p_assign rfl) ?_
      refine q_p rfl rfl (p_assign rfl) ?_
      refine q_p rfl rfl (p_assign rfl) ?_
      refine q_nil ?_
      have hb' : s[n]? = some b := by rw [List.getElem?_eq_getElem hn]; congr 1; exact UInt8.toNat_inj.1 (by omega)
      have e : cut s b = (s.take n, s.drop (n + 1), true) := cut_first hb' h2
      exact t_ret3 rfl rfl rfl rfl fun w hI => ⟨by rw [e]; simp [Int.toNat_natCast_add_one], hI⟩
    · refine t_skip ?_
      refine t_blk ?_
      refine t_region ?_
      refine l_p rfl rfl (p_move rfl) ?_
      refine l_p rfl rfl (p_add rfl rfl (by omega)) ?_
      refine l_p rfl rfl (p_assign rfl) ?_
      refine l_nil ?_
      refine t_round (n + 1) ⟨rfl, rfl, gi rfl (by omega), trivial⟩ ⟨by omega, fun j hj => ?_⟩ (by show s.length - (n + 1) < s.length - n; omega) (fun w hI => hI)
      by_cases hjn : j = n
      · subst hjn
        rw [List.getElem?_eq_getElem hn]
        intro e
        exact hb (by rw [Option.some.inj e])
      · exact h2 j (by omega)
  · refine t_exit rfl ?_
    refine t_seq ?_
    refine t_region ?_
    refine l_p rfl rfl (p_move rfl) ?_
    refine l_p rfl rfl (p_assign rfl) ?_
    refine l_p rfl rfl (p_assign rfl) ?_
    refine l_p rfl rfl (p_assign rfl) ?_
    refine l_nil ?_
    have e : cut s b = (s, [], false) := cut_none fun j hj => h2 j (by omega)
    exact t_ret3 rfl rfl rfl rfl fun w hI => ⟨by rw [e], hI⟩
theorem rtrim (σ : Stb) (s : List UInt8) (hs : s.length ≤ 9223372036854775807) : SpV Tryz.prog 41 [st s, .bool false] σ (st (trim s)) := by
  refine spv Tryz.func41 rfl (by kernel_rfl) rfl fun F => ?_
  refine t_seq ?_
  refine t_region ?_
  refine l_p rfl rfl (p_assign rfl) ?_
  refine l_nil ?_
  refine t_seq ?_
  refine t_cut (ι := Unit) { E := fun _ => [(0, st (trimR s)), (1, .bool false)], S := fun _ => σ, M := fun _ => F, Φ := fun _ => True } ?_ ?_
  · refine t_block ?_
    refine t_loop (ι := List UInt8) { E := fun q => [(0, st q), (1, .bool false)], S := fun _ => σ, M := fun _ => F, Φ := fun q => q.length ≤ s.length ∧ trimR q = trimR s } (fun q => q.length) s
      (by exact ⟨rfl, rfl, trivial⟩) ⟨Nat.le_refl _, rfl⟩ (fun w hI => hI) ?_
    rintro q ⟨h1, h2⟩
    dsimp only at h1 h2 ⊢
    refine t_seq ?_
    refine t_seq ?_
    refine t_region ?_
    refine l_p rfl rfl (p_move rfl) ?_
    refine l_p rfl rfl (p_lens (by exact rfl)) ?_
    refine l_p rfl rfl (p_gt rfl rfl) ?_
    refine l_p rfl rfl (p_move rfl) ?_
    refine l_split 8 rfl (fun h => ?_) (fun h => ?_)
    · have hq : 0 < q.length := by omega
      refine l_p rfl rfl (p_move rfl) ?_
      refine l_p rfl rfl (p_move rfl) ?_
      refine l_p rfl rfl (p_lens (by exact rfl)) ?_
      refine l_p rfl rfl (p_sub rfl rfl (by omega)) ?_
      refine l_p rfl rfl (p_sixI (by exact rfl) (by exact rfl) (by omega)) ?_
      refine l_callv rfl rfl rfl (rblank _ _) ?_
      refine l_p rfl rfl (p_pickt rfl rfl) ?_
      refine l_nil ?_
      rw [trimR_last q hq] at h2
      have e : ((q.length : Int) - 1).toNat = q.length - 1 := by omega
      simp only [e]
      refine t_if rfl (fun hb => ?_) (fun hb => ?_)
      · refine t_skip ?_
        refine t_block ?_
        refine t_region ?_
        refine l_p rfl rfl (p_move rfl) ?_
        refine l_p rfl rfl (p_move rfl) ?_
        refine l_p rfl rfl (p_lens (by exact rfl)) ?_
        refine l_p rfl rfl (p_sub rfl rfl (by omega)) ?_
        refine l_p rfl rfl (p_sslhI (by exact rfl) (by exact rfl) (by omega)) ?_
        refine l_p rfl rfl (p_assign rfl) ?_
        refine l_nil ?_
        refine t_blk ?_
        rw [hb] at h2
        simp only [e]
        exact t_round (q.take (q.length - 1)) ⟨rfl, rfl, trivial⟩ ⟨by simp; omega, h2⟩ (by simp; omega) (fun w hI => hI)
      · rw [hb] at h2
        simp only [Bool.false_eq_true, if_false] at h2
        refine t_exit rfl ?_
        exact t_back () ⟨by rw [← h2]; rfl, rfl, trivial⟩ trivial (fun w hI => hI)
    · have hq : q = [] := List.length_eq_zero_iff.1 (by omega)
      subst hq
      refine l_skip rfl rfl ?_
      refine l_skip rfl rfl ?_
      refine l_skip rfl rfl ?_
      refine l_skip rfl rfl ?_
      refine l_skip rfl rfl ?_
      refine l_skip rfl rfl ?_
      refine l_p rfl rfl (p_pickf rfl rfl) ?_
      refine l_nil ?_
      refine t_iff rfl ?_
      refine t_exit rfl ?_
      exact t_back () ⟨by rw [← h2]; rfl, rfl, trivial⟩ trivial (fun w hI => hI)
  · rintro - -
    have hr := trimR_len s
    refine t_seq ?_
    refine t_block ?_
    refine t_loop (ι := List UInt8) { E := fun q => [(0, st q), (1, .bool false)], S := fun _ => σ, M := fun _ => F, Φ := fun q => q.length ≤ s.length ∧ trimL q = trim s } (fun q => q.length) (trimR s)
      (by exact ⟨rfl, rfl, trivial⟩) ⟨hr, rfl⟩ (fun w hI => hI) ?_
    rintro q ⟨h1, h2⟩
    dsimp only at h1 h2 ⊢
    refine t_seq ?_
    refine t_seq ?_
    refine t_region ?_
    refine l_p rfl rfl (p_move rfl) ?_
    refine l_p rfl rfl (p_notf rfl) ?_
    refine l_p rfl rfl (p_move rfl) ?_
    refine l_p rfl rfl (p_move rfl) ?_
    refine l_p rfl rfl (p_lens (by exact rfl)) ?_
    refine l_p rfl rfl (p_gt rfl rfl) ?_
    refine l_p rfl rfl (p_pickt rfl rfl) ?_
    refine l_p rfl rfl (p_move rfl) ?_
    refine l_split 28 rfl (fun h => ?_) (fun h => ?_)
    · obtain ⟨x, r, rfl⟩ : ∃ x r, q = x :: r := by
        cases q with
        | nil => simp at h
        | cons x r => exact ⟨x, r, rfl⟩
      rw [trimL, List.dropWhile_cons] at h2
      simp only [List.length_cons] at h1
      refine l_p rfl rfl (p_move rfl) ?_
      refine l_p rfl rfl (p_six 0 (by exact rfl) (by exact rfl) rfl (by omega)) ?_
      refine l_callv rfl rfl rfl (rblank _ _) ?_
      refine l_p rfl rfl (p_pickt rfl rfl) ?_
      refine l_nil ?_
      refine t_if rfl (fun hb => ?_) (fun hb => ?_)
      · refine t_skip ?_
        refine t_block ?_
        refine t_region ?_
        refine l_p rfl rfl (p_move rfl) ?_
        refine l_p rfl rfl (p_ssllI (by exact rfl) (by exact rfl) (by omega)) ?_
        refine l_p rfl rfl (p_assign rfl) ?_
        refine l_nil ?_
        refine t_blk ?_
        rw [show isBl x = true from hb] at h2
        exact t_round r ⟨rfl, rfl, trivial⟩ ⟨by omega, h2⟩ (by simp) (fun w hI => hI)
      · rw [show isBl x = false from hb] at h2
        simp only [Bool.false_eq_true, if_false] at h2
        refine t_exit rfl ?_
        refine t_seq ?_
        refine t_region ?_
        refine l_p rfl rfl (p_move rfl) ?_
        refine l_p rfl rfl (p_assign rfl) ?_
        refine l_nil ?_
        exact t_ret1 rfl rfl fun w hI => ⟨by rw [← h2], hI⟩
    · have hq : q = [] := List.length_eq_zero_iff.1 (by omega)
      subst hq
      refine l_skip rfl rfl ?_
      refine l_skip rfl rfl ?_
      refine l_skip rfl rfl ?_
      refine l_p rfl rfl (p_pickf rfl rfl) ?_
      refine l_nil ?_
      refine t_iff rfl ?_
      refine t_exit rfl ?_
      refine t_seq ?_
      refine t_region ?_
      refine l_p rfl rfl (p_move rfl) ?_
      refine l_p rfl rfl (p_assign rfl) ?_
      refine l_nil ?_
      exact t_ret1 rfl rfl fun w hI => ⟨by rw [← h2]; rfl, hI⟩
theorem tlower (σ : Stb) (s : List UInt8) (hs : s.length ≤ 9223372036854775806) : SpV Tryz.prog 69 [st s] σ (st (lower s)) := by
  refine spv Tryz.func69 rfl (by kernel_rfl) rfl fun F => ?_
  refine t_seq ?_
  refine t_region ?_
  refine l_p rfl rfl (p_assign rfl) ?_
  refine l_nil ?_
  refine t_seq ?_
  refine t_region ?_
  refine l_p rfl rfl (p_move rfl) ?_
  refine l_s2b rfl rfl rfl (by omega) fun A cc => ?_
  refine l_p rfl rfl (p_assign rfl) ?_
  refine l_nil ?_
  refine t_seq ?_
  refine t_seq ?_
  refine t_region ?_
  refine l_p rfl rfl (p_move rfl) ?_
  refine l_p rfl rfl (p_lensl (by exact rfl)) ?_
  refine l_p rfl rfl (p_move rfl) ?_
  refine l_nil ?_
  refine t_block ?_
  refine t_loop (ι := Nat × List UInt8) { E := fun i => [(3, .slice A s.length cc), (8, .slice A s.length cc), (9, i64 s.length), (10, i64 i.1)], S := fun _ => σ, M := fun i => own 1 eu8 5 (.slice A s.length cc) i.2 :: F, Φ := fun i => i.1 ≤ s.length ∧ i.2 = (s.take i.1).map lowb ++ s.drop i.1 } (fun i => s.length - i.1) (0, s)
    (by exact ⟨rfl, rfl, rfl, rfl, trivial⟩) ⟨Nat.zero_le _, by simp⟩ (fun w hI => hI) ?_
  rintro ⟨n, r⟩ ⟨h1, h2⟩
  dsimp only at h1 h2 ⊢
  have hr : r.length = s.length := by rw [h2]; simp; omega
  refine t_seq ?_
  refine t_region ?_
  refine l_p rfl rfl (p_lt rfl rfl) ?_
  refine l_nil ?_
  refine t_seq ?_
  refine t_ifd rfl (fun h => ?_) (fun h => ?_)
  · have hn : n < s.length := by omega
    have hx : r[n]'(by omega) = s[n] := by subst h2; rw [List.getElem_append_right (by simp; omega)]; simp [Nat.min_eq_left h1]
    refine t_skip ?_
    refine t_seq ?_
    refine t_block ?_
    refine t_seq ?_
    refine t_region ?_
    refine l_p rfl rfl (p_move rfl) ?_
    refine l_p rfl rfl (p_ix _ (by exact rfl) (by exact rfl) (by exact rfl) (by omega) (Rds.ixo .z (by omega))) ?_
    refine l_p rfl rfl (p_ld1 (by exact rfl) (Rds.ixo .z (by omega))) ?_
    refine l_p rfl rfl (p_assign rfl) ?_
    refine l_p rfl rfl (p_assign rfl) ?_
    refine l_nil ?_
    refine t_seq ?_
    refine t_region ?_
    refine l_p rfl rfl (p_move rfl) ?_
    refine l_p rfl rfl (p_ge rfl rfl) ?_
    refine l_p rfl rfl (p_move rfl) ?_
    have hset := lower_step h2 hn
    refine l_split 17 rfl (fun h3 => ?_) (fun h3 => ?_)
    · refine l_p rfl rfl (p_move rfl) ?_
      refine l_p rfl rfl (p_le rfl rfl) ?_
      refine l_p rfl rfl (p_pickt rfl rfl) ?_
      refine l_nil ?_
      refine t_ifd rfl (fun h4 => ?_) (fun h4 => ?_)
      · refine t_region ?_
        refine l_p rfl rfl (p_move rfl) ?_
        refine l_p rfl rfl (p_move rfl) ?_
        refine l_p rfl rfl (p_move rfl) ?_
        refine l_p rfl rfl (p_subb rfl rfl (by omega)) ?_
        refine l_p rfl rfl (p_addb rfl rfl (by omega)) ?_
        refine l_p rfl rfl (p_ix _ (by exact rfl) (by exact rfl) (by exact rfl) (by omega) (Rds.ixo .z (by omega))) ?_
        refine l_sto (enc := eu8) n 0 (lowb s[n]) rfl rfl (padd0 _) rfl rfl rfl (by exact rfl) (by omega) ?_ .z ?_
        · rw [hx] at h3 h4
          have e : eu8 (lowb s[n]) = [.int .u8 ((s[n].toNat : Int) - 65 + 97)] := by
            show [u8 (lowb s[n])] = _
            rw [u8, lowb_do h3 h4]; congr 2; omega
          rw [e, hx]; rfl
        · refine l_nil ?_
          refine t_blk ?_
          refine t_region ?_
          refine l_p rfl rfl (p_add rfl rfl (by omega)) ?_
          refine l_p rfl rfl (p_move rfl) ?_
          refine l_nil ?_
          exact t_round (n + 1, r.set n (lowb s[n])) ⟨rfl, rfl, rfl, gi rfl (by omega), trivial⟩ ⟨by omega, hset⟩ (by show s.length - (n + 1) < s.length - n; omega) (fun w hI => hI)
      · refine t_skip ?_
        refine t_blk ?_
        refine t_region ?_
        refine l_p rfl rfl (p_add rfl rfl (by omega)) ?_
        refine l_p rfl rfl (p_move rfl) ?_
        refine l_nil ?_
        have e : r.set n (lowb s[n]) = r := by rw [lowb_not (by rw [hx] at h3 h4; omega), ← hx]; simp
        rw [e] at hset
        exact t_round (n + 1, r) ⟨rfl, rfl, rfl, gi rfl (by omega), trivial⟩ ⟨by omega, hset⟩ (by show s.length - (n + 1) < s.length - n; omega) (fun w hI => hI)
    · refine l_skip rfl rfl ?_
      refine l_skip rfl rfl ?_
      refine l_p rfl rfl (p_pickf rfl rfl) ?_
      refine l_nil ?_
      refine t_iff rfl ?_
      refine t_skip ?_
      refine t_blk ?_
      refine t_region ?_
      refine l_p rfl rfl (p_add rfl rfl (by omega)) ?_
      refine l_p rfl rfl (p_move rfl) ?_
      refine l_nil ?_
      have e : r.set n (lowb s[n]) = r := by rw [lowb_not (by rw [hx] at h3; omega), ← hx]; simp
      rw [e] at hset
      exact t_round (n + 1, r) ⟨rfl, rfl, rfl, gi rfl (by omega), trivial⟩ ⟨by omega, hset⟩ (by show s.length - (n + 1) < s.length - n; omega) (fun w hI => hI)
  · refine t_exit rfl ?_
    refine t_seq ?_
    refine t_region ?_
    refine l_p rfl rfl (p_move rfl) ?_
    refine l_p rfl rfl (p_b2s (by exact rfl) (Src.ownu .z)) ?_
    refine l_p rfl rfl (p_assign rfl) ?_
    refine l_nil ?_
    have : n = s.length := by omega
    subst this
    simp at h2
    subst h2
    exact t_ret1 rfl rfl fun w hI => ⟨by simp [lower], hI.tail⟩
end Go.Proofs.YtfglenbfbcckjaaGreatDoor
