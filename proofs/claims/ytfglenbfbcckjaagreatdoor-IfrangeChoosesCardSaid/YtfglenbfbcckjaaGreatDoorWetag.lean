/- Layer 4 (etag): walks. -/
import Derived.Test.YtfglenbfbcckjaaGreatDoorWtext
import Derived.Test.YtfglenbfbcckjaaGreatDoorX4
set_option linter.unusedSimpArgs false
set_option linter.unusedVariables false
set_option maxRecDepth 20000
namespace Go.Proofs.YtfglenbfbcckjaaGreatDoor
open Go.Sp
attribute [local irreducible] Go.Sp.Pr Go.Sp.Ws Go.Sp.Wl Go.Sp.Wq Go.Sp.Rds Go.Sp.Src
theorem tmay (σ : Stb) (b : UInt8) : SpV Tryz.prog 73 [u8 b] σ (.bool (mayT b)) := by
  refine spv Tryz.func73 rfl (by kernel_rfl) rfl fun F => ?_
  refine t_seq ?_
  refine t_region ?_
  refine l_p rfl rfl (p_assign rfl) ?_
  refine l_nil ?_
  refine t_seq ?_
  refine t_block ?_
  refine t_seq ?_
  refine t_block ?_
  refine t_seq ?_
  refine t_block ?_
  refine t_block ?_
  refine t_seq ?_
  refine t_seq ?_
  refine t_seq ?_
  refine t_region ?_
  refine l_p rfl rfl (p_move rfl) ?_
  refine l_p rfl rfl (p_ge rfl rfl) ?_
  refine l_p rfl rfl (p_assign rfl) ?_
  refine l_nil ?_
  refine t_ifd rfl (fun h => ?_) (fun h => ?_)
  · refine t_exit rfl ?_
    refine t_blk ?_
    refine t_seq ?_
    refine t_seq ?_
    refine t_region ?_
    refine l_p rfl rfl (p_assign rfl) ?_
    refine l_nil ?_
    exact t_ret1 rfl rfl fun w hI => ⟨by simp [mayT, show 128 ≤ b.toNat by omega], hI⟩
  refine t_skip ?_
  refine t_seq ?_
  refine t_seq ?_
  refine t_region ?_
  refine l_p rfl rfl (p_move rfl) ?_
  refine l_p rfl rfl (p_eq rfl rfl) ?_
  refine l_p rfl rfl (p_assign rfl) ?_
  refine l_nil ?_
  refine t_ifd rfl (fun h2 => ?_) (fun h2 => ?_)
  · refine t_exit rfl ?_
    refine t_seq ?_
    refine t_seq ?_
    refine t_region ?_
    refine l_p rfl rfl (p_assign rfl) ?_
    refine l_nil ?_
    exact t_ret1 rfl rfl fun w hI => ⟨by simp [mayT, show b.toNat = 33 by omega], hI⟩
  refine t_skip ?_
  refine t_seq ?_
  refine t_region ?_
  refine l_p rfl rfl (p_move rfl) ?_
  refine l_p rfl rfl (p_eq rfl rfl) ?_
  refine l_p rfl rfl (p_assign rfl) ?_
  refine l_nil ?_
  refine t_ifd rfl (fun h3 => ?_) (fun h3 => ?_)
  · refine t_exit rfl ?_
    refine t_seq ?_
    refine t_seq ?_
    refine t_region ?_
    refine l_p rfl rfl (p_assign rfl) ?_
    refine l_nil ?_
    exact t_ret1 rfl rfl fun w hI => ⟨by simp [mayT, show b.toNat = 127 by omega], hI⟩
  refine t_skip ?_
  refine t_exit rfl ?_
  refine t_seq ?_
  refine t_region ?_
  refine l_p rfl rfl (p_move rfl) ?_
  refine l_p rfl rfl (p_ge rfl rfl) ?_
  refine l_p rfl rfl (p_assign rfl) ?_
  refine l_nil ?_
  exact t_ret1 rfl rfl fun w hI => ⟨by
    have h1 : ¬ 128 ≤ b.toNat := by omega
    have h2' : ¬ b.toNat = 33 := by omega
    have h3' : ¬ b.toNat = 127 := by omega
    simp only [mayT, h1, h2', h3', decide_false, Bool.false_or, Bool.not_false, Bool.true_and]
    congr 1; rw [Bool.eq_iff_iff]; simp; omega, hI⟩
theorem tplain (σ : Stb) (s : List UInt8) (hs : s.length ≤ 9223372036854775806) : SpV Tryz.prog 58 [st s] σ (.bool (plainT s)) := by
  refine spv Tryz.func58 rfl (by kernel_rfl) rfl fun F => ?_
  refine t_seq ?_
  refine t_region ?_
  refine l_p rfl rfl (p_assign rfl) ?_
  refine l_nil ?_
  refine t_seq ?_
  refine t_seq ?_
  refine t_region ?_
  refine l_p rfl rfl (p_move rfl) ?_
  refine l_p rfl rfl (p_lens (by exact rfl)) ?_
  refine l_p rfl rfl (p_move rfl) ?_
  refine l_nil ?_
  refine t_block ?_
  refine t_loop (ι := Nat) { E := fun n => [(0, st s), (5, i64 s.length), (6, i64 n)], S := fun _ => σ, M := fun _ => F, Φ := fun n => n ≤ s.length ∧ (s.take n).all mayT = true } (fun n => s.length - n) 0
    (by exact ⟨rfl, rfl, rfl, trivial⟩) ⟨Nat.zero_le _, by simp⟩ (fun w hI => hI) ?_
  rintro i ⟨h1, h2⟩
  dsimp only at h1 h2 ⊢
  refine t_seq ?_
  refine t_region ?_
  refine l_p rfl rfl (p_lt rfl rfl) ?_
  refine l_nil ?_
  refine t_seq ?_
  refine t_ifd rfl (fun h => ?_) (fun h => ?_)
  · have hn : i < s.length := by omega
    have hall : (s.take (i + 1)).all mayT = (mayT s[i]) := by rw [take_succ s i hn, List.all_append, h2]; simp
    refine t_skip ?_
    refine t_seq ?_
    refine t_block ?_
    refine t_seq ?_
    refine t_region ?_
    refine l_p rfl rfl (p_move rfl) ?_
    refine l_p rfl rfl (p_assign rfl) ?_
    refine l_nil ?_
    refine t_seq ?_
    refine t_region ?_
    refine l_p rfl rfl (p_move rfl) ?_
    refine l_p rfl rfl (p_move rfl) ?_
    refine l_p rfl rfl (p_six _ (by exact rfl) (by exact rfl) rfl (by omega)) ?_
    refine l_callv rfl rfl rfl (tmay _ _) ?_
    refine l_p rfl rfl (p_not rfl) ?_
    refine l_nil ?_
    refine t_if rfl (fun hd => ?_) (fun hd => ?_)
    · have hd' : mayT s[i] = false := by simpa using hd
      have e : plainT s = false := by rw [plainT, List.all_eq_false]; exact ⟨_, List.getElem_mem hn, by simp [hd']⟩
      refine t_seq ?_
      refine t_region ?_
      refine l_p rfl rfl (p_assign rfl) ?_
      refine l_nil ?_
      exact t_ret1 rfl rfl fun w hI => ⟨by rw [e], hI⟩
    · have hd' : mayT s[i] = true := by simpa using hd
      refine t_skip ?_
      refine t_blk ?_
      refine t_region ?_
      refine l_p rfl rfl (p_add rfl rfl (by omega)) ?_
      refine l_p rfl rfl (p_move rfl) ?_
      refine l_nil ?_
      exact t_round (i + 1) ⟨rfl, rfl, gi rfl (by omega), trivial⟩ ⟨by omega, by rw [hall, hd']⟩ (by show s.length - (i + 1) < s.length - i; omega) (fun w hI => hI)
  · have hn : i = s.length := by omega
    subst hn
    rw [List.take_length] at h2
    refine t_exit rfl ?_
    refine t_seq ?_
    refine t_region ?_
    refine l_p rfl rfl (p_assign rfl) ?_
    refine l_nil ?_
    exact t_ret1 rfl rfl fun w hI => ⟨by rw [plainT, h2], hI⟩
abbrev vet (x : Bool × List UInt8) : Value := .agg #[.bool x.1, st x.2]
theorem tetright (σ : Stb) (x : Bool × List UInt8) (hs : x.2.length ≤ 9223372036854775806) : SpV Tryz.prog 59 [vet x] σ (.bool (plainT x.2 && decide (x.2.length ≤ 40))) := by
  refine spv Tryz.func59 rfl (by kernel_rfl) rfl fun F => ?_
  obtain ⟨x1, x2⟩ := x
  refine t_seq ?_
  refine t_region ?_
  refine l_box rfl rfl rfl rfl ?_; intro _
  refine l_p rfl rfl (p_assign rfl) ?_
  refine l_nil ?_
  refine t_seq ?_
  refine t_region ?_
  refine l_p rfl rfl (p_fa (by exact rfl) Rds.bxi) ?_
  refine l_p rfl rfl (p_ld1 (by exact rfl) (Rds.fld Rds.bxi (by exact rfl))) ?_
  refine l_callv rfl rfl rfl (tplain σ x2 hs) ?_
  refine l_p rfl rfl (p_move rfl) ?_
  refine l_splitb 6 rfl (fun h => ?_) (fun h => ?_)
  · refine l_p rfl rfl (p_fa (by exact rfl) Rds.bxi) ?_
    refine l_p rfl rfl (p_ld1 (by exact rfl) (Rds.fld Rds.bxi (by exact rfl))) ?_
    refine l_p rfl rfl (p_lens (by exact rfl)) ?_
    refine l_p rfl rfl (p_le rfl rfl) ?_
    refine l_p rfl rfl (p_pickt rfl rfl) ?_
    refine l_p rfl rfl (p_assign rfl) ?_
    refine l_nil ?_
    exact t_ret1 rfl rfl fun w hI => ⟨by rw [h, Bool.true_and]; congr 1; rw [Bool.eq_iff_iff]; simp; omega, hI.tail⟩
  · refine l_skip rfl rfl ?_
    refine l_skip rfl rfl ?_
    refine l_skip rfl rfl ?_
    refine l_skip rfl rfl ?_
    refine l_p rfl rfl (p_pickf rfl rfl) ?_
    refine l_p rfl rfl (p_assign rfl) ?_
    refine l_nil ?_
    exact t_ret1 rfl rfl fun w hI => ⟨by rw [h, Bool.false_and], hI.tail⟩
theorem tetweak (σ : Stb) (x y : Bool × List UInt8) : SpV Tryz.prog 60 [vet x, vet y] σ (.bool (decide (x.2 = y.2))) := by
  refine spv Tryz.func60 rfl (by kernel_rfl) rfl fun F => ?_
  obtain ⟨x1, x2⟩ := x
  obtain ⟨y1, y2⟩ := y
  refine t_seq ?_
  refine t_region ?_
  refine l_box rfl rfl rfl rfl ?_; intro _
  refine l_box rfl rfl rfl rfl ?_; intro _
  refine l_p rfl rfl (p_assign rfl) ?_
  refine l_nil ?_
  refine t_seq ?_
  refine t_region ?_
  refine l_p rfl rfl (p_fa (by exact rfl) Rds.bxi) ?_
  refine l_p rfl rfl (p_ld1 (by exact rfl) (Rds.fld Rds.bxi (by exact rfl))) ?_
  refine l_p rfl rfl (p_fa (by exact rfl) Rds.bxi) ?_
  refine l_p rfl rfl (p_ld1 (by exact rfl) (Rds.fld Rds.bxi (by exact rfl))) ?_
  refine l_p rfl rfl (p_seq rfl rfl) ?_
  refine l_p rfl rfl (p_assign rfl) ?_
  refine l_nil ?_
  exact t_ret1 rfl rfl fun w hI => ⟨rfl, hI.tail.tail⟩
theorem tstrong (σ : Stb) (x y : Bool × List UInt8) : SpV Tryz.prog 28 [vet x, vet y] σ (.bool (!x.1 && !y.1 && decide (x.2 = y.2))) := by
  refine spv Tryz.func28 rfl (by kernel_rfl) rfl fun F => ?_
  obtain ⟨x1, x2⟩ := x
  obtain ⟨y1, y2⟩ := y
  cases x1 <;> cases y1 <;> (first | (refine t_seq ?_; refine t_region ?_; refine l_box rfl rfl rfl rfl ?_; intro _; refine l_box rfl rfl rfl rfl ?_; intro _; refine l_p rfl rfl (p_assign rfl) ?_; refine l_nil ?_; refine t_seq ?_; refine t_region ?_; refine l_p rfl rfl (p_fa (by exact rfl) Rds.bxi) ?_; refine l_p rfl rfl (p_ld1 (by exact rfl) Rds.bxi) ?_; refine l_p rfl rfl (p_notf rfl) ?_; refine l_p rfl rfl (p_move rfl) ?_; refine l_p rfl rfl (p_fa (by exact rfl) Rds.bxi) ?_; refine l_p rfl rfl (p_ld1 (by exact rfl) Rds.bxi) ?_; refine l_p rfl rfl (p_nott rfl) ?_; refine l_p rfl rfl (p_pickt rfl rfl) ?_; refine l_p rfl rfl (p_move rfl) ?_; refine l_skip rfl rfl ?_; refine l_skip rfl rfl ?_; refine l_skip rfl rfl ?_; refine l_p rfl rfl (p_pickf rfl rfl) ?_; refine l_p rfl rfl (p_assign rfl) ?_; refine l_nil ?_) | (refine t_seq ?_; refine t_region ?_; refine l_box rfl rfl rfl rfl ?_; intro _; refine l_box rfl rfl rfl rfl ?_; intro _; refine l_p rfl rfl (p_assign rfl) ?_; refine l_nil ?_; refine t_seq ?_; refine t_region ?_; refine l_p rfl rfl (p_fa (by exact rfl) Rds.bxi) ?_; refine l_p rfl rfl (p_ld1 (by exact rfl) Rds.bxi) ?_; refine l_p rfl rfl (p_nott rfl) ?_; refine l_p rfl rfl (p_move rfl) ?_; refine l_skip rfl rfl ?_; refine l_skip rfl rfl ?_; refine l_skip rfl rfl ?_; refine l_p rfl rfl (p_pickf rfl rfl) ?_; refine l_p rfl rfl (p_move rfl) ?_; refine l_skip rfl rfl ?_; refine l_skip rfl rfl ?_; refine l_skip rfl rfl ?_; refine l_p rfl rfl (p_pickf rfl rfl) ?_; refine l_p rfl rfl (p_assign rfl) ?_; refine l_nil ?_) | (refine t_seq ?_; refine t_region ?_; refine l_box rfl rfl rfl rfl ?_; intro _; refine l_box rfl rfl rfl rfl ?_; intro _; refine l_p rfl rfl (p_assign rfl) ?_; refine l_nil ?_; refine t_seq ?_; refine t_region ?_; refine l_p rfl rfl (p_fa (by exact rfl) Rds.bxi) ?_; refine l_p rfl rfl (p_ld1 (by exact rfl) Rds.bxi) ?_; refine l_p rfl rfl (p_notf rfl) ?_; refine l_p rfl rfl (p_move rfl) ?_; refine l_p rfl rfl (p_fa (by exact rfl) Rds.bxi) ?_; refine l_p rfl rfl (p_ld1 (by exact rfl) Rds.bxi) ?_; refine l_p rfl rfl (p_notf rfl) ?_; refine l_p rfl rfl (p_pickt rfl rfl) ?_; refine l_p rfl rfl (p_move rfl) ?_; refine l_p rfl rfl (p_ldn (by exact rfl) Rds.bxi (by exact rfl) (by exact rfl)) ?_; refine l_p rfl rfl (p_ldn (by exact rfl) Rds.bxi (by exact rfl) (by exact rfl)) ?_))
  · refine l_callv rfl rfl rfl (tetweak σ (false, x2) (false, y2)) ?_
    refine l_p rfl rfl (p_pickt rfl rfl) ?_
    refine l_p rfl rfl (p_assign rfl) ?_
    refine l_nil ?_
    exact t_ret1 rfl rfl fun w hI => ⟨rfl, hI.tail.tail⟩
  all_goals exact t_ret1 rfl rfl fun w hI => ⟨rfl, hI.tail.tail⟩
theorem thaspre (σ : Stb) (s : List UInt8) : SpV Tryz.prog 89 [st s, st wkS] σ (.bool (isWk s)) := by
  refine spv Tryz.func89 rfl (by kernel_rfl) rfl fun F => ?_
  refine t_seq ?_
  refine t_region ?_
  refine l_p rfl rfl (p_assign rfl) ?_
  refine l_nil ?_
  refine t_seq ?_
  refine t_region ?_
  refine l_p rfl rfl (p_move rfl) ?_
  refine l_p rfl rfl (p_lens (by exact rfl)) ?_
  refine l_p rfl rfl (p_move rfl) ?_
  refine l_p rfl rfl (p_lens (by exact rfl)) ?_
  refine l_p rfl rfl (p_ge rfl rfl) ?_
  refine l_p rfl rfl (p_move rfl) ?_
  refine l_split 10 rfl (fun h => ?_) (fun h => ?_)
  · have h' : 2 ≤ s.length := by simp [wkS] at h; omega
    refine l_p rfl rfl (p_move rfl) ?_
    refine l_p rfl rfl (p_move rfl) ?_
    refine l_p rfl rfl (p_lens (by exact rfl)) ?_
    refine l_p rfl rfl (p_sslh _ (by exact rfl) (by exact rfl) rfl (by omega)) ?_
    refine l_p rfl rfl (p_move rfl) ?_
    refine l_p rfl rfl (p_seq rfl rfl) ?_
    refine l_p rfl rfl (p_pickt rfl rfl) ?_
    refine l_p rfl rfl (p_assign rfl) ?_
    refine l_nil ?_
    exact t_ret1 rfl rfl fun w hI => ⟨by simp [isWk, h']; rfl, hI⟩
  · have h' : ¬ 2 ≤ s.length := by simp [wkS] at h; omega
    refine l_skip rfl rfl ?_
    refine l_skip rfl rfl ?_
    refine l_skip rfl rfl ?_
    refine l_skip rfl rfl ?_
    refine l_skip rfl rfl ?_
    refine l_skip rfl rfl ?_
    refine l_p rfl rfl (p_pickf rfl rfl) ?_
    refine l_p rfl rfl (p_assign rfl) ?_
    refine l_nil ?_
    exact t_ret1 rfl rfl fun w hI => ⟨by simp [isWk, h'], hI⟩
theorem tcutpre (σ : Stb) (s : List UInt8) : SpV Tryz.prog 57 [st s, st wkS] σ (.tuple #[st (sansWk s), .bool (isWk s)]) := by
  refine spv Tryz.func57 rfl (by kernel_rfl) rfl fun F => ?_
  refine t_seq ?_
  refine t_region ?_
  refine l_p rfl rfl (p_assign rfl) ?_
  refine l_p rfl rfl (p_assign rfl) ?_
  refine l_nil ?_
  refine t_seq ?_
  refine t_region ?_
  refine l_p rfl rfl (p_move rfl) ?_
  refine l_p rfl rfl (p_move rfl) ?_
  refine l_callv rfl rfl rfl (v := .tuple #[st (sansWk s), .bool (isWk s)]) ?_ ?_
  · refine spv Tryz.func72 rfl (by kernel_rfl) rfl fun F => ?_
    refine t_seq ?_
    refine t_region ?_
    refine l_p rfl rfl (p_assign rfl) ?_
    refine l_p rfl rfl (p_assign rfl) ?_
    refine l_nil ?_
    refine t_seq ?_
    refine t_seq ?_
    refine t_region ?_
    refine l_p rfl rfl (p_move rfl) ?_
    refine l_p rfl rfl (p_move rfl) ?_
    refine l_callv rfl rfl rfl (thaspre σ s) ?_
    refine l_p rfl rfl (p_not rfl) ?_
    refine l_nil ?_
    refine t_if rfl (fun h => ?_) (fun h => ?_)
    · have h' : isWk s = false := by simpa using h
      refine t_seq ?_
      refine t_region ?_
      refine l_p rfl rfl (p_move rfl) ?_
      refine l_p rfl rfl (p_assign rfl) ?_
      refine l_p rfl rfl (p_assign rfl) ?_
      refine l_nil ?_
      exact t_ret2 rfl rfl rfl fun w hI => ⟨by rw [sansWk, h']; rfl, hI⟩
    · have h' : isWk s = true := by simpa using h
      have hl : 2 ≤ s.length := by simp [isWk] at h'; omega
      have hw : wkS.length = 2 := rfl
      refine t_skip ?_
      refine t_seq ?_
      refine t_region ?_
      refine l_p rfl rfl (p_move rfl) ?_
      refine l_p rfl rfl (p_move rfl) ?_
      refine l_p rfl rfl (p_lens (by exact rfl)) ?_
      refine l_p rfl rfl (p_ssll _ (by exact rfl) (by exact rfl) rfl (by omega)) ?_
      refine l_p rfl rfl (p_assign rfl) ?_
      refine l_p rfl rfl (p_assign rfl) ?_
      refine l_nil ?_
      exact t_ret2 rfl rfl rfl fun w hI => ⟨by rw [sansWk, h']; rfl, hI⟩
  refine l_p rfl rfl (p_ext rfl rfl) ?_
  refine l_p rfl rfl (p_ext rfl rfl) ?_
  refine l_p rfl rfl (p_assign rfl) ?_
  refine l_p rfl rfl (p_assign rfl) ?_
  refine l_nil ?_
  exact t_ret2 rfl rfl rfl fun w hI => ⟨rfl, hI⟩
abbrev vet2 (x : (Bool × List UInt8) × Nat) : Value := .tuple #[vet x.1, i64 x.2]
theorem tetparse (σ : Stb) (s : List UInt8) (hs : s.length ≤ 4000000000) : SpV Tryz.prog 27 [st s] σ (vet2 (etagP s)) := by
  refine spv Tryz.func27 rfl (by kernel_rfl) rfl fun F => ?_
  have hql := sansWk_len s
  refine t_seq ?_
  refine t_region ?_
  refine l_alloc (by exact rfl) (by exact rfl) (by exact rfl) ?_; intro _
  refine l_p rfl rfl (p_assign rfl) ?_
  refine l_nil ?_
  refine t_seq ?_
  refine t_region ?_
  refine l_p rfl rfl (p_move rfl) ?_
  refine l_callv rfl rfl rfl (tcutpre σ s) ?_
  have hE : etagP s = if quotedT (sansWk s) = false then ((false, []), 3) else if plainT (inner (sansWk s)) = false then ((false, []), 3) else if 40 < (inner (sansWk s)).length then ((false, []), 10) else ((isWk s, inner (sansWk s)), 0) := rfl
  generalize etagP s = tot at *
  generalize sansWk s = q at *
  generalize isWk s = wk at *
  have hbad : quotedT q = false → tot = ((false, []), 3) := fun h => by rw [hE, if_pos h]
  refine l_p rfl rfl (p_move rfl) ?_
  refine l_p rfl rfl (p_ext rfl rfl) ?_
  refine l_p rfl rfl (p_ext rfl rfl) ?_
  refine l_p rfl rfl (p_assign rfl) ?_
  refine l_p rfl rfl (p_assign rfl) ?_
  refine l_nil ?_
  refine t_seq ?_
  refine t_seq ?_
  refine t_region ?_
  refine l_p rfl rfl (p_move rfl) ?_
  refine l_p rfl rfl (p_lens (by exact rfl)) ?_
  refine l_p rfl rfl (p_lt rfl rfl) ?_
  refine l_p rfl rfl (p_move rfl) ?_
  refine l_split 14 rfl (fun h => ?_) (fun h => ?_)
  · have e := hbad (quotedT_short (by omega))
    refine l_skip rfl rfl ?_
    refine l_skip rfl rfl ?_
    refine l_skip rfl rfl ?_
    refine l_p rfl rfl (p_pickt rfl rfl) ?_
    refine l_p rfl rfl (p_move rfl) ?_
    refine l_skip rfl rfl ?_
    refine l_skip rfl rfl ?_
    refine l_skip rfl rfl ?_
    refine l_skip rfl rfl ?_
    refine l_skip rfl rfl ?_
    refine l_skip rfl rfl ?_
    refine l_p rfl rfl (p_pickt rfl rfl) ?_
    refine l_nil ?_
    refine t_ift rfl ?_
    refine t_seq ?_
    refine t_region ?_
    refine l_p rfl rfl (p_build (by exact rfl) (by exact rfl) (by exact rfl) (by exact rfl)) ?_
    refine l_sti rfl rfl rfl rfl rfl (by exact rfl) (by exact rfl) (by exact rfl) (by exact ⟨rfl, rfl⟩) ?_
    refine l_p rfl rfl (p_assign rfl) ?_
    refine l_nil ?_
    exact t_ret rfl (.cn rfl Rds.bxi rfl rfl (.tmp rfl .nil)) fun w hI => ⟨by rw [e]; rfl, hI.tail⟩
  have h2 : 2 ≤ q.length := by omega
  have hqe := quotedT_eq h2
  have el : ((q.length : Int) - 1).toNat = q.length - 1 := by omega
  refine l_p rfl rfl (p_move rfl) ?_
  refine l_p rfl rfl (p_six 0 (by exact rfl) (by exact rfl) rfl (by omega)) ?_
  refine l_p rfl rfl (p_ne rfl rfl) ?_
  refine l_p rfl rfl (p_pickf rfl rfl) ?_
  refine l_p rfl rfl (p_move rfl) ?_
  refine l_split 19 rfl (fun h3 => ?_) (fun h3 => ?_)
  · have e := hbad (by rw [hqe]; have : ¬ q[0] = 34 := fun e => h3 (by show ((q[0].toNat : Nat) : Int) = 34; rw [e]; rfl); simp [this])
    refine l_skip rfl rfl ?_
    refine l_skip rfl rfl ?_
    refine l_skip rfl rfl ?_
    refine l_skip rfl rfl ?_
    refine l_skip rfl rfl ?_
    refine l_skip rfl rfl ?_
    refine l_p rfl rfl (p_pickt rfl rfl) ?_
    refine l_nil ?_
    refine t_ift rfl ?_
    refine t_seq ?_
    refine t_region ?_
    refine l_p rfl rfl (p_build (by exact rfl) (by exact rfl) (by exact rfl) (by exact rfl)) ?_
    refine l_sti rfl rfl rfl rfl rfl (by exact rfl) (by exact rfl) (by exact rfl) (by exact ⟨rfl, rfl⟩) ?_
    refine l_p rfl rfl (p_assign rfl) ?_
    refine l_nil ?_
    exact t_ret rfl (.cn rfl Rds.bxi rfl rfl (.tmp rfl .nil)) fun w hI => ⟨by rw [e]; rfl, hI.tail⟩
  refine l_p rfl rfl (p_move rfl) ?_
  refine l_p rfl rfl (p_move rfl) ?_
  refine l_p rfl rfl (p_lens (by exact rfl)) ?_
  refine l_p rfl rfl (p_sub rfl rfl (by omega)) ?_
  refine l_p rfl rfl (p_sixI (by exact rfl) (by exact rfl) (by omega)) ?_
  refine l_p rfl rfl (p_ne rfl rfl) ?_
  refine l_p rfl rfl (p_pickf rfl rfl) ?_
  refine l_nil ?_
  simp only [el]
  refine t_ifd rfl (fun h4 => ?_) (fun h4 => ?_)
  · have e := hbad (by rw [hqe]; have : ¬ q[q.length - 1] = 34 := fun e => h4 (by rw [e]; rfl); simp [this])
    refine t_seq ?_
    refine t_region ?_
    refine l_p rfl rfl (p_build (by exact rfl) (by exact rfl) (by exact rfl) (by exact rfl)) ?_
    refine l_sti rfl rfl rfl rfl rfl (by exact rfl) (by exact rfl) (by exact rfl) (by exact ⟨rfl, rfl⟩) ?_
    refine l_p rfl rfl (p_assign rfl) ?_
    refine l_nil ?_
    exact t_ret rfl (.cn rfl Rds.bxi rfl rfl (.tmp rfl .nil)) fun w hI => ⟨by rw [e]; rfl, hI.tail⟩
  have hq : quotedT q = true := by
    rw [hqe]
    have e1 : q[0] = 34 := UInt8.toNat_inj.1 (Int.ofNat_inj.1 (Decidable.not_not.1 h3))
    have e2 : q[q.length - 1] = 34 := UInt8.toNat_inj.1 (Int.ofNat_inj.1 (Decidable.not_not.1 h4))
    simp [e1, e2]
  rw [if_neg (by simp [hq])] at hE
  have hil := inner_len q
  refine t_skip ?_
  refine t_seq ?_
  refine t_region ?_
  refine l_p rfl rfl (p_move rfl) ?_
  refine l_p rfl rfl (p_move rfl) ?_
  refine l_p rfl rfl (p_move rfl) ?_
  refine l_p rfl rfl (p_lens (by exact rfl)) ?_
  refine l_p rfl rfl (p_sub rfl rfl (by omega)) ?_
  refine l_p rfl rfl (p_sslI (by exact rfl) (by exact rfl) (by exact rfl) (by omega)) ?_
  refine l_p rfl rfl (p_build (by exact rfl) (by exact rfl) (by exact rfl) (by exact rfl)) ?_
  refine l_alloc (by exact rfl) (by exact rfl) (by exact rfl) ?_; intro _
  refine l_sti rfl rfl rfl rfl rfl (by exact rfl) (by exact rfl) (by exact rfl) (by exact ⟨rfl, rfl⟩) ?_
  refine l_nil ?_
  refine t_seq ?_
  refine t_block ?_
  refine t_seq ?_
  refine t_region ?_
  refine l_p rfl rfl (p_fa (by exact rfl) Rds.bxi) ?_
  refine l_p rfl rfl (p_ld1 (by exact rfl) (Rds.fld Rds.bxi (by exact rfl))) ?_
  simp only [el]
  rw [show List.drop (Int.toNat 1) (List.take (q.length - 1) q) = inner q from rfl]
  generalize inner q = t at *
  skip
  refine l_callv rfl rfl rfl (tplain σ t (by omega)) ?_
  refine l_p rfl rfl (p_not rfl) ?_
  refine l_p rfl rfl (p_assign rfl) ?_
  refine l_nil ?_
  refine t_if rfl (fun h5 => ?_) (fun h5 => ?_)
  · rw [if_pos (by simpa using h5)] at hE
    refine t_seq ?_
    refine t_region ?_
    refine l_p rfl rfl (p_build (by exact rfl) (by exact rfl) (by exact rfl) (by exact rfl)) ?_
    refine l_sti rfl rfl rfl rfl rfl (by exact rfl) (by exact rfl) (by exact rfl) (by exact ⟨rfl, rfl⟩) ?_
    refine l_p rfl rfl (p_assign rfl) ?_
    refine l_nil ?_
    exact t_ret rfl (.cn rfl Rds.bxi rfl rfl (.tmp rfl .nil)) fun w hI => ⟨by rw [hE]; rfl, hI.tail.tail⟩
  have h5' : plainT t = true := by simpa using h5
  rw [if_neg (by simp [h5'])] at hE
  refine t_seq ?_
  refine t_region ?_
  refine l_p rfl rfl (p_ldn (by exact rfl) Rds.bxi (by exact rfl) (by exact rfl)) ?_
  refine l_callv rfl rfl rfl (tetright σ (wk, t) (by simp only; omega)) ?_
  simp only [h5', Bool.true_and]
  refine l_p rfl rfl (p_notd rfl) ?_
  refine l_p rfl rfl (p_assign rfl) ?_
  refine l_nil ?_
  refine t_ifd rfl (fun h6 => ?_) (fun h6 => ?_)
  · rw [if_pos (by omega)] at hE
    refine t_seq ?_
    refine t_region ?_
    refine l_p rfl rfl (p_build (by exact rfl) (by exact rfl) (by exact rfl) (by exact rfl)) ?_
    refine l_sti rfl rfl rfl rfl rfl (by exact rfl) (by exact rfl) (by exact rfl) (by exact ⟨rfl, rfl⟩) ?_
    refine l_p rfl rfl (p_assign rfl) ?_
    refine l_nil ?_
    exact t_ret rfl (.cn rfl Rds.bxi rfl rfl (.tmp rfl .nil)) fun w hI => ⟨by rw [hE]; rfl, hI.tail.tail⟩
  rw [if_neg (by omega)] at hE
  refine t_skip ?_
  refine t_blk ?_
  refine t_seq ?_
  refine t_region ?_
  refine l_p rfl rfl (p_ldn (by exact rfl) Rds.bxi (by exact rfl) (by exact rfl)) ?_
  refine l_sti rfl rfl rfl rfl rfl (by exact rfl) (by exact rfl) (by exact rfl) (by exact ⟨rfl, rfl⟩) ?_
  refine l_p rfl rfl (p_assign rfl) ?_
  refine l_nil ?_
  exact t_ret rfl (.cn rfl Rds.bxi rfl rfl (.tmp rfl .nil)) fun w hI => ⟨by rw [hE]; rfl, hI.tail.tail⟩
theorem tuse (σ : Stb) (s tag : List UInt8) (hs : s.length ≤ 4000000000) : SpV Tryz.prog 15 [st s, st tag] σ (.bool (useP s tag)) := by
  refine spv Tryz.func15 rfl (by kernel_rfl) rfl fun F => ?_
  have ht := trim_len s
  refine t_seq ?_
  refine t_region ?_
  refine l_p rfl rfl (p_assign rfl) ?_
  refine l_nil ?_
  refine t_seq ?_
  refine t_region ?_
  refine l_p rfl rfl (p_move rfl) ?_
  refine l_callv rfl rfl rfl (ttrim σ s (by omega)) ?_
  refine l_p rfl rfl (p_assign rfl) ?_
  refine l_nil ?_
  refine t_seq ?_
  refine t_seq ?_
  refine t_region ?_
  refine l_p rfl rfl (p_move rfl) ?_
  refine l_p rfl rfl (p_seq rfl rfl) ?_
  refine l_nil ?_
  refine t_ifd rfl (fun h => ?_) (fun h => ?_)
  · refine t_seq ?_
    refine t_region ?_
    refine l_p rfl rfl (p_assign rfl) ?_
    refine l_nil ?_
    exact t_ret1 rfl rfl fun w hI => ⟨by simp [useP, h], hI⟩
  refine t_skip ?_
  refine t_seq ?_
  refine t_region ?_
  refine l_p rfl rfl (p_move rfl) ?_
  refine l_callv rfl rfl rfl (tetparse σ (trim s) (by omega)) ?_
  have hu : useP s tag = (decide ((etagP (trim s)).2 = 0) && (!(etagP (trim s)).1.1 && decide ((etagP (trim s)).1.2 = tag))) := by simp only [useP, h, decide_false, Bool.false_or]
  generalize etagP (trim s) = x at *
  obtain ⟨⟨x1, x2⟩, x3⟩ := x
  refine l_p rfl rfl (p_move rfl) ?_
  refine l_p rfl rfl (p_ext rfl rfl) ?_
  refine l_p rfl rfl (p_ext rfl rfl) ?_
  refine l_alloc (by exact rfl) (by exact rfl) (by exact rfl) ?_; intro _
  refine l_sti rfl rfl rfl rfl rfl (by exact rfl) (by exact rfl) (by exact rfl) (by exact ⟨rfl, rfl⟩) ?_
  refine l_p rfl rfl (p_assign rfl) ?_
  refine l_nil ?_
  refine t_seq ?_
  refine t_region ?_
  refine l_p rfl rfl (p_move rfl) ?_
  refine l_p rfl rfl (p_eq rfl rfl) ?_
  refine l_p rfl rfl (p_move rfl) ?_
  refine l_split 19 rfl (fun h2 => ?_) (fun h2 => ?_)
  · refine l_p rfl rfl (p_ldn (by exact rfl) Rds.bxi (by exact rfl) (by exact rfl)) ?_
    refine l_p rfl rfl (p_move rfl) ?_
    refine l_p rfl rfl (p_build (by exact rfl) (by exact rfl) (by exact rfl) (by exact rfl)) ?_
    refine l_callv rfl rfl rfl (tstrong σ (x1, x2) (false, tag)) ?_
    refine l_p rfl rfl (p_pickt rfl rfl) ?_
    refine l_p rfl rfl (p_assign rfl) ?_
    refine l_nil ?_
    exact t_ret1 rfl rfl fun w hI => ⟨by rw [hu]; simp at h2; simp [h2], hI.tail⟩
  · refine l_skip rfl rfl ?_
    refine l_skip rfl rfl ?_
    refine l_skip rfl rfl ?_
    refine l_skip rfl rfl ?_
    refine l_p rfl rfl (p_pickf rfl rfl) ?_
    refine l_p rfl rfl (p_assign rfl) ?_
    refine l_nil ?_
    exact t_ret1 rfl rfl fun w hI => ⟨by rw [hu]; simp at h2; simp [h2], hI.tail⟩
end Go.Proofs.YtfglenbfbcckjaaGreatDoor
