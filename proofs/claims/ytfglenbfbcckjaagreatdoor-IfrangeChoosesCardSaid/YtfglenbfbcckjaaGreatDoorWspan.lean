/- Layers 5, 6 (specs, spans), and the document's: walks. -/
import Derived.Test.YtfglenbfbcckjaaGreatDoorTy
import Derived.Test.YtfglenbfbcckjaaGreatDoorX5
set_option linter.unusedSimpArgs false
set_option linter.unusedVariables false
set_option maxRecDepth 20000
namespace Go.Proofs.YtfglenbfbcckjaaGreatDoor
open Go.Sp
attribute [local irreducible] Go.Sp.Pr Go.Sp.Ws Go.Sp.Wl Go.Sp.Wq Go.Sp.Rds Go.Sp.Src
theorem nfits (σ : Stb) (n a b : Int) : SpV Tryz.prog 29 [i64 n, i64 a, i64 b] σ (.bool (decide (a ≤ n ∧ n ≤ b))) := by
  refine spv Tryz.func29 rfl (by kernel_rfl) rfl fun F => ?_
  refine t_seq ?_
  refine t_region ?_
  refine l_p rfl rfl (p_assign rfl) ?_
  refine l_nil ?_
  refine t_seq ?_
  refine t_region ?_
  refine l_p rfl rfl (p_move rfl) ?_
  refine l_p rfl rfl (p_move rfl) ?_
  refine l_p rfl rfl (p_ge rfl rfl) ?_
  refine l_p rfl rfl (p_move rfl) ?_
  refine l_split 10 rfl (fun h => ?_) (fun h => ?_)
  all_goals
    first | (refine l_p rfl rfl (p_move rfl) ?_; refine l_p rfl rfl (p_move rfl) ?_; refine l_p rfl rfl (p_le rfl rfl) ?_; refine l_p rfl rfl (p_pickt rfl rfl) ?_; refine l_p rfl rfl (p_assign rfl) ?_; refine l_nil ?_) | (refine l_skip rfl rfl ?_; refine l_skip rfl rfl ?_; refine l_skip rfl rfl ?_; refine l_p rfl rfl (p_pickf rfl rfl) ?_; refine l_p rfl rfl (p_assign rfl) ?_; refine l_nil ?_)
    exact t_ret1 rfl rfl fun w hI => ⟨by congr 1; rw [Bool.eq_iff_iff]; simp; try omega, hI⟩
abbrev vsp' (x : S3) : Value := .agg #[i64 x.1, i64 x.2.1, i64 x.2.2]
abbrev vsn (x : N2) : Value := .agg #[i64 x.1, i64 x.2]
theorem spright (σ : Stb) (a b : Nat) : SpV Tryz.prog 32 [.agg #[i64 a, i64 b]] σ (.bool (rightN (a, b))) := by
  refine spv Tryz.func32 rfl (by kernel_rfl) rfl fun F => ?_
  refine t_seq ?_
  refine t_region ?_
  refine l_box rfl rfl rfl rfl ?_; intro _
  refine l_p rfl rfl (p_assign rfl) ?_
  refine l_nil ?_
  refine t_seq ?_
  refine t_region ?_
  refine l_p rfl rfl (p_fa (by exact rfl) Rds.bxi) ?_
  refine l_p rfl rfl (p_ld1 (by exact rfl) Rds.bxi) ?_
  refine l_p rfl rfl (p_ge rfl rfl) ?_
  refine l_p rfl rfl (p_move rfl) ?_
  refine l_p rfl rfl (p_fa (by exact rfl) Rds.bxi) ?_
  refine l_p rfl rfl (p_ld1 (by exact rfl) Rds.bxi) ?_
  refine l_p rfl rfl (p_fa (by exact rfl) Rds.bxi) ?_
  refine l_p rfl rfl (p_ld1 (by exact rfl) (Rds.fld Rds.bxi (by exact rfl))) ?_
  refine l_p rfl rfl (p_lt rfl rfl) ?_
  refine l_p rfl rfl (p_pickt rfl rfl) ?_
  refine l_p rfl rfl (p_move rfl) ?_
  refine l_split 6 rfl (fun h => ?_) (fun h => ?_)
  · skip
    refine l_split 13 rfl (fun h2 => ?_) (fun h2 => ?_)
    all_goals
      first | (refine l_p rfl rfl (p_fa (by exact rfl) Rds.bxi) ?_; refine l_p rfl rfl (p_ld1 (by exact rfl) (Rds.fld Rds.bxi (by exact rfl))) ?_; refine l_p rfl rfl (p_le rfl rfl) ?_; refine l_p rfl rfl (p_pickt rfl rfl) ?_; refine l_p rfl rfl (p_assign rfl) ?_; refine l_nil ?_) | (refine l_skip rfl rfl ?_; refine l_skip rfl rfl ?_; refine l_skip rfl rfl ?_; refine l_p rfl rfl (p_pickf rfl rfl) ?_; refine l_p rfl rfl (p_assign rfl) ?_; refine l_nil ?_)
      exact t_ret1 rfl rfl fun w hI => ⟨by congr 1; rw [Bool.eq_iff_iff]; simp [rightN]; try omega, hI.tail⟩
  · simp at h
theorem rspright (σ : Stb) (a b : Nat) : SpV Tryz.prog 8 [.agg #[i64 a, i64 b]] σ (.bool (rightN (a, b))) := by
  refine spv Tryz.func8 rfl (by kernel_rfl) rfl fun F => ?_
  refine t_seq ?_
  refine t_region ?_
  refine l_box rfl rfl rfl rfl ?_; intro _
  refine l_p rfl rfl (p_assign rfl) ?_
  refine l_nil ?_
  refine t_seq ?_
  refine t_region ?_
  refine l_p rfl rfl (p_fa (by exact rfl) Rds.bxi) ?_
  refine l_p rfl rfl (p_ld1 (by exact rfl) Rds.bxi) ?_
  refine l_p rfl rfl (p_ge rfl rfl) ?_
  refine l_p rfl rfl (p_move rfl) ?_
  refine l_p rfl rfl (p_fa (by exact rfl) Rds.bxi) ?_
  refine l_p rfl rfl (p_ld1 (by exact rfl) (Rds.fld Rds.bxi (by exact rfl))) ?_
  refine l_p rfl rfl (p_fa (by exact rfl) Rds.bxi) ?_
  refine l_p rfl rfl (p_ld1 (by exact rfl) Rds.bxi) ?_
  refine l_p rfl rfl (p_gt rfl rfl) ?_
  refine l_p rfl rfl (p_pickt rfl rfl) ?_
  refine l_p rfl rfl (p_move rfl) ?_
  refine l_split 6 rfl (fun h => ?_) (fun h => ?_)
  · skip
    refine l_split 13 rfl (fun h2 => ?_) (fun h2 => ?_)
    all_goals
      first | (refine l_p rfl rfl (p_fa (by exact rfl) Rds.bxi) ?_; refine l_p rfl rfl (p_ld1 (by exact rfl) (Rds.fld Rds.bxi (by exact rfl))) ?_; refine l_p rfl rfl (p_le rfl rfl) ?_; refine l_p rfl rfl (p_pickt rfl rfl) ?_; refine l_p rfl rfl (p_assign rfl) ?_; refine l_nil ?_) | (refine l_skip rfl rfl ?_; refine l_skip rfl rfl ?_; refine l_skip rfl rfl ?_; refine l_p rfl rfl (p_pickf rfl rfl) ?_; refine l_p rfl rfl (p_assign rfl) ?_; refine l_nil ?_)
      exact t_ret1 rfl rfl fun w hI => ⟨by congr 1; rw [Bool.eq_iff_iff]; simp [rightN]; try omega, hI.tail⟩
  · simp at h
theorem scright (σ : Stb) (k a b : Nat) : SpV Tryz.prog 30 [.agg #[i64 k, i64 a, i64 b]] σ (.bool (rightS (k, a, b))) := by
  refine spv Tryz.func30 rfl (by kernel_rfl) rfl fun F => ?_
  refine t_seq ?_
  refine t_region ?_
  refine l_box rfl rfl rfl rfl ?_; intro _
  refine l_p rfl rfl (p_assign rfl) ?_
  refine l_nil ?_
  refine t_seq ?_
  refine t_seq ?_
  refine t_region ?_
  refine l_p rfl rfl (p_fa (by exact rfl) Rds.bxi) ?_
  refine l_p rfl rfl (p_ld1 (by exact rfl) Rds.bxi) ?_
  refine l_nil ?_
  refine t_block ?_
  refine t_seq ?_
  refine t_block ?_
  refine t_block ?_
  refine t_seq ?_
  refine t_block ?_
  refine t_seq ?_
  refine t_seq ?_
  refine t_seq ?_
  refine t_region ?_
  refine l_p rfl rfl (p_eq rfl rfl) ?_
  refine l_p rfl rfl (p_assign rfl) ?_
  refine l_nil ?_
  refine t_ifd rfl (fun h => ?_) (fun h => ?_)
  · have hk : k = 2 := by omega
    refine t_exit rfl ?_
    refine t_seq ?_
    refine t_seq ?_
    refine t_region ?_
    refine l_p rfl rfl (p_fa (by exact rfl) Rds.bxi) ?_
    refine l_p rfl rfl (p_ld1 (by exact rfl) (Rds.fld Rds.bxi (by exact rfl))) ?_
    refine l_p rfl rfl (p_ge rfl rfl) ?_
    refine l_p rfl rfl (p_move rfl) ?_
    refine l_p rfl rfl (p_fa (by exact rfl) Rds.bxi) ?_
    refine l_p rfl rfl (p_ld1 (by exact rfl) (Rds.fld Rds.bxi (by exact rfl))) ?_
    refine l_p rfl rfl (p_fa (by exact rfl) Rds.bxi) ?_
    refine l_p rfl rfl (p_ld1 (by exact rfl) (Rds.fld Rds.bxi (by exact rfl))) ?_
    refine l_p rfl rfl (p_ge rfl rfl) ?_
    refine l_p rfl rfl (p_pickt rfl rfl) ?_
    refine l_p rfl rfl (p_move rfl) ?_
    refine l_split 14 rfl (fun h => ?_) (fun h => ?_)
    · skip
      refine l_split 21 rfl (fun h2 => ?_) (fun h2 => ?_)
      all_goals
        first | (refine l_p rfl rfl (p_fa (by exact rfl) Rds.bxi) ?_; refine l_p rfl rfl (p_ld1 (by exact rfl) (Rds.fld Rds.bxi (by exact rfl))) ?_; refine l_p rfl rfl (p_le rfl rfl) ?_; refine l_p rfl rfl (p_pickt rfl rfl) ?_; refine l_p rfl rfl (p_assign rfl) ?_; refine l_nil ?_) | (refine l_skip rfl rfl ?_; refine l_skip rfl rfl ?_; refine l_skip rfl rfl ?_; refine l_p rfl rfl (p_pickf rfl rfl) ?_; refine l_p rfl rfl (p_assign rfl) ?_; refine l_nil ?_)
        exact t_ret1 rfl rfl fun w hI => ⟨by congr 1; rw [Bool.eq_iff_iff]; simp [rightS, hk, -Nat.not_lt, -Nat.not_le]; try omega, hI.tail⟩
    · simp at h
  refine t_skip ?_
  refine t_seq ?_
  refine t_seq ?_
  refine t_region ?_
  refine l_p rfl rfl (p_eq rfl rfl) ?_
  refine l_p rfl rfl (p_assign rfl) ?_
  refine l_nil ?_
  refine t_ifd rfl (fun h2 => ?_) (fun h2 => ?_)
  · have hk : k = 1 := by omega
    refine t_exit rfl ?_
    refine t_blk ?_
    refine t_seq ?_
    refine t_seq ?_
    refine t_region ?_
    refine l_p rfl rfl (p_fa (by exact rfl) Rds.bxi) ?_
    refine l_p rfl rfl (p_ld1 (by exact rfl) (Rds.fld Rds.bxi (by exact rfl))) ?_
    refine l_callv rfl rfl rfl (nfits σ _ _ _) ?_
    refine l_p rfl rfl (p_move rfl) ?_
    refine l_split 29 rfl (fun h3 => ?_) (fun h3 => ?_)
    all_goals
      first | (refine l_p rfl rfl (p_fa (by exact rfl) Rds.bxi) ?_; refine l_p rfl rfl (p_ld1 (by exact rfl) (Rds.fld Rds.bxi (by exact rfl))) ?_; refine l_p rfl rfl (p_eq rfl rfl) ?_; refine l_p rfl rfl (p_pickt rfl rfl) ?_; refine l_p rfl rfl (p_assign rfl) ?_; refine l_nil ?_) | (refine l_skip rfl rfl ?_; refine l_skip rfl rfl ?_; refine l_skip rfl rfl ?_; refine l_p rfl rfl (p_pickf rfl rfl) ?_; refine l_p rfl rfl (p_assign rfl) ?_; refine l_nil ?_)
      exact t_ret1 rfl rfl fun w hI => ⟨by congr 1; rw [Bool.eq_iff_iff]; simp [rightS, hk, -Nat.not_lt, -Nat.not_le]; try omega, hI.tail⟩
  refine t_skip ?_
  refine t_seq ?_
  refine t_region ?_
  refine l_p rfl rfl (p_eq rfl rfl) ?_
  refine l_p rfl rfl (p_assign rfl) ?_
  refine l_nil ?_
  refine t_ifd rfl (fun h4 => ?_) (fun h4 => ?_)
  · have hk : k = 3 := by omega
    refine t_exit rfl ?_
    refine t_seq ?_
    refine t_seq ?_
    refine t_region ?_
    refine l_p rfl rfl (p_fa (by exact rfl) Rds.bxi) ?_
    refine l_p rfl rfl (p_ld1 (by exact rfl) (Rds.fld Rds.bxi (by exact rfl))) ?_
    refine l_callv rfl rfl rfl (nfits σ _ _ _) ?_
    refine l_p rfl rfl (p_move rfl) ?_
    refine l_split 29 rfl (fun h3 => ?_) (fun h3 => ?_)
    all_goals
      first | (refine l_p rfl rfl (p_fa (by exact rfl) Rds.bxi) ?_; refine l_p rfl rfl (p_ld1 (by exact rfl) (Rds.fld Rds.bxi (by exact rfl))) ?_; refine l_p rfl rfl (p_eq rfl rfl) ?_; refine l_p rfl rfl (p_pickt rfl rfl) ?_; refine l_p rfl rfl (p_assign rfl) ?_; refine l_nil ?_) | (refine l_skip rfl rfl ?_; refine l_skip rfl rfl ?_; refine l_skip rfl rfl ?_; refine l_p rfl rfl (p_pickf rfl rfl) ?_; refine l_p rfl rfl (p_assign rfl) ?_; refine l_nil ?_)
      exact t_ret1 rfl rfl fun w hI => ⟨by congr 1; rw [Bool.eq_iff_iff]; simp [rightS, hk, -Nat.not_lt, -Nat.not_le]; try omega, hI.tail⟩
  refine t_skip ?_
  refine t_exit rfl ?_
  refine t_seq ?_
  refine t_region ?_
  refine l_p rfl rfl (p_assign rfl) ?_
  refine l_nil ?_
  exact t_ret1 rfl rfl fun w hI => ⟨by simp [rightS, show ¬ k = 2 by omega, show ¬ k = 1 by omega, show ¬ k = 3 by omega], hI.tail⟩
theorem spone (σ : Stb) (k a b : Nat) (n : Nat) (hn : 1 ≤ n ∧ n ≤ 4611686018427387903) (hx : a ≤ 4611686018427387903 ∧ b ≤ 4611686018427387903) : SpV Tryz.prog 31 [.agg #[i64 k, i64 a, i64 b], i64 n] σ (vsn (oneN (k, a, b) n)) := by
  refine spv Tryz.func31 rfl (by kernel_rfl) rfl fun F => ?_
  refine t_seq ?_
  refine t_region ?_
  refine l_box rfl rfl rfl rfl ?_; intro _
  refine l_alloc (by exact rfl) (by exact rfl) (by exact rfl) ?_; intro _
  refine l_nil ?_
  refine t_seq ?_
  refine t_seq ?_
  refine t_region ?_
  refine l_p rfl rfl (p_fa (by exact rfl) Rds.bxi) ?_
  refine l_p rfl rfl (p_ld1 (by exact rfl) Rds.bxi) ?_
  refine l_nil ?_
  refine t_block ?_
  refine t_seq ?_
  refine t_region ?_
  refine l_p rfl rfl (p_eq rfl rfl) ?_
  refine l_p rfl rfl (p_assign rfl) ?_
  refine l_nil ?_
  refine t_ifd rfl (fun h => ?_) (fun h => ?_)
  · have hk : k = 1 := by omega
    refine t_seq ?_
    refine t_region ?_
    refine l_p rfl rfl (p_fa (by exact rfl) Rds.bxi) ?_
    refine l_p rfl rfl (p_ld1 (by exact rfl) (Rds.fld Rds.bxi (by exact rfl))) ?_
    refine l_p rfl rfl (p_move rfl) ?_
    refine l_p rfl rfl (p_build (by exact rfl) (by exact rfl) (by exact rfl) (by exact rfl)) ?_
    refine l_sti rfl rfl rfl rfl rfl (by exact rfl) (by exact rfl) (by exact rfl) (by exact ⟨rfl, rfl⟩) ?_
    refine l_nil ?_
    exact t_ret rfl (.cn rfl Rds.bxi rfl rfl .nil) fun w hI => ⟨by simp [oneN, hk]; rfl, hI.tail.tail⟩
  refine t_seq ?_
  refine t_region ?_
  refine l_p rfl rfl (p_eq rfl rfl) ?_
  refine l_p rfl rfl (p_assign rfl) ?_
  refine l_nil ?_
  refine t_ifd rfl (fun h2 => ?_) (fun h2 => ?_)
  · have hk : k = 2 := by omega
    refine t_seq ?_
    refine t_region ?_
    refine l_p rfl rfl (p_fa (by exact rfl) Rds.bxi) ?_
    refine l_p rfl rfl (p_ld1 (by exact rfl) (Rds.fld Rds.bxi (by exact rfl))) ?_
    refine l_p rfl rfl (p_fa (by exact rfl) Rds.bxi) ?_
    refine l_p rfl rfl (p_ld1 (by exact rfl) (Rds.fld Rds.bxi (by exact rfl))) ?_
    refine l_p rfl rfl (p_move rfl) ?_
    refine l_p rfl rfl (p_sub rfl rfl (by omega)) ?_
    refine l_p rfl rfl (p_min rfl rfl) ?_
    refine l_p rfl rfl (p_add rfl rfl (by omega)) ?_
    refine l_p rfl rfl (p_build (by exact rfl) (by exact rfl) (by exact rfl) (by exact rfl)) ?_
    refine l_sti rfl rfl rfl rfl rfl (by exact rfl) (by exact rfl) (by exact rfl) (by exact ⟨rfl, rfl⟩) ?_
    refine l_nil ?_
    have e : min (b : Int) ((n : Int) - 1) + 1 = ((min b (n - 1) + 1 : Nat) : Int) := by omega
    exact t_ret rfl (.cn rfl Rds.bxi rfl rfl .nil) fun w hI => ⟨by simp only [oneN, hk]; simp only [show ¬ (2 : Nat) = 1 by decide, if_true, if_false]; show Value.agg #[i64 a, i64 (min (b : Int) ((n : Int) - 1) + 1)] = _; rw [e], hI.tail.tail⟩
  refine t_skip ?_
  refine t_blk ?_
  refine t_seq ?_
  refine t_region ?_
  refine l_p rfl rfl (p_move rfl) ?_
  refine l_p rfl rfl (p_fa (by exact rfl) Rds.bxi) ?_
  refine l_p rfl rfl (p_ld1 (by exact rfl) (Rds.fld Rds.bxi (by exact rfl))) ?_
  refine l_p rfl rfl (p_move rfl) ?_
  refine l_p rfl rfl (p_min rfl rfl) ?_
  refine l_p rfl rfl (p_sub rfl rfl (by omega)) ?_
  refine l_p rfl rfl (p_move rfl) ?_
  refine l_p rfl rfl (p_build (by exact rfl) (by exact rfl) (by exact rfl) (by exact rfl)) ?_
  refine l_sti rfl rfl rfl rfl rfl (by exact rfl) (by exact rfl) (by exact rfl) (by exact ⟨rfl, rfl⟩) ?_
  refine l_nil ?_
  have e : (n : Int) - min (a : Int) n = ((n - min a n : Nat) : Int) := by omega
  exact t_ret rfl (.cn rfl Rds.bxi rfl rfl .nil) fun w hI => ⟨by simp only [oneN, show ¬ k = 1 by omega, show ¬ k = 2 by omega, if_false]; show Value.agg #[i64 ((n : Int) - min (a : Int) n), i64 n] = _; rw [e], hI.tail.tail⟩
theorem presolve {σ : Stb} {A0 : Option Addr} {n0 c0 : Nat} {l : List S3} (n : Int) (hS : Sl σ 3 esp (.slice A0 n0 c0) l) (hl : l.length ≤ 1000000) : Sp0 Tryz.prog 16 [.slice A0 n0 c0, i64 n] σ fun v σ' => Sl σ' 2 esn v (resolveI l n) := by
  have hn0 := hS.len
  subst hn0
  refine sp0 Tryz.func16 rfl (by kernel_rfl) rfl fun F => ?_
  refine t_seq ?_
  refine t_region ?_
  refine l_p rfl rfl (p_assign rfl) ?_
  refine l_nil ?_
  refine t_seq ?_
  refine t_seq ?_
  refine t_region ?_
  refine l_p rfl rfl (p_move rfl) ?_
  refine l_callv rfl rfl rfl (nfits σ _ _ _) ?_
  refine l_p rfl rfl (p_notd rfl) ?_
  refine l_nil ?_
  refine t_ifd rfl (fun h => ?_) (fun h => ?_)
  · have e : resolveI l n = [] := by rw [resolveI, if_neg h]
    refine t_seq ?_
    refine t_region ?_
    refine l_p rfl rfl (p_assign rfl) ?_
    refine l_nil ?_
    exact t_ret1 rfl rfl fun w hI => ⟨σ, .refl σ, by rw [e]; exact Sl.nil .., hI⟩
  have h' := Decidable.not_not.1 h
  obtain ⟨m, rfl⟩ := Int.eq_ofNat_of_zero_le (show 0 ≤ n by omega)
  have e : resolveI l (m : Int) = resolveN l m := by rw [resolveI, if_pos h', Int.toNat_natCast]
  rw [e]
  refine t_skip ?_
  refine t_seq ?_
  refine t_region ?_
  refine l_p rfl rfl (p_assign rfl) ?_
  refine l_nil ?_
  refine t_seq ?_
  refine t_seq ?_
  refine t_region ?_
  refine l_p rfl rfl (p_move rfl) ?_
  refine l_p rfl rfl (p_lensl (by exact rfl)) ?_
  refine l_p rfl rfl (p_move rfl) ?_
  refine l_nil ?_
  refine t_block ?_
  refine t_loop (ι := Nat × Option Addr × Nat × List Res) { E := fun i => [(1, i64 m), (12, .slice A0 l.length c0), (13, i64 l.length), (14, i64 i.1), (5, .slice i.2.1 (resolveN (l.take i.1) m).length i.2.2.1)], S := fun _ => σ, M := fun i => own 2 esn 32 (.slice i.2.1 (resolveN (l.take i.1) m).length i.2.2.1) (resolveN (l.take i.1) m) :: (i.2.2.2 ++ F), Φ := fun i => i.1 ≤ l.length ∧ (resolveN (l.take i.1) m).length ≤ i.1 } (fun i => l.length - i.1) (0, none, 0, [])
    (by exact ⟨rfl, rfl, rfl, rfl, rfl, trivial⟩) ⟨Nat.zero_le _, by simp [resolveN]⟩ (fun w hI => hI.own0 ..) ?_
  rintro ⟨i, A, cc, R⟩ ⟨h3, h4⟩
  dsimp only at h3 h4 ⊢
  refine t_seq ?_
  refine t_region ?_
  refine l_p rfl rfl (p_lt rfl rfl) ?_
  refine l_nil ?_
  refine t_seq ?_
  refine t_ifd rfl (fun h5 => ?_) (fun h5 => ?_)
  · have hi : i < l.length := by omega
    have hstep : resolveN (l.take (i + 1)) m = addR (resolveN (l.take i) m) m l[i] := by rw [take_succ l i hi, resolveN_snoc]
    generalize hout : resolveN (l.take i) m = out at *
    have hnx : ∀ (w : World) (R' : List Res), resolveN (l.take (i + 1)) m = out → Sp.Inv σ (own 2 esn 32 (.slice A out.length cc) out :: (R' ++ F)) w → Sp.Inv σ (own 2 esn 32 (.slice A (resolveN (l.take (i + 1)) m).length cc) (resolveN (l.take (i + 1)) m) :: (R' ++ F)) w := fun w R' e hI => by rw [e]; exact hI
    refine t_skip ?_
    refine t_seq ?_
    refine t_block ?_
    refine t_seq ?_
    refine t_region ?_
    refine l_p rfl rfl (p_ix _ (by exact rfl) (by exact rfl) (by exact rfl) (by omega) (Rds.ix (by assumption) (by omega))) ?_
    refine l_p rfl rfl (p_ldn (by exact rfl) (Rds.ix (by assumption) (by omega)) (by exact rfl) (by exact rfl)) ?_
    refine l_alloc (by exact rfl) (by exact rfl) (by exact rfl) ?_; intro _
    refine l_sti rfl rfl rfl rfl rfl (by exact rfl) (by exact rfl) (by exact rfl) (by exact ⟨rfl, rfl⟩) ?_
    refine l_nil ?_
    refine t_seq ?_
    refine t_seq ?_
    refine t_region ?_
    refine l_p rfl rfl (p_ldn (by exact rfl) Rds.bxi (by exact rfl) (by exact rfl)) ?_
    refine l_callv rfl rfl rfl (scright σ _ _ _) ?_
    refine l_p rfl rfl (p_not rfl) ?_
    refine l_nil ?_
    refine t_if rfl (fun h6 => ?_) (fun h6 => ?_)
    · have h6' : rightS l[i] = false := by simpa using h6
      rw [addR, if_neg (by simp [h6'])] at hstep
      refine t_exit rfl ?_
      refine t_region ?_
      refine l_p rfl rfl (p_add rfl rfl (by omega)) ?_
      refine l_p rfl rfl (p_move rfl) ?_
      refine l_nil ?_
      exact t_round (i + 1, A, cc, _ :: R) ⟨rfl, rfl, rfl, gi rfl (by omega), gs rfl (by rw [hstep]), trivial⟩ ⟨by simp only; omega, by simp only [hstep]; omega⟩ (by show l.length - (i + 1) < l.length - i; omega) (fun w hI => hnx w (_ :: R) hstep (hI.perm (.swap ..)))
    have h6' : rightS l[i] = true := by simpa using h6
    have hbd := rightS_bd h6'
    refine t_skip ?_
    refine t_seq ?_
    refine t_region ?_
    refine l_p rfl rfl (p_ldn (by exact rfl) Rds.bxi (by exact rfl) (by exact rfl)) ?_
    refine l_p rfl rfl (p_move rfl) ?_
    refine l_callv rfl rfl rfl (spone σ _ _ _ m (by omega) hbd) ?_
    refine l_alloc (by exact rfl) (by exact rfl) (by exact rfl) ?_; intro _
    refine l_sti rfl rfl rfl rfl rfl (by exact rfl) (by exact rfl) (by exact rfl) (by exact ⟨rfl, rfl⟩) ?_
    refine l_nil ?_
    refine t_seq ?_
    refine t_region ?_
    refine l_p rfl rfl (p_ldn (by exact rfl) Rds.bxi (by exact rfl) (by exact rfl)) ?_
    refine l_callv rfl rfl rfl (spright σ _ _) ?_
    refine l_nil ?_
    refine t_if rfl (fun h7 => ?_) (fun h7 => ?_)
    · have h7' : rightN (oneN l[i] m) = true := h7
      rw [addR, if_pos ⟨h6', h7'⟩] at hstep
      refine t_region ?_
      refine l_p rfl rfl (p_move rfl) ?_
      refine l_p rfl rfl (p_ldn (by exact rfl) Rds.bxi (by exact rfl) (by exact rfl)) ?_
      refine l_bsl (by exact rfl) (by exact rfl) (by exact rfl) (by exact rfl) (by exact rfl) (by exact rfl) (by exact rfl) ?_; intro _
      refine l_app1 (enc := esn) (oneN l[i] m) rfl rfl rfl rfl (.s (.s (.s .z))) .z (by exact rfl) rfl (by exact rfl) (by exact rfl) (by omega) (by omega) fun A' cc' => ?_
      refine l_p rfl rfl (p_assign rfl) ?_
      refine l_nil ?_
      refine t_blk ?_
      refine t_region ?_
      refine l_p rfl rfl (p_add rfl rfl (by omega)) ?_
      refine l_p rfl rfl (p_move rfl) ?_
      refine l_nil ?_
      exact t_round (i + 1, A', cc', _ :: _ :: _ :: R) ⟨rfl, rfl, rfl, gi rfl (by omega), gs rfl (by rw [hstep]; simp), trivial⟩ ⟨by simp only; omega, by simp only [hstep]; simp; omega⟩ (by show l.length - (i + 1) < l.length - i; omega) (fun w hI => Inv.oc (by rw [hstep]; simp) hstep.symm hI)
    · have h7' : rightN (oneN l[i] m) = false := h7
      rw [addR, if_neg (by simp [h7'])] at hstep
      refine t_skip ?_
      refine t_blk ?_
      refine t_region ?_
      refine l_p rfl rfl (p_add rfl rfl (by omega)) ?_
      refine l_p rfl rfl (p_move rfl) ?_
      refine l_nil ?_
      exact t_round (i + 1, A, cc, _ :: _ :: R) ⟨rfl, rfl, rfl, gi rfl (by omega), gs rfl (by rw [hstep]), trivial⟩ ⟨by simp only; omega, by simp only [hstep]; omega⟩ (by show l.length - (i + 1) < l.length - i; omega) (fun w hI => hnx w (_ :: _ :: R) hstep (hI.out (.s (.s .z))))
  · have hn : i = l.length := by omega
    subst hn
    simp only [List.take_length] at *
    refine t_exit rfl ?_
    refine t_seq ?_
    refine t_region ?_
    refine l_p rfl rfl (p_move rfl) ?_
    refine l_p rfl rfl (p_assign rfl) ?_
    refine l_nil ?_
    refine t_fzo .z fun σ' hσ hS => ?_
    exact t_ret1 rfl rfl fun w hI => ⟨σ', hσ, hS, hI.dropN R⟩
end Go.Proofs.YtfglenbfbcckjaaGreatDoor
