/- The document's specs and spans: walks. -/
import Derived.Test.YtfglenbfbcckjaaGreatDoorWspan
set_option linter.unusedSimpArgs false
set_option linter.unusedVariables false
set_option maxRecDepth 20000
namespace Go.Proofs.YtfglenbfbcckjaaGreatDoor
open Go.Sp
attribute [local irreducible] Go.Sp.Pr Go.Sp.Ws Go.Sp.Wl Go.Sp.Wq Go.Sp.Rds Go.Sp.Src
theorem rscright (σ : Stb) (k a b : Nat) : SpV Tryz.prog 47 [.agg #[i64 k, i64 a, i64 b]] σ (.bool (rightS (k, a, b))) := by
  refine spv Tryz.func47 rfl (by kernel_rfl) rfl fun F => ?_
  have hE : rightS (k, a, b) = if k = 2 then decide (a ≤ b) && decide (b ≤ 4611686018427387903) else if k = 1 ∨ k = 3 then decide (a ≤ 4611686018427387903) && decide (b = 0) else false := rfl
  have hF : (4611686018427387903 < a ∨ 4611686018427387903 < b) → rightS (k, a, b) = false := fun h => by
    cases hr : rightS (k, a, b) with
    | false => rfl
    | true => have := rightS_bd hr; simp only at this; omega
  generalize rightS (k, a, b) = tot at *
  refine t_seq ?_
  refine t_region ?_
  refine l_box rfl rfl rfl rfl ?_; intro _
  refine l_p rfl rfl (p_assign rfl) ?_
  refine l_nil ?_
  refine t_seq ?_
  refine t_seq ?_
  refine t_region ?_
  refine l_p rfl rfl (p_fa (by exact rfl) Rds.bxi) ?_
  refine l_p rfl rfl (p_ld1 (by exact rfl) (Rds.fld Rds.bxi (by exact rfl))) ?_
  refine l_p rfl rfl (p_lt rfl rfl) ?_
  refine l_p rfl rfl (p_move rfl) ?_
  refine l_p rfl rfl (p_fa (by exact rfl) Rds.bxi) ?_
  refine l_p rfl rfl (p_ld1 (by exact rfl) (Rds.fld Rds.bxi (by exact rfl))) ?_
  refine l_p rfl rfl (p_gt rfl rfl) ?_
  refine l_p rfl rfl (p_pickf rfl rfl) ?_
  refine l_p rfl rfl (p_move rfl) ?_
  refine l_split 11 rfl (fun h => ?_) (fun h => ?_)
  · refine l_skip rfl rfl ?_
    refine l_skip rfl rfl ?_
    refine l_skip rfl rfl ?_
    refine l_p rfl rfl (p_pickt rfl rfl) ?_
    refine l_nil ?_
    refine t_ift rfl ?_
    refine t_seq ?_
    refine t_region ?_
    refine l_p rfl rfl (p_assign rfl) ?_
    refine l_nil ?_
    exact t_ret1 rfl rfl fun w hI => ⟨by rw [hF (by omega)], hI.tail⟩
  refine l_p rfl rfl (p_fa (by exact rfl) Rds.bxi) ?_
  refine l_p rfl rfl (p_ld1 (by exact rfl) (Rds.fld Rds.bxi (by exact rfl))) ?_
  refine l_p rfl rfl (p_gt rfl rfl) ?_
  refine l_p rfl rfl (p_pickf rfl rfl) ?_
  refine l_nil ?_
  refine t_ifd rfl (fun h2 => ?_) (fun h2 => ?_)
  · refine t_seq ?_
    refine t_region ?_
    refine l_p rfl rfl (p_assign rfl) ?_
    refine l_nil ?_
    exact t_ret1 rfl rfl fun w hI => ⟨by rw [hF (by omega)], hI.tail⟩
  refine t_skip ?_
  refine t_seq ?_
  refine t_region ?_
  refine l_p rfl rfl (p_fa (by exact rfl) Rds.bxi) ?_
  refine l_p rfl rfl (p_ld1 (by exact rfl) Rds.bxi) ?_
  refine l_nil ?_
  refine t_block ?_
  refine t_seq ?_
  refine t_region ?_
  refine l_p rfl rfl (p_eq rfl rfl) ?_
  refine l_p rfl rfl (p_assign rfl) ?_
  refine l_nil ?_
  refine t_ifd rfl (fun h3 => ?_) (fun h3 => ?_)
  · rw [if_pos (by omega)] at hE
    refine t_seq ?_
    refine t_region ?_
    refine l_p rfl rfl (p_fa (by exact rfl) Rds.bxi) ?_
    refine l_p rfl rfl (p_ld1 (by exact rfl) (Rds.fld Rds.bxi (by exact rfl))) ?_
    refine l_p rfl rfl (p_fa (by exact rfl) Rds.bxi) ?_
    refine l_p rfl rfl (p_ld1 (by exact rfl) (Rds.fld Rds.bxi (by exact rfl))) ?_
    refine l_p rfl rfl (p_ge rfl rfl) ?_
    refine l_p rfl rfl (p_assign rfl) ?_
    refine l_nil ?_
    exact t_ret1 rfl rfl fun w hI => ⟨by rw [hE]; congr 1; rw [Bool.eq_iff_iff]; simp [-Nat.not_lt]; omega, hI.tail⟩
  rw [if_neg (by omega)] at hE
  refine t_seq ?_
  refine t_seq ?_
  refine t_region ?_
  refine l_p rfl rfl (p_eq rfl rfl) ?_
  refine l_p rfl rfl (p_assign rfl) ?_
  refine l_nil ?_
  refine t_ifd rfl (fun h4 => ?_) (fun h4 => ?_)
  · rw [if_pos (by omega)] at hE
    refine t_skip ?_
    refine t_ifd rfl (fun _ => ?_) (fun h => by omega)
    refine t_seq ?_
    refine t_region ?_
    refine l_p rfl rfl (p_fa (by exact rfl) Rds.bxi) ?_
    refine l_p rfl rfl (p_ld1 (by exact rfl) (Rds.fld Rds.bxi (by exact rfl))) ?_
    refine l_p rfl rfl (p_eq rfl rfl) ?_
    refine l_p rfl rfl (p_assign rfl) ?_
    refine l_nil ?_
    exact t_ret1 rfl rfl fun w hI => ⟨by rw [hE]; congr 1; rw [Bool.eq_iff_iff]; simp; omega, hI.tail⟩
  refine t_region ?_
  refine l_p rfl rfl (p_eq rfl rfl) ?_
  refine l_p rfl rfl (p_assign rfl) ?_
  refine l_nil ?_
  refine t_ifd rfl (fun h5 => ?_) (fun h5 => ?_)
  · rw [if_pos (by omega)] at hE
    refine t_seq ?_
    refine t_region ?_
    refine l_p rfl rfl (p_fa (by exact rfl) Rds.bxi) ?_
    refine l_p rfl rfl (p_ld1 (by exact rfl) (Rds.fld Rds.bxi (by exact rfl))) ?_
    refine l_p rfl rfl (p_eq rfl rfl) ?_
    refine l_p rfl rfl (p_assign rfl) ?_
    refine l_nil ?_
    exact t_ret1 rfl rfl fun w hI => ⟨by rw [hE]; congr 1; rw [Bool.eq_iff_iff]; simp; omega, hI.tail⟩
  rw [if_neg (by omega)] at hE
  refine t_seq ?_
  refine t_region ?_
  refine l_p rfl rfl (p_assign rfl) ?_
  refine l_nil ?_
  exact t_ret1 rfl rfl fun w hI => ⟨by rw [hE], hI.tail⟩
theorem rresolve {σ : Stb} {A0 : Option Addr} {n0 c0 : Nat} {l : List S3} (n : Int) (hn : -9223372036854775808 ≤ n ∧ n ≤ 9223372036854775807) (hS : Sl σ 3 esp (.slice A0 n0 c0) l) (hl : l.length ≤ 1000000) : Sp0 Tryz.prog 21 [.slice A0 n0 c0, i64 n] σ fun v σ' => Sl σ' 2 esn v (resolveI l n) := by
  have hn0 := hS.len
  subst hn0
  refine sp0 Tryz.func21 rfl (by kernel_rfl) rfl fun F => ?_
  have hbad : ¬ (1 ≤ n ∧ n ≤ 4611686018427387903) → resolveI l n = [] := fun h => by rw [resolveI, if_neg h]
  refine t_seq ?_
  refine t_region ?_
  refine l_p rfl rfl (p_assign rfl) ?_
  refine l_nil ?_
  refine t_seq ?_
  refine t_region ?_
  refine l_p rfl rfl (p_assign rfl) ?_
  refine l_nil ?_
  refine t_seq ?_
  refine t_seq ?_
  refine t_region ?_
  refine l_p rfl rfl (p_move rfl) ?_
  refine l_p rfl rfl (p_lt rfl rfl) ?_
  refine l_p rfl rfl (p_move rfl) ?_
  refine l_split 11 rfl (fun h => ?_) (fun h => ?_)
  · refine l_skip rfl rfl ?_
    refine l_skip rfl rfl ?_
    refine l_p rfl rfl (p_pickt rfl rfl) ?_
    refine l_nil ?_
    refine t_ift rfl ?_
    refine t_seq ?_
    refine t_region ?_
    refine l_p rfl rfl (p_move rfl) ?_
    refine l_p rfl rfl (p_assign rfl) ?_
    refine l_nil ?_
    exact t_ret1 rfl rfl fun w hI => ⟨σ, .refl σ, by rw [hbad (by omega)]; exact Sl.nil .., hI⟩
  refine l_p rfl rfl (p_move rfl) ?_
  refine l_p rfl rfl (p_gt rfl rfl) ?_
  refine l_p rfl rfl (p_pickf rfl rfl) ?_
  refine l_nil ?_
  refine t_ifd rfl (fun h2 => ?_) (fun h2 => ?_)
  · refine t_seq ?_
    refine t_region ?_
    refine l_p rfl rfl (p_move rfl) ?_
    refine l_p rfl rfl (p_assign rfl) ?_
    refine l_nil ?_
    exact t_ret1 rfl rfl fun w hI => ⟨σ, .refl σ, by rw [hbad (by omega)]; exact Sl.nil .., hI⟩
  have h' : 1 ≤ n ∧ n ≤ 4611686018427387903 := by omega
  obtain ⟨m, rfl⟩ := Int.eq_ofNat_of_zero_le (show 0 ≤ n by omega)
  have e : resolveI l (m : Int) = resolveN l m := by rw [resolveI, if_pos h', Int.toNat_natCast]
  rw [e]
  refine t_skip ?_
  refine t_seq ?_
  refine t_seq ?_
  refine t_region ?_
  refine l_p rfl rfl (p_move rfl) ?_
  refine l_p rfl rfl (p_lensl (by exact rfl)) ?_
  refine l_p rfl rfl (p_move rfl) ?_
  refine l_nil ?_
  refine t_block ?_
  refine t_loop (ι := Nat × Option Addr × Nat × List Res) { E := fun i => [(1, i64 m), (16, .slice A0 l.length c0), (17, i64 l.length), (18, i64 i.1), (5, .slice i.2.1 (resolveN (l.take i.1) m).length i.2.2.1)], S := fun _ => σ, M := fun i => own 2 esn 32 (.slice i.2.1 (resolveN (l.take i.1) m).length i.2.2.1) (resolveN (l.take i.1) m) :: (i.2.2.2 ++ F), Φ := fun i => i.1 ≤ l.length ∧ (resolveN (l.take i.1) m).length ≤ i.1 } (fun i => l.length - i.1) (0, none, 0, [])
    (by exact ⟨rfl, rfl, rfl, rfl, rfl, trivial⟩) ⟨Nat.zero_le _, by simp [resolveN]⟩ (fun w hI => hI.own0 ..) ?_
  rintro ⟨i, A, cc, R⟩ ⟨h3, h4⟩
  dsimp only at h3 h4 ⊢
  refine t_seq ?_
  refine t_region ?_
  refine l_p rfl rfl (p_lt rfl rfl) ?_
  refine l_nil ?_
  refine t_seq ?_
  refine t_ifd rfl (fun h5 => ?_) (fun h5 => ?_)
  · have hi : i < l.length := by omega
    have hstep : resolveN (l.take (i + 1)) m = addR (resolveN (l.take i) m) m l[i] := by rw [take_succ l i hi, resolveN_snoc]
    generalize hout : resolveN (l.take i) m = out at *
    have hnx : ∀ (w : World) (R' : List Res), resolveN (l.take (i + 1)) m = out → Sp.Inv σ (own 2 esn 32 (.slice A out.length cc) out :: (R' ++ F)) w → Sp.Inv σ (own 2 esn 32 (.slice A (resolveN (l.take (i + 1)) m).length cc) (resolveN (l.take (i + 1)) m) :: (R' ++ F)) w := fun w R' e hI => by rw [e]; exact hI
    refine t_skip ?_
    refine t_seq ?_
    refine t_block ?_
    refine t_seq ?_
    refine t_region ?_
    refine l_p rfl rfl (p_ix _ (by exact rfl) (by exact rfl) (by exact rfl) (by omega) (Rds.ix (by assumption) (by omega))) ?_
    refine l_p rfl rfl (p_ldn (by exact rfl) (Rds.ix (by assumption) (by omega)) (by exact rfl) (by exact rfl)) ?_
    refine l_alloc (by exact rfl) (by exact rfl) (by exact rfl) ?_; intro _
    refine l_sti rfl rfl rfl rfl rfl (by exact rfl) (by exact rfl) (by exact rfl) (by exact ⟨rfl, rfl⟩) ?_
    refine l_nil ?_
    refine t_seq ?_
    refine t_seq ?_
    refine t_region ?_
    refine l_p rfl rfl (p_ldn (by exact rfl) Rds.bxi (by exact rfl) (by exact rfl)) ?_
    refine l_callv rfl rfl rfl (rscright σ _ _ _) ?_
    refine l_p rfl rfl (p_not rfl) ?_
    refine l_nil ?_
    refine t_if rfl (fun h6 => ?_) (fun h6 => ?_)
    · have h6' : rightS l[i] = false := by simpa using h6
      rw [addR, if_neg (by simp [h6'])] at hstep
      refine t_exit rfl ?_
      refine t_region ?_
      refine l_p rfl rfl (p_add rfl rfl (by omega)) ?_
      refine l_p rfl rfl (p_move rfl) ?_
      refine l_nil ?_
      exact t_round (i + 1, A, cc, _ :: R) ⟨rfl, rfl, rfl, gi rfl (by omega), gs rfl (by rw [hstep]), trivial⟩ ⟨by simp only; omega, by simp only [hstep]; omega⟩ (by show l.length - (i + 1) < l.length - i; omega) (fun w hI => hnx w (_ :: R) hstep (hI.perm (.swap ..)))
    have h6' : rightS l[i] = true := by simpa using h6
    have hbd := rightS_bd h6'
    clear h6
    obtain ⟨x, hx⟩ : ∃ x, x = l[i] := ⟨_, rfl⟩
    obtain ⟨k, a, b⟩ := x
    simp only [← hx] at h6' hbd hstep ⊢
    refine t_skip ?_
    repeat (refine t_seq ?_)
    refine t_region ?_
    refine l_p rfl rfl (p_fa (by exact rfl) Rds.bxi) ?_
    refine l_p rfl rfl (p_ld1 (by exact rfl) (Rds.fld Rds.bxi (by exact rfl))) ?_
    refine l_p rfl rfl (p_move rfl) ?_
    refine l_p rfl rfl (p_build (by exact rfl) (by exact rfl) (by exact rfl) (by exact rfl)) ?_
    refine l_alloc (by exact rfl) (by exact rfl) (by exact rfl) ?_; intro _
    refine l_sti rfl rfl rfl rfl rfl (by exact rfl) (by exact rfl) (by exact rfl) (by exact ⟨rfl, rfl⟩) ?_
    refine l_nil ?_
    rename_i b7 b8
    obtain ⟨tt, htt⟩ : ∃ tt : Nat, tt = if k = 2 then min b (m - 1) + 1 else m := ⟨_, rfl⟩
    have hk : k = 1 ∨ k = 2 ∨ k = 3 := by
      have h3' : rightS (k, a, b) = true := h6'
      simp only [rightS] at h3'
      split at h3'
      · omega
      split at h3'
      · omega
      · cases h3'
    have ho3 : k = 3 → oneN (k, a, b) m = (m - min a m, tt) := by
      rintro rfl
      rw [htt]; rfl
    have ho12 : ¬ k = 3 → oneN (k, a, b) m = (a, tt) := fun h => by
      rcases hk with rfl | rfl | rfl
      · rw [htt]; rfl
      · rw [htt]; rfl
      · exact absurd rfl h
    refine t_seq ?_
    refine t_cut (ι := Unit) { E := fun _ => [(1, i64 m), (7, .pointer (some ⟨b7, 0, none⟩)), (8, .pointer (some ⟨b8, 0, none⟩)), (16, .slice A0 l.length c0), (17, i64 l.length), (18, i64 i), (5, .slice A out.length cc)], S := fun _ => σ, M := fun _ => Bx b8 [i64 a, i64 tt] 32 :: Bx b7 [i64 k, i64 a, i64 b] 61 :: own 2 esn 32 (.slice A out.length cc) out :: (R ++ F), Φ := fun _ => True } ?_ ?_
    · refine t_seq ?_
      refine t_region ?_
      refine l_p rfl rfl (p_fa (by exact rfl) Rds.bxi) ?_
      refine l_p rfl rfl (p_ld1 (by exact rfl) Rds.bxi) ?_
      refine l_p rfl rfl (p_eq rfl rfl) ?_
      refine l_p rfl rfl (p_move rfl) ?_
      refine l_split 32 rfl (fun h7 => ?_) (fun h7 => ?_)
      · rw [if_pos (by omega)] at htt
        refine l_p rfl rfl (p_fa (by exact rfl) Rds.bxi) ?_
        refine l_p rfl rfl (p_ld1 (by exact rfl) (Rds.fld Rds.bxi (by exact rfl))) ?_
        refine l_p rfl rfl (p_move rfl) ?_
        refine l_p rfl rfl (p_sub rfl rfl (by omega)) ?_
        refine l_p rfl rfl (p_lt rfl rfl) ?_
        refine l_p rfl rfl (p_pickt rfl rfl) ?_
        refine l_nil ?_
        refine t_ifd rfl (fun h8 => ?_) (fun h8 => ?_)
        · refine t_region ?_
          refine l_p rfl rfl (p_fa (by exact rfl) Rds.bxi) ?_
          refine l_p rfl rfl (p_ld1 (by exact rfl) (Rds.fld Rds.bxi (by exact rfl))) ?_
          refine l_p rfl rfl (p_add rfl rfl (by omega)) ?_
          refine l_p rfl rfl (p_fa (by exact rfl) Rds.bxi) ?_
          refine l_sti rfl rfl rfl rfl rfl (by exact rfl) (by exact rfl) (by exact rfl) (by exact ⟨rfl, rfl⟩) ?_
          refine l_nil ?_
          exact t_back () ⟨rfl, rfl, rfl, rfl, rfl, rfl, rfl, trivial⟩ trivial (fun w hI => by rw [show i64 tt = i64 ((b : Int) + 1) by rw [htt]; congr 1; omega]; exact hI)
        · refine t_skip ?_
          exact t_back () ⟨rfl, rfl, rfl, rfl, rfl, rfl, rfl, trivial⟩ trivial (fun w hI => by rw [show i64 tt = i64 m by rw [htt]; congr 1; omega]; exact hI)
      · rw [if_neg (by omega)] at htt
        subst htt
        refine l_skip rfl rfl ?_
        refine l_skip rfl rfl ?_
        refine l_skip rfl rfl ?_
        refine l_skip rfl rfl ?_
        refine l_skip rfl rfl ?_
        refine l_p rfl rfl (p_pickf rfl rfl) ?_
        refine l_nil ?_
        refine t_iff rfl ?_
        refine t_skip ?_
        exact t_back () ⟨rfl, rfl, rfl, rfl, rfl, rfl, rfl, trivial⟩ trivial (fun w hI => hI)
    intro _ _
    dsimp only
    refine t_seq ?_
    refine t_cut (ι := Unit) { E := fun _ => [(1, i64 m), (7, .pointer (some ⟨b7, 0, none⟩)), (8, .pointer (some ⟨b8, 0, none⟩)), (16, .slice A0 l.length c0), (17, i64 l.length), (18, i64 i), (5, .slice A out.length cc)], S := fun _ => σ, M := fun _ => Bx b8 (esn (oneN (k, a, b) m)) 32 :: Bx b7 [i64 k, i64 a, i64 b] 61 :: own 2 esn 32 (.slice A out.length cc) out :: (R ++ F), Φ := fun _ => True } ?_ ?_
    · refine t_seq ?_
      refine t_region ?_
      refine l_p rfl rfl (p_fa (by exact rfl) Rds.bxi) ?_
      refine l_p rfl rfl (p_ld1 (by exact rfl) Rds.bxi) ?_
      refine l_p rfl rfl (p_eq rfl rfl) ?_
      refine l_nil ?_
      refine t_ifd rfl (fun h7 => ?_) (fun h7 => ?_)
      · have hk3 : k = 3 := by omega
        refine t_seq ?_
        refine t_region ?_
        refine l_p rfl rfl (p_fa (by exact rfl) Rds.bxi) ?_
        refine l_sti rfl rfl rfl rfl rfl (by exact rfl) (by exact rfl) (by exact rfl) (by exact ⟨rfl, rfl⟩) ?_
        refine l_nil ?_
        refine t_seq ?_
        refine t_region ?_
        refine l_p rfl rfl (p_fa (by exact rfl) Rds.bxi) ?_
        refine l_p rfl rfl (p_ld1 (by exact rfl) (Rds.fld Rds.bxi (by exact rfl))) ?_
        refine l_p rfl rfl (p_move rfl) ?_
        refine l_p rfl rfl (p_lt rfl rfl) ?_
        refine l_nil ?_
        refine t_ifd rfl (fun h8 => ?_) (fun h8 => ?_)
        · refine t_region ?_
          refine l_p rfl rfl (p_move rfl) ?_
          refine l_p rfl rfl (p_fa (by exact rfl) Rds.bxi) ?_
          refine l_p rfl rfl (p_ld1 (by exact rfl) (Rds.fld Rds.bxi (by exact rfl))) ?_
          refine l_p rfl rfl (p_sub rfl rfl (by omega)) ?_
          refine l_p rfl rfl (p_fa (by exact rfl) Rds.bxi) ?_
          refine l_sti rfl rfl rfl rfl rfl (by exact rfl) (by exact rfl) (by exact rfl) (by exact ⟨rfl, rfl⟩) ?_
          refine l_nil ?_
          exact t_back () ⟨rfl, rfl, rfl, rfl, rfl, rfl, rfl, trivial⟩ trivial (fun w hI => by rw [show esn (oneN (k, a, b) m) = [i64 ((m : Int) - a), i64 tt] by rw [ho3 hk3]; show [i64 _, i64 _] = _; congr 2; simp only; omega]; exact hI)
        · refine t_skip ?_
          exact t_back () ⟨rfl, rfl, rfl, rfl, rfl, rfl, rfl, trivial⟩ trivial (fun w hI => by rw [show esn (oneN (k, a, b) m) = [.int .i64 0, i64 tt] by rw [ho3 hk3]; show [i64 _, i64 _] = _; congr 2; simp only; omega]; exact hI)
      · refine t_skip ?_
        exact t_back () ⟨rfl, rfl, rfl, rfl, rfl, rfl, rfl, trivial⟩ trivial (fun w hI => by rw [ho12 (by omega)]; exact hI)
    intro _ _
    dsimp only
    refine t_seq ?_
    refine t_region ?_
    refine l_p rfl rfl (p_ldn (by exact rfl) Rds.bxi (by exact rfl) (by exact rfl)) ?_
    refine l_callv rfl rfl rfl (rspright σ _ _) ?_
    refine l_nil ?_
    refine t_if rfl (fun h7 => ?_) (fun h7 => ?_)
    · have h7' : rightN (oneN (k, a, b) m) = true := h7
      rw [addR, if_pos ⟨h6', h7'⟩] at hstep
      refine t_region ?_
      refine l_p rfl rfl (p_move rfl) ?_
      refine l_p rfl rfl (p_ldn (by exact rfl) Rds.bxi (by exact rfl) (by exact rfl)) ?_
      refine l_bsl (by exact rfl) (by exact rfl) (by exact rfl) (by exact rfl) (by exact rfl) (by exact rfl) (by exact rfl) ?_; intro _
      refine l_app1 (enc := esn) (oneN (k, a, b) m) rfl rfl rfl rfl (.s (.s (.s .z))) .z (by exact rfl) rfl (by exact rfl) (by exact rfl) (by omega) (by omega) fun A' cc' => ?_
      refine l_p rfl rfl (p_assign rfl) ?_
      refine l_nil ?_
      refine t_blk ?_
      refine t_region ?_
      refine l_p rfl rfl (p_add rfl rfl (by omega)) ?_
      refine l_p rfl rfl (p_move rfl) ?_
      refine l_nil ?_
      exact t_round (i + 1, A', cc', _ :: _ :: _ :: R) ⟨rfl, rfl, rfl, gi rfl (by omega), gs rfl (by rw [hstep]; simp), trivial⟩ ⟨by simp only; omega, by simp only [hstep]; simp; omega⟩ (by show l.length - (i + 1) < l.length - i; omega) (fun w hI => Inv.oc (by rw [hstep]; simp) hstep.symm hI)
    · have h7' : rightN (oneN (k, a, b) m) = false := h7
      rw [addR, if_neg (by simp [h7'])] at hstep
      refine t_skip ?_
      refine t_blk ?_
      refine t_region ?_
      refine l_p rfl rfl (p_add rfl rfl (by omega)) ?_
      refine l_p rfl rfl (p_move rfl) ?_
      refine l_nil ?_
      exact t_round (i + 1, A, cc, _ :: _ :: R) ⟨rfl, rfl, rfl, gi rfl (by omega), gs rfl (by rw [hstep]), trivial⟩ ⟨by simp only; omega, by simp only [hstep]; omega⟩ (by show l.length - (i + 1) < l.length - i; omega) (fun w hI => hnx w (_ :: _ :: R) hstep (hI.out (.s (.s .z))))
  · have hn : i = l.length := by omega
    subst hn
    simp only [List.take_length] at *
    refine t_exit rfl ?_
    refine t_seq ?_
    refine t_region ?_
    refine l_p rfl rfl (p_move rfl) ?_
    refine l_p rfl rfl (p_assign rfl) ?_
    refine l_nil ?_
    refine t_fzo .z fun σ' hσ hS => ?_
    exact t_ret1 rfl rfl fun w hI => ⟨σ', hσ, hS, hI.dropN R⟩
end Go.Proofs.YtfglenbfbcckjaaGreatDoor
