/- Chapter 9: IfrangeChooses: the law's walk. -/
import Derived.Test.YtfglenbfbcckjaaGreatDoorWref9c
import Derived.Test.YtfglenbfbcckjaaGreatDoorWlaw9
set_option linter.unusedVariables false
set_option linter.unusedSimpArgs false
set_option maxRecDepth 20000
namespace Go.Proofs.YtfglenbfbcckjaaGreatDoor
open Go.Sp
attribute [local irreducible] Go.Sp.Pr Go.Sp.Ws Go.Sp.Wl Go.Sp.Wq Go.Sp.Rds Go.Sp.Src
theorem wants_len (status : Nat) (l : List N2) (n : Int) : (wantsN status l n).length ≤ l.length + 1 := by
  unfold wantsN
  split
  · omega
  split <;> simp
set_option maxHeartbeats 400000 in
theorem chooses_walk (σ : Stb) (header cond tag : List UInt8) (n : Int) (hn : -9223372036854775808 ≤ n ∧ n ≤ 9223372036854775807) :
    Sp0 Tryz.prog 3 [st header, st cond, st tag, i64 n] σ fun v _ => v = .bool true := by
  refine sp0 Tryz.func3 rfl (by kernel_rfl) rfl fun F => ?_
  refine t_seq ?_
  refine t_region ?_
  refine l_p rfl rfl (p_assign rfl) ?_
  refine l_nil ?_
  refine t_seq ?_
  refine t_seq ?_
  refine t_region ?_
  refine l_call0 rfl rfl rfl (awake_walk σ) ?_
  rintro _ σ0 hσ0 rfl
  have hret : ∀ w, Inv σ0 F w → ∃ σ', σ.le σ' ∧ Value.bool true = .bool true ∧ Inv σ' F w := fun w hI => ⟨σ0, hσ0, rfl, hI⟩
  refine l_p rfl rfl (p_nott rfl) ?_
  refine l_nil ?_
  refine t_iff rfl ?_
  refine t_skip ?_
  refine t_seq ?_
  refine t_seq ?_
  refine t_region ?_
  refine l_p rfl rfl (p_move rfl) ?_
  refine l_p rfl rfl (p_lens (by exact rfl)) ?_
  refine l_p rfl rfl (p_gt rfl rfl) ?_
  refine l_p rfl rfl (p_move rfl) ?_
  refine l_split 21 rfl (fun h => ?_) (fun g1 => ?_)
  · refine l_skip rfl rfl ?_
    refine l_skip rfl rfl ?_
    refine l_skip rfl rfl ?_
    refine l_p rfl rfl (p_pickt rfl rfl) ?_
    refine l_p rfl rfl (p_move rfl) ?_
    refine l_skip rfl rfl ?_
    refine l_skip rfl rfl ?_
    refine l_skip rfl rfl ?_
    refine l_p rfl rfl (p_pickt rfl rfl) ?_
    refine l_nil ?_
    refine t_ift rfl ?_
    refine t_seq ?_
    refine t_region ?_
    refine l_p rfl rfl (p_assign rfl) ?_
    refine l_nil ?_
    exact t_ret1 rfl rfl hret
  refine l_p rfl rfl (p_move rfl) ?_
  refine l_p rfl rfl (p_lens (by exact rfl)) ?_
  refine l_p rfl rfl (p_gt rfl rfl) ?_
  refine l_p rfl rfl (p_pickf rfl rfl) ?_
  refine l_p rfl rfl (p_move rfl) ?_
  refine l_split 26 rfl (fun h => ?_) (fun g2 => ?_)
  · refine l_skip rfl rfl ?_
    refine l_skip rfl rfl ?_
    refine l_skip rfl rfl ?_
    refine l_p rfl rfl (p_pickt rfl rfl) ?_
    refine l_nil ?_
    refine t_ift rfl ?_
    refine t_seq ?_
    refine t_region ?_
    refine l_p rfl rfl (p_assign rfl) ?_
    refine l_nil ?_
    exact t_ret1 rfl rfl hret
  refine l_p rfl rfl (p_move rfl) ?_
  refine l_p rfl rfl (p_lens (by exact rfl)) ?_
  refine l_p rfl rfl (p_gt rfl rfl) ?_
  refine l_p rfl rfl (p_pickf rfl rfl) ?_
  refine l_nil ?_
  refine t_ifd rfl (fun h => ?_) (fun g3 => ?_)
  · refine t_seq ?_
    refine t_region ?_
    refine l_p rfl rfl (p_assign rfl) ?_
    refine l_nil ?_
    exact t_ret1 rfl rfl hret
  clear hret
  refine t_skip ?_
  refine t_seq ?_
  refine t_region ?_
  refine l_p rfl rfl (p_move rfl) ?_
  refine l_p rfl rfl (p_move rfl) ?_
  refine l_p rfl rfl (p_move rfl) ?_
  refine l_p rfl rfl (p_move rfl) ?_
  refine l_call0 rfl rfl rfl (schoose σ0 header cond tag n (by omega) (by omega)) ?_
  rintro _ σ1 hσ1 ⟨status, sv, l, rfl, hS, hC⟩
  obtain ⟨A, cc, rfl⟩ : ∃ A c, sv = .slice A l.length c := by obtain ⟨⟨A, c, h, _⟩, _⟩ := hS; exact ⟨A, c, h⟩
  have hR := choice_ref hC
  have hlen : l.length ≤ 16 := by
    have h1 := specs_len header
    have h2 := resolve_len (specs header).1 n
    have e : l = (refSpans header cond tag n).2 := by rw [← hR]
    rw [e]
    unfold refSpans
    split
    · simp
    split
    · simp
    split
    · have h3 := mergeL_len 0 (isort (resolveI (specs header).1 n))
      have h4 := isort_len (resolveI (specs header).1 n)
      simp only [refMerge]; omega
    · simp only; omega
  refine l_alloc (by exact rfl) (by exact rfl) (by exact rfl) ?_; intro _
  refine l_sti rfl rfl rfl rfl rfl (by exact rfl) (by exact rfl) (by exact rfl) (by exact ⟨rfl, rfl⟩) ?_
  refine l_nil ?_
  refine t_seq ?_
  refine t_region ?_
  refine l_p rfl rfl (p_move rfl) ?_
  refine l_p rfl rfl (p_move rfl) ?_
  refine l_p rfl rfl (p_move rfl) ?_
  refine l_p rfl rfl (p_move rfl) ?_
  rename_i bc
  refine l_call0 rfl rfl rfl (rchoose σ1 header cond tag n (by omega) (by omega) hn) ?_
  rintro _ σ2 hσ2 ⟨sv2, rfl, hS2⟩
  rw [← hR] at hS2 ⊢
  simp only at hS2 ⊢
  obtain ⟨A2, c2, rfl⟩ : ∃ A c, sv2 = .slice A l.length c := by obtain ⟨⟨A, c, h, _⟩, _⟩ := hS2; exact ⟨A, c, h⟩
  refine l_p rfl rfl (p_move rfl) ?_
  refine l_p rfl rfl (p_ext rfl rfl) ?_
  refine l_p rfl rfl (p_ext rfl rfl) ?_
  refine l_p rfl rfl (p_assign rfl) ?_
  refine l_p rfl rfl (p_assign rfl) ?_
  refine l_nil ?_
  refine t_seq ?_
  refine t_region ?_
  refine l_p rfl rfl (p_move rfl) ?_
  refine l_p rfl rfl (p_move rfl) ?_
  refine l_p rfl rfl (p_move rfl) ?_
  refine l_call0 rfl rfl rfl (rwants status n hn.2 hS2) ?_
  intro v3 σ3 hσ3 hS3
  have hwl := wants_len status l n
  generalize hw : wantsN status l n = ws at *
  obtain ⟨A3, c3, rfl⟩ : ∃ A c, v3 = .slice A ws.length c := by obtain ⟨⟨A, c, h, _⟩, _⟩ := hS3; exact ⟨A, c, h⟩
  refine l_p rfl rfl (p_assign rfl) ?_
  refine l_nil ?_
  refine t_seq ?_
  refine t_region ?_
  refine l_p rfl rfl (p_assign rfl) ?_
  refine l_nil ?_
  refine t_seq ?_
  refine t_seq ?_
  refine t_region ?_
  refine l_p rfl rfl (p_move rfl) ?_
  refine l_p rfl rfl (p_lensl (by exact rfl)) ?_
  refine l_p rfl rfl (p_move rfl) ?_
  refine l_nil ?_
  refine t_block ?_
  refine t_loop (ι := Nat × List Res) { E := fun i => [(3, i64 n), (9, .pointer (some ⟨bc, 0, none⟩)), (10, i64 status), (11, .slice A2 l.length c2), (12, .slice A3 ws.length c3), (13, .int .u64 (sumN (ws.take i.1) : Nat)), (48, .slice A3 ws.length c3), (49, i64 ws.length), (50, i64 i.1)], S := fun _ => σ3, M := fun i => Bx bc [i64 status, .slice A l.length cc] 25 :: (i.2 ++ F), Φ := fun i => i.1 ≤ ws.length } (fun i => ws.length - i.1) (0, [])
    (by exact ⟨rfl, rfl, rfl, rfl, rfl, rfl, rfl, rfl, rfl, trivial⟩) (Nat.zero_le _) (fun w hI => hI) ?_
  rintro ⟨i, R⟩ h1
  dsimp only at h1 ⊢
  refine t_seq ?_
  refine t_region ?_
  refine l_p rfl rfl (p_lt rfl rfl) ?_
  refine l_nil ?_
  refine t_seq ?_
  refine t_ifd rfl (fun h5 => ?_) (fun h5 => ?_)
  · have hi : i < ws.length := by omega
    have hsum : sumN (ws.take (i + 1)) = min maxNum (sumN (ws.take i) + if rightN ws[i] = true then ws[i].2 - ws[i].1 else 0) := by rw [take_succ ws i hi, sumN_snoc]
    have hle := sumN_le (ws.take i)
    simp only [maxNum] at hsum hle
    refine t_skip ?_
    refine t_seq ?_
    refine t_block ?_
    refine t_seq ?_
    refine t_region ?_
    refine l_p rfl rfl (p_ix _ (by exact rfl) (by exact rfl) (by exact rfl) (by omega) (Rds.ix (by assumption) (by omega))) ?_
    refine l_p rfl rfl (p_ldn (by exact rfl) (Rds.ix (by assumption) (by omega)) (by exact rfl) (by exact rfl)) ?_
    refine l_alloc (by exact rfl) (by exact rfl) (by exact rfl) ?_; intro _
    refine l_sti rfl rfl rfl rfl rfl (by exact rfl) (by exact rfl) (by exact rfl) (by exact ⟨rfl, rfl⟩) ?_
    refine l_nil ?_
    refine t_seq ?_
    refine t_seq ?_
    refine t_region ?_
    refine l_p rfl rfl (p_ldn (by exact rfl) Rds.bxi (by exact rfl) (by exact rfl)) ?_
    refine l_callv rfl rfl rfl (rspright σ3 ws[i].1 ws[i].2) ?_
    refine l_nil ?_
    refine t_if rfl (fun h6 => ?_) (fun h6 => ?_)
    · have h6' : rightN ws[i] = true := h6
      have h7 := h6'
      simp only [rightN, Bool.and_eq_true, decide_eq_true_eq] at h7
      rw [if_pos h6'] at hsum
      refine t_region ?_
      refine l_p rfl rfl (p_move rfl) ?_
      refine l_p rfl rfl (p_fa (by exact rfl) Rds.bxi) ?_
      refine l_p rfl rfl (p_ld1 (by exact rfl) (Rds.fld Rds.bxi (by exact rfl))) ?_
      refine l_p rfl rfl (p_fa (by exact rfl) Rds.bxi) ?_
      refine l_p rfl rfl (p_ld1 (by exact rfl) Rds.bxi) ?_
      refine l_p rfl rfl (p_sub rfl rfl (by omega)) ?_
      refine l_p rfl rfl (p_convu64 (by exact rfl) (by omega)) ?_
      refine l_p rfl rfl (p_addq rfl rfl (by omega)) ?_
      refine l_p rfl rfl (p_assign rfl) ?_
      refine l_nil ?_
      refine t_seq ?_
      refine t_region ?_
      refine l_p rfl rfl (p_move rfl) ?_
      refine l_p rfl rfl (p_gt rfl rfl) ?_
      refine l_nil ?_
      refine t_ifd rfl (fun h8 => ?_) (fun h8 => ?_)
      · refine t_region ?_
        refine l_p rfl rfl (p_assign rfl) ?_
        refine l_nil ?_
        refine t_blk ?_
        refine t_region ?_
        refine l_p rfl rfl (p_add rfl rfl (by omega)) ?_
        refine l_p rfl rfl (p_move rfl) ?_
        refine l_nil ?_
        exact t_round (i + 1, _ :: R) ⟨rfl, rfl, rfl, rfl, rfl, gi rfl (by rw [hsum]; omega), rfl, rfl, gi rfl (by omega), trivial⟩ (by simp only; omega) (by show ws.length - (i + 1) < ws.length - i; omega) (fun w hI => hI.perm (.swap ..))
      · refine t_skip ?_
        refine t_blk ?_
        refine t_region ?_
        refine l_p rfl rfl (p_add rfl rfl (by omega)) ?_
        refine l_p rfl rfl (p_move rfl) ?_
        refine l_nil ?_
        exact t_round (i + 1, _ :: R) ⟨rfl, rfl, rfl, rfl, rfl, gi rfl (by rw [hsum]; omega), rfl, rfl, gi rfl (by omega), trivial⟩ (by simp only; omega) (by show ws.length - (i + 1) < ws.length - i; omega) (fun w hI => hI.perm (.swap ..))
    · have h6' : ¬ rightN ws[i] = true := by simpa using h6
      rw [if_neg h6'] at hsum
      refine t_skip ?_
      refine t_seq ?_
      refine t_region ?_
      refine l_p rfl rfl (p_move rfl) ?_
      refine l_p rfl rfl (p_gt rfl rfl) ?_
      refine l_nil ?_
      refine t_ifd rfl (fun h => by omega) (fun _ => ?_)
      refine t_skip ?_
      refine t_blk ?_
      refine t_region ?_
      refine l_p rfl rfl (p_add rfl rfl (by omega)) ?_
      refine l_p rfl rfl (p_move rfl) ?_
      refine l_nil ?_
      exact t_round (i + 1, _ :: R) ⟨rfl, rfl, rfl, rfl, rfl, gi rfl (by rw [hsum]; omega), rfl, rfl, gi rfl (by omega), trivial⟩ (by simp only; omega) (by show ws.length - (i + 1) < ws.length - i; omega) (fun w hI => hI.perm (.swap ..))
  · have hn' : i = ws.length := by omega
    subst hn'
    rw [List.take_length]
    have hle := sumN_le ws
    simp only [maxNum] at hle
    have hSa := (hS.up hσ2).up hσ3
    have hSb := hS2.up hσ3
    refine t_exit rfl ?_
    refine t_seq ?_
    refine t_region ?_
    refine l_p rfl rfl (p_fa (by exact rfl) Rds.bxi) ?_
    refine l_p rfl rfl (p_ld1 (by exact rfl) Rds.bxi) ?_
    refine l_p rfl rfl (p_move rfl) ?_
    refine l_p rfl rfl (p_eq rfl rfl) ?_
    refine l_p rfl rfl (p_move rfl) ?_
    refine l_split 71 rfl (fun _ => ?_) (fun h => by omega)
    refine l_p rfl rfl (p_fa (by exact rfl) Rds.bxi) ?_
    refine l_p rfl rfl (p_ld1 (by exact rfl) (Rds.fld Rds.bxi (by exact rfl))) ?_
    refine l_p rfl rfl (p_move rfl) ?_
    refine l_callv rfl rfl rfl (rspans hSa hSb rfl) ?_
    refine l_p rfl rfl (p_pickt rfl rfl) ?_
    refine l_p rfl rfl (p_move rfl) ?_
    refine l_p rfl rfl (p_ldn (by exact rfl) Rds.bxi (by exact rfl) (by exact rfl)) ?_
    refine l_p rfl rfl (p_move rfl) ?_
    refine l_call0 rfl rfl rfl (swants status n hn.2 (by omega) hSa) ?_
    intro v4 σ4 hσ4 hS4
    rw [hw] at hS4
    obtain ⟨A4, c4, rfl⟩ : ∃ A c, v4 = .slice A ws.length c := by obtain ⟨⟨A, c, h, _⟩, _⟩ := hS4; exact ⟨A, c, h⟩
    refine l_p rfl rfl (p_move rfl) ?_
    refine l_callv rfl rfl rfl (rspans hS4 (hS3.up hσ4) rfl) ?_
    refine l_p rfl rfl (p_pickt rfl rfl) ?_
    refine l_p rfl rfl (p_move rfl) ?_
    refine l_p rfl rfl (p_ldn (by exact rfl) Rds.bxi (by exact rfl) (by exact rfl)) ?_
    refine l_callv rfl rfl rfl (smany σ4 A status l.length cc) ?_
    have hsm : SpV Tryz.prog 12 [vch status A l.length cc, i64 n] σ4 (i64 (sumN ws)) := hw ▸ sbytes status n hn.2 (by omega) (hSa.up hσ4)
    have hfin : ∀ w, Inv σ4 (Bx bc [i64 status, .slice A l.length cc] 25 :: (R ++ F)) w → ∃ σ', σ.le σ' ∧ Value.bool true = .bool true ∧ Inv σ' F w := fun w hI => ⟨σ4, (((hσ0.trans hσ1).trans hσ2).trans hσ3).trans hσ4, rfl, Inv.dropN (_ :: R) hI⟩
    refine l_p rfl rfl (p_move rfl) ?_
    refine l_p rfl rfl (p_eq rfl rfl) ?_
    refine l_p rfl rfl (p_move rfl) ?_
    refine l_split 89 rfl (fun h9 => ?_) (fun h9 => ?_)
    · have h9' : status = 206 := by omega
      have hbe : ((decide (status = 206) && decide (1 < l.length)) == decide ((1 : Int) < (l.length : Nat))) = true := by
        rw [beq_iff_eq, Bool.eq_iff_iff]; simp [h9']; omega
      refine l_p rfl rfl (p_move rfl) ?_
      refine l_p rfl rfl (p_lensl (by exact rfl)) ?_
      refine l_p rfl rfl (p_gt rfl rfl) ?_
      refine l_p rfl rfl (p_pickt rfl rfl) ?_
      refine l_p rfl rfl (p_beq rfl rfl) ?_
      refine l_p rfl rfl (p_pickt rfl rfl) ?_
      refine l_p rfl rfl (p_move rfl) ?_
      rw [hbe]
      refine l_p rfl rfl (p_ldn (by exact rfl) Rds.bxi (by exact rfl) (by exact rfl)) ?_
      refine l_p rfl rfl (p_move rfl) ?_
      refine l_callv rfl rfl rfl hsm ?_
      refine l_p rfl rfl (p_convu64 (by exact rfl) (by omega)) ?_
      refine l_p rfl rfl (p_move rfl) ?_
      refine l_p rfl rfl (p_eq rfl rfl) ?_
      refine l_p rfl rfl (p_pickt rfl rfl) ?_
      refine l_p rfl rfl (p_move rfl) ?_
      refine l_split 104 rfl (fun _ => ?_) (fun h => by omega)
      refine l_p rfl rfl (p_move rfl) ?_
      refine l_callv rfl rfl rfl (swhole σ4 n) ?_
      refine l_p rfl rfl (p_fld1 rfl rfl) ?_
      refine l_p rfl rfl (p_eq rfl rfl) ?_
      refine l_p rfl rfl (p_pickt rfl rfl) ?_
      refine l_p rfl rfl (p_assign rfl) ?_
      refine l_nil ?_
      exact t_ret1 rfl rfl hfin
    · have h9' : ¬ status = 206 := by omega
      have hbe : ((decide (status = 206) && decide (1 < l.length)) == false) = true := by simp [h9']
      refine l_skip rfl rfl ?_
      refine l_skip rfl rfl ?_
      refine l_skip rfl rfl ?_
      refine l_p rfl rfl (p_pickf rfl rfl) ?_
      refine l_p rfl rfl (p_beq rfl rfl) ?_
      refine l_p rfl rfl (p_pickt rfl rfl) ?_
      refine l_p rfl rfl (p_move rfl) ?_
      rw [hbe]
      refine l_p rfl rfl (p_ldn (by exact rfl) Rds.bxi (by exact rfl) (by exact rfl)) ?_
      refine l_p rfl rfl (p_move rfl) ?_
      refine l_callv rfl rfl rfl hsm ?_
      refine l_p rfl rfl (p_convu64 (by exact rfl) (by omega)) ?_
      refine l_p rfl rfl (p_move rfl) ?_
      refine l_p rfl rfl (p_eq rfl rfl) ?_
      refine l_p rfl rfl (p_pickt rfl rfl) ?_
      refine l_p rfl rfl (p_move rfl) ?_
      refine l_split 104 rfl (fun _ => ?_) (fun h => by omega)
      refine l_p rfl rfl (p_move rfl) ?_
      refine l_callv rfl rfl rfl (swhole σ4 n) ?_
      refine l_p rfl rfl (p_fld1 rfl rfl) ?_
      refine l_p rfl rfl (p_eq rfl rfl) ?_
      refine l_p rfl rfl (p_pickt rfl rfl) ?_
      refine l_p rfl rfl (p_assign rfl) ?_
      refine l_nil ?_
      exact t_ret1 rfl rfl hfin
end Go.Proofs.YtfglenbfbcckjaaGreatDoor
