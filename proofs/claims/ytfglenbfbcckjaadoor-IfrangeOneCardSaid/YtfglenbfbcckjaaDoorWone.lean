/- Chapter 9: IfrangeOne: the law's walk. -/
import Derived.Test.YtfglenbfbcckjaaDoorWlaw9b
set_option linter.unusedVariables false
set_option linter.unusedSimpArgs false
set_option maxRecDepth 20000
namespace Go.Proofs.YtfglenbfbcckjaaDoor
open Go.Sp
attribute [local irreducible] Go.Sp.Pr Go.Sp.Ws Go.Sp.Wl Go.Sp.Wq Go.Sp.Rds Go.Sp.Src
theorem choice_both {a b m status : Nat} {tag : List UInt8} {spans : List N2} (hab : a ≤ b) (hb : b ≤ 1099511627776) (h1 : 1 ≤ m) (hm : m ≤ 1099511627776) (h : ChoiceP (bytesEq ++ shown (2, a, b)) [] tag m status spans) :
    if a < m then status = 206 ∧ spans = [(a, min (b + 1) m)] else status = 416 ∧ spans = [] := by
  unfold ChoiceP at h
  rw [specs_both hab (by simp only [maxNum]; omega), awake_use] at h
  have hr : resolveI [(2, a, b)] (m : Int) = if a < m then [(a, min (b + 1) m)] else [] := by
    have e : min b (m - 1) + 1 = min (b + 1) m := by omega
    have hb' : b ≤ 4611686018427387903 := by omega
    rw [resolveI, if_pos (by omega)]
    simp only [Int.toNat_natCast, resolveN, List.foldl_cons, List.foldl_nil, addR, oneN, rightS, rightN, Nat.reduceEqDiff, if_true, if_false, e]
    by_cases h : a < m
    · have h2 : a < min (b + 1) m := by omega
      have h3 : min (b + 1) m ≤ 4611686018427387903 := by omega
      simp [h, h2, h3, hab, hb']
    · have h2 : ¬ a < min (b + 1) m := by omega
      simp [h, h2]
  rw [hr] at h
  by_cases h2 : a < m
  · simpa [h2, clashB] using h
  · simpa [h2] using h
theorem choice_last {a m status : Nat} {tag : List UInt8} {spans : List N2} (hb : a ≤ 1099511627776) (h1 : 1 ≤ m) (hm : m ≤ 1099511627776) (h : ChoiceP (bytesEq ++ shown (3, a, 0)) [] tag m status spans) :
    if 0 < a then status = 206 ∧ spans = [(m - min a m, m)] else status = 416 ∧ spans = [] := by
  unfold ChoiceP at h
  rw [specs_last (by simp only [maxNum]; omega), awake_use] at h
  have hr : resolveI [(3, a, 0)] (m : Int) = if 0 < a then [(m - min a m, m)] else [] := by
    have hb' : a ≤ 4611686018427387903 := by omega
    have hm' : m ≤ 4611686018427387903 := by omega
    rw [resolveI, if_pos (by omega)]
    simp only [Int.toNat_natCast, resolveN, List.foldl_cons, List.foldl_nil, addR, oneN, rightS, rightN, Nat.reduceEqDiff, if_false, or_true, if_true]
    by_cases h : 0 < a
    · have h2 : m - min a m < m := by omega
      simp [h, h2, hb', hm']
    · have h2 : ¬ m - min a m < m := by omega
      simp [h, h2]
  rw [hr] at h
  by_cases h2 : 0 < a
  · simpa [h2, clashB] using h
  · simpa [h2] using h
theorem bx1 {P : Program} {c : Cx} {k : List Kt} {σ : Stb} {L : List Res} {ρ : Env} {ops l : List Oper} {b : Nat} {cs : List Value} {E : TypeId} (x : S3) (hc : cs = esp x) (h : ∀ σ', σ.le σ' → Sl σ' 3 esp (.slice (some ⟨b, 0, none⟩) 1 1) [x] → Wl P c ops l k σ' L ρ) : Wl P c ops l k σ (Bx b cs E :: L) ρ := by
  refine l_ownb 3 esp [x] 1 .z rfl (by simp [hc]) (fun _ _ => rfl) (by simp) ?_
  exact l_fzo .z h
set_option maxHeartbeats 400000 in
theorem one_walk (σ : Stb) (first last n : Int) (tag : List UInt8) (h1 : -9223372036854775808 ≤ first ∧ first ≤ 9223372036854775807) (h2 : -9223372036854775808 ≤ last ∧ last ≤ 9223372036854775807) (h3 : -9223372036854775808 ≤ n ∧ n ≤ 9223372036854775807) :
    Sp0 Tryd.prog 4 [i64 first, i64 last, st tag, i64 n] σ fun v _ => v = .bool true := by
  refine sp0 Tryd.func4 rfl (by kernel_rfl) rfl fun F => ?_
  refine t_seq ?_
  refine t_region ?_
  refine l_p rfl rfl (p_assign rfl) ?_
  refine l_nil ?_
  refine t_seq ?_
  refine t_seq ?_
  refine t_region ?_
  refine l_call0 rfl rfl rfl (awake_walk σ) ?_
  rintro _ σ0 hσ0 rfl
  have hret : ∀ w, Inv σ0 F w → ∃ σ', σ.le σ' ∧ Value.bool true = .bool true ∧ Inv σ' F w := fun w hI => ⟨σ0, hσ0, rfl, hI⟩
  refine l_p rfl rfl (p_nott rfl) ?_
  refine l_nil ?_
  refine t_iff rfl ?_
  refine t_skip ?_
  refine t_seq ?_
  refine t_seq ?_
  refine t_region ?_
  refine l_p rfl rfl (p_move rfl) ?_
  refine l_p rfl rfl (p_lt rfl rfl) ?_
  refine l_p rfl rfl (p_move rfl) ?_
  refine l_split 17 rfl (fun h => ?_) (fun g1 => ?_)
  · refine l_skip rfl rfl ?_
    refine l_skip rfl rfl ?_
    refine l_skip rfl rfl ?_
    refine l_p rfl rfl (p_pickt rfl rfl) ?_
    refine l_p rfl rfl (p_move rfl) ?_
    refine l_skip rfl rfl ?_
    refine l_skip rfl rfl ?_
    refine l_p rfl rfl (p_pickt rfl rfl) ?_
    refine l_p rfl rfl (p_move rfl) ?_
    refine l_skip rfl rfl ?_
    refine l_skip rfl rfl ?_
    refine l_p rfl rfl (p_pickt rfl rfl) ?_
    refine l_p rfl rfl (p_move rfl) ?_
    refine l_skip rfl rfl ?_
    refine l_skip rfl rfl ?_
    refine l_p rfl rfl (p_pickt rfl rfl) ?_
    refine l_p rfl rfl (p_move rfl) ?_
    refine l_skip rfl rfl ?_
    refine l_skip rfl rfl ?_
    refine l_skip rfl rfl ?_
    refine l_p rfl rfl (p_pickt rfl rfl) ?_
    refine l_nil ?_
    refine t_ift rfl ?_
    refine t_seq ?_
    refine t_region ?_
    refine l_p rfl rfl (p_assign rfl) ?_
    refine l_nil ?_
    exact t_ret1 rfl rfl hret
  refine l_p rfl rfl (p_move rfl) ?_
  refine l_p rfl rfl (p_move rfl) ?_
  refine l_p rfl rfl (p_lt rfl rfl) ?_
  refine l_p rfl rfl (p_pickf rfl rfl) ?_
  refine l_p rfl rfl (p_move rfl) ?_
  refine l_split 22 rfl (fun h => ?_) (fun g2 => ?_)
  · refine l_skip rfl rfl ?_
    refine l_skip rfl rfl ?_
    refine l_p rfl rfl (p_pickt rfl rfl) ?_
    refine l_p rfl rfl (p_move rfl) ?_
    refine l_skip rfl rfl ?_
    refine l_skip rfl rfl ?_
    refine l_p rfl rfl (p_pickt rfl rfl) ?_
    refine l_p rfl rfl (p_move rfl) ?_
    refine l_skip rfl rfl ?_
    refine l_skip rfl rfl ?_
    refine l_p rfl rfl (p_pickt rfl rfl) ?_
    refine l_p rfl rfl (p_move rfl) ?_
    refine l_skip rfl rfl ?_
    refine l_skip rfl rfl ?_
    refine l_skip rfl rfl ?_
    refine l_p rfl rfl (p_pickt rfl rfl) ?_
    refine l_nil ?_
    refine t_ift rfl ?_
    refine t_seq ?_
    refine t_region ?_
    refine l_p rfl rfl (p_assign rfl) ?_
    refine l_nil ?_
    exact t_ret1 rfl rfl hret
  refine l_p rfl rfl (p_move rfl) ?_
  refine l_p rfl rfl (p_gt rfl rfl) ?_
  refine l_p rfl rfl (p_pickf rfl rfl) ?_
  refine l_p rfl rfl (p_move rfl) ?_
  refine l_split 26 rfl (fun h => ?_) (fun g3 => ?_)
  · refine l_skip rfl rfl ?_
    refine l_skip rfl rfl ?_
    refine l_p rfl rfl (p_pickt rfl rfl) ?_
    refine l_p rfl rfl (p_move rfl) ?_
    refine l_skip rfl rfl ?_
    refine l_skip rfl rfl ?_
    refine l_p rfl rfl (p_pickt rfl rfl) ?_
    refine l_p rfl rfl (p_move rfl) ?_
    refine l_skip rfl rfl ?_
    refine l_skip rfl rfl ?_
    refine l_skip rfl rfl ?_
    refine l_p rfl rfl (p_pickt rfl rfl) ?_
    refine l_nil ?_
    refine t_ift rfl ?_
    refine t_seq ?_
    refine t_region ?_
    refine l_p rfl rfl (p_assign rfl) ?_
    refine l_nil ?_
    exact t_ret1 rfl rfl hret
  refine l_p rfl rfl (p_move rfl) ?_
  refine l_p rfl rfl (p_lt rfl rfl) ?_
  refine l_p rfl rfl (p_pickf rfl rfl) ?_
  refine l_p rfl rfl (p_move rfl) ?_
  refine l_split 30 rfl (fun h => ?_) (fun g4 => ?_)
  · refine l_skip rfl rfl ?_
    refine l_skip rfl rfl ?_
    refine l_p rfl rfl (p_pickt rfl rfl) ?_
    refine l_p rfl rfl (p_move rfl) ?_
    refine l_skip rfl rfl ?_
    refine l_skip rfl rfl ?_
    refine l_skip rfl rfl ?_
    refine l_p rfl rfl (p_pickt rfl rfl) ?_
    refine l_nil ?_
    refine t_ift rfl ?_
    refine t_seq ?_
    refine t_region ?_
    refine l_p rfl rfl (p_assign rfl) ?_
    refine l_nil ?_
    exact t_ret1 rfl rfl hret
  refine l_p rfl rfl (p_move rfl) ?_
  refine l_p rfl rfl (p_gt rfl rfl) ?_
  refine l_p rfl rfl (p_pickf rfl rfl) ?_
  refine l_p rfl rfl (p_move rfl) ?_
  refine l_split 34 rfl (fun h => ?_) (fun g5 => ?_)
  · refine l_skip rfl rfl ?_
    refine l_skip rfl rfl ?_
    refine l_skip rfl rfl ?_
    refine l_p rfl rfl (p_pickt rfl rfl) ?_
    refine l_nil ?_
    refine t_ift rfl ?_
    refine t_seq ?_
    refine t_region ?_
    refine l_p rfl rfl (p_assign rfl) ?_
    refine l_nil ?_
    exact t_ret1 rfl rfl hret
  refine l_p rfl rfl (p_move rfl) ?_
  refine l_p rfl rfl (p_lens (by exact rfl)) ?_
  refine l_p rfl rfl (p_gt rfl rfl) ?_
  refine l_p rfl rfl (p_pickf rfl rfl) ?_
  refine l_nil ?_
  refine t_ifd rfl (fun h => ?_) (fun g6 => ?_)
  · refine t_seq ?_
    refine t_region ?_
    refine l_p rfl rfl (p_assign rfl) ?_
    refine l_nil ?_
    exact t_ret1 rfl rfl hret
  clear hret
  obtain ⟨a, rfl⟩ : ∃ a : Nat, first = a := ⟨first.toNat, by omega⟩
  obtain ⟨b, rfl⟩ : ∃ b : Nat, last = b := ⟨last.toNat, by omega⟩
  obtain ⟨m, rfl⟩ : ∃ m : Nat, n = m := ⟨n.toNat, by omega⟩
  refine t_skip ?_
  refine t_seq ?_
  refine t_region ?_
  refine l_p rfl rfl (p_move rfl) ?_
  refine l_p rfl rfl (p_move rfl) ?_
  refine l_p rfl rfl (p_build (by exact rfl) (by exact rfl) (by exact rfl) (by exact rfl)) ?_
  refine l_bsl (by exact rfl) (by exact rfl) (by exact rfl) (by exact rfl) (by exact rfl) (by exact rfl) (by exact rfl) ?_; intro _
  refine bx1 (2, a, b) rfl fun σ1 hσ1 hS1 => ?_
  refine l_callv rfl rfl rfl (rprintspecs hS1 (.inl rfl) (by simp only; omega) (by simp only; omega)) ?_
  refine l_p rfl rfl (p_move rfl) ?_
  refine l_p rfl rfl (p_build (by exact rfl) (by exact rfl) (by exact rfl) (by exact rfl)) ?_
  refine l_bsl (by exact rfl) (by exact rfl) (by exact rfl) (by exact rfl) (by exact rfl) (by exact rfl) (by exact rfl) ?_; intro _
  refine bx1 (3, a, 0) rfl fun σ2 hσ2 hS2 => ?_
  refine l_callv rfl rfl rfl (rprintspecs hS2 (.inr rfl) (by simp only; omega) (by simp only; omega)) ?_
  have hla := dec_len 20 a (by omega) (by omega)
  have hlb := dec_len 20 b (by omega) (by omega)
  have hbe : bytesEq.length = 6 := rfl
  have hl1 : (bytesEq ++ shown (2, a, b)).length ≤ 1000000 := by simp [shown, hbe]; omega
  have hl2 : (bytesEq ++ shown (3, a, 0)).length ≤ 1000000 := by simp [shown, hbe]; omega
  have hc1 := fun status spans => choice_both (a := a) (b := b) (m := m) (tag := tag) (status := status) (spans := spans) (by omega) (by omega) (by omega) (by omega)
  have hc2 := fun status spans => choice_last (a := a) (m := m) (tag := tag) (status := status) (spans := spans) (by omega) (by omega) (by omega)
  generalize bytesEq ++ shown (2, a, b) = ta at *
  generalize bytesEq ++ shown (3, a, 0) = tb at *
  refine l_p rfl rfl (p_assign rfl) ?_
  refine l_p rfl rfl (p_assign rfl) ?_
  refine l_nil ?_
  refine t_seq ?_
  refine t_region ?_
  refine l_p rfl rfl (p_move rfl) ?_
  refine l_p rfl rfl (p_move rfl) ?_
  refine l_p rfl rfl (p_move rfl) ?_
  refine l_call0 rfl rfl rfl (schoose σ2 ta [] tag m hl1 (by decide)) ?_
  rintro _ σ3 hσ3 ⟨stc, svc, spc, rfl, hS3, hC3⟩
  obtain ⟨A, ca, rfl⟩ : ∃ A c, svc = .slice A spc.length c := by obtain ⟨⟨A, c, h, _⟩, _⟩ := hS3; exact ⟨A, c, h⟩
  refine l_p rfl rfl (p_move rfl) ?_
  refine l_p rfl rfl (p_move rfl) ?_
  refine l_p rfl rfl (p_move rfl) ?_
  refine l_call0 rfl rfl rfl (schoose σ3 tb [] tag m hl2 (by decide)) ?_
  rintro _ σ4 hσ4 ⟨std, svd, spd, rfl, hS4, hC4⟩
  obtain ⟨B, cb, rfl⟩ : ∃ A c, svd = .slice A spd.length c := by obtain ⟨⟨A, c, h, _⟩, _⟩ := hS4; exact ⟨A, c, h⟩
  have k1 := hc1 _ _ hC3
  have k2 := hc2 _ _ hC4
  have hS3' := hS3.up hσ4
  clear hS3 hc1 hc2 hC3 hC4 hS1 hS2 hl1 hl2
  have hret : ∀ L w, Inv σ4 (L ++ F) w → ∃ σ', σ.le σ' ∧ Value.bool true = .bool true ∧ Inv σ' F w := fun L w hI => ⟨σ4, (((hσ0.trans hσ1).trans hσ2).trans hσ3).trans hσ4, rfl, hI.dropN L⟩
  have hd : ∀ {A c} {x : N2}, Sl σ4 2 esn (.slice A 1 c) [x] → ∀ L, Rds σ4 L (ixp (.slice A 1 c) 2 0) (esn x) := fun {A c x} hS L => Rds.ix hS (k := 0) (by simp)
  have hd1 := fun h : a < m => by
    rw [if_pos h] at k1
    exact k1
  have hd2 := fun h : ¬ a < m => by
    rw [if_neg h] at k1
    exact k1
  clear k1
  by_cases ha : 0 < a
  · rw [if_pos ha] at k2
    obtain ⟨rfl, rfl⟩ := k2
    have hr2 := hd (by simpa using hS4)
    have hmn : (m : Int) - min (a : Int) m = ((m - min a m : Nat) : Int) := by omega
    refine l_alloc (by exact rfl) (by exact rfl) (by exact rfl) ?_; intro _
    refine l_alloc (by exact rfl) (by exact rfl) (by exact rfl) ?_; intro _
    refine l_sti rfl rfl rfl rfl rfl (by exact rfl) (by exact rfl) (by exact rfl) (by exact ⟨rfl, rfl⟩) ?_
    refine l_sti rfl rfl rfl rfl rfl (by exact rfl) (by exact rfl) (by exact rfl) (by exact ⟨rfl, rfl⟩) ?_
    refine l_nil ?_
    refine t_seq ?_
    refine t_seq ?_
    refine t_region ?_
    refine l_p rfl rfl (p_move rfl) ?_
    refine l_p rfl rfl (p_eq rfl rfl) ?_
    refine l_p rfl rfl (p_move rfl) ?_
    refine l_split 58 rfl (fun h => by omega) (fun _ => ?_)
    refine l_skip rfl rfl ?_
    refine l_skip rfl rfl ?_
    refine l_skip rfl rfl ?_
    refine l_p rfl rfl (p_pickf rfl rfl) ?_
    refine l_p rfl rfl (p_move rfl) ?_
    refine l_p rfl rfl (p_move rfl) ?_
    refine l_p rfl rfl (p_gt rfl rfl) ?_
    refine l_p rfl rfl (p_move rfl) ?_
    refine l_split 66 rfl (fun _ => ?_) (fun h => by omega)
    refine l_p rfl rfl (p_fa (by exact rfl) Rds.bxi) ?_
    refine l_p rfl rfl (p_ld1 (by exact rfl) Rds.bxi) ?_
    refine l_p rfl rfl (p_ne rfl rfl) ?_
    refine l_p rfl rfl (p_move rfl) ?_
    refine l_p rfl rfl (p_fa (by exact rfl) Rds.bxi) ?_
    refine l_p rfl rfl (p_ld1 (by exact rfl) (Rds.fld Rds.bxi (by exact rfl))) ?_
    refine l_p rfl rfl (p_lensl (by exact rfl)) ?_
    refine l_p rfl rfl (p_ne rfl rfl) ?_
    refine l_p rfl rfl (p_pickf rfl rfl) ?_
    refine l_p rfl rfl (p_move rfl) ?_
    refine l_p rfl rfl (p_fa (by exact rfl) Rds.bxi) ?_
    refine l_p rfl rfl (p_ld1 (by exact rfl) (Rds.fld Rds.bxi (by exact rfl))) ?_
    refine l_p rfl rfl (p_ix 0 rfl rfl rfl (by simp) (hr2 _)) ?_
    refine l_p rfl rfl (p_ldn (by exact rfl) (hr2 _) (by exact rfl) (by exact rfl)) ?_
    refine l_p rfl rfl (p_move rfl) ?_
    refine l_p rfl rfl (p_move rfl) ?_
    refine l_p rfl rfl (p_move rfl) ?_
    refine l_p rfl rfl (p_min rfl rfl) ?_
    refine l_p rfl rfl (p_sub rfl rfl (by omega)) ?_
    refine l_p rfl rfl (p_move rfl) ?_
    refine l_p rfl rfl (p_build (by exact rfl) (by exact rfl) (by exact rfl) (by exact rfl)) ?_
    refine l_p rfl rfl (p_nes rfl rfl (by exact rfl)) ?_
    refine l_p rfl rfl (p_pickf rfl rfl) ?_
    refine l_p rfl rfl (p_pickt rfl rfl) ?_
    refine l_p rfl rfl (p_pickf rfl rfl) ?_
    refine l_nil ?_
    refine t_if rfl (fun h => absurd h (by simp [hmn])) (fun _ => ?_)
    refine t_skip ?_
    refine t_seq ?_
    refine t_seq ?_
    refine t_region ?_
    refine l_p rfl rfl (p_move rfl) ?_
    refine l_p rfl rfl (p_move rfl) ?_
    refine l_p rfl rfl (p_ge rfl rfl) ?_
    refine l_nil ?_
    refine t_ifd rfl (fun g9 => ?_) (fun g9 => ?_)
    · obtain ⟨rfl, rfl⟩ := hd2 (by omega)
      refine t_seq ?_
      refine t_region ?_
      refine l_p rfl rfl (p_fa (by exact rfl) Rds.bxi) ?_
      refine l_p rfl rfl (p_ld1 (by exact rfl) Rds.bxi) ?_
      refine l_p rfl rfl (p_eq rfl rfl) ?_
      refine l_p rfl rfl (p_assign rfl) ?_
      refine l_nil ?_
      exact t_ret1 rfl rfl fun w hI => hret [_, _] w hI
    · obtain ⟨rfl, rfl⟩ := hd1 (by omega)
      have hr3 := hd (by simpa using hS3')
      have hmb : min ((b : Int) + 1) m = ((min (b + 1) m : Nat) : Int) := by omega
      refine t_skip ?_
      refine t_seq ?_
      refine t_region ?_
      refine l_p rfl rfl (p_fa (by exact rfl) Rds.bxi) ?_
      refine l_p rfl rfl (p_ld1 (by exact rfl) Rds.bxi) ?_
      refine l_p rfl rfl (p_eq rfl rfl) ?_
      refine l_p rfl rfl (p_move rfl) ?_
      refine l_p rfl rfl (p_fa (by exact rfl) Rds.bxi) ?_
      refine l_p rfl rfl (p_ld1 (by exact rfl) (Rds.fld Rds.bxi (by exact rfl))) ?_
      refine l_p rfl rfl (p_lensl (by exact rfl)) ?_
      refine l_p rfl rfl (p_eq rfl rfl) ?_
      refine l_p rfl rfl (p_pickt rfl rfl) ?_
      refine l_p rfl rfl (p_move rfl) ?_
      refine l_p rfl rfl (p_fa (by exact rfl) Rds.bxi) ?_
      refine l_p rfl rfl (p_ld1 (by exact rfl) (Rds.fld Rds.bxi (by exact rfl))) ?_
      refine l_p rfl rfl (p_ix 0 rfl rfl rfl (by simp) (hr3 _)) ?_
      refine l_p rfl rfl (p_ldn (by exact rfl) (hr3 _) (by exact rfl) (by exact rfl)) ?_
      refine l_p rfl rfl (p_move rfl) ?_
      refine l_p rfl rfl (p_move rfl) ?_
      refine l_p rfl rfl (p_add rfl rfl (by omega)) ?_
      refine l_p rfl rfl (p_move rfl) ?_
      refine l_p rfl rfl (p_min rfl rfl) ?_
      refine l_p rfl rfl (p_build (by exact rfl) (by exact rfl) (by exact rfl) (by exact rfl)) ?_
      refine l_p rfl rfl (p_eqs rfl rfl (by exact rfl)) ?_
      refine l_p rfl rfl (p_pickt rfl rfl) ?_
      refine l_p rfl rfl (p_assign rfl) ?_
      refine l_nil ?_
      exact t_ret1 rfl rfl fun w hI => by
        obtain ⟨σ', h1, _, h2⟩ := hret [_, _] w hI
        exact ⟨σ', h1, by simp [hmb], h2⟩
  · rw [if_neg ha] at k2
    obtain ⟨rfl, rfl⟩ := k2
    have ha0 : a = 0 := by omega
    subst ha0
    obtain ⟨rfl, rfl⟩ := hd1 (by omega)
    have hr3 := hd (by simpa using hS3')
    have hmb : min ((b : Int) + 1) m = ((min (b + 1) m : Nat) : Int) := by omega
    refine l_alloc (by exact rfl) (by exact rfl) (by exact rfl) ?_; intro _
    refine l_alloc (by exact rfl) (by exact rfl) (by exact rfl) ?_; intro _
    refine l_sti rfl rfl rfl rfl rfl (by exact rfl) (by exact rfl) (by exact rfl) (by exact ⟨rfl, rfl⟩) ?_
    refine l_sti rfl rfl rfl rfl rfl (by exact rfl) (by exact rfl) (by exact rfl) (by exact ⟨rfl, rfl⟩) ?_
    refine l_nil ?_
    refine t_seq ?_
    refine t_seq ?_
    refine t_region ?_
    refine l_p rfl rfl (p_move rfl) ?_
    refine l_p rfl rfl (p_eq rfl rfl) ?_
    refine l_p rfl rfl (p_move rfl) ?_
    refine l_p rfl rfl (p_fa (by exact rfl) Rds.bxi) ?_
    refine l_p rfl rfl (p_ld1 (by exact rfl) Rds.bxi) ?_
    refine l_p rfl rfl (p_ne rfl rfl) ?_
    refine l_p rfl rfl (p_pickt rfl rfl) ?_
    refine l_p rfl rfl (p_move rfl) ?_
    refine l_p rfl rfl (p_move rfl) ?_
    refine l_p rfl rfl (p_gt rfl rfl) ?_
    refine l_p rfl rfl (p_move rfl) ?_
    refine l_skip rfl rfl ?_
    refine l_skip rfl rfl ?_
    refine l_skip rfl rfl ?_
    refine l_skip rfl rfl ?_
    refine l_skip rfl rfl ?_
    refine l_skip rfl rfl ?_
    refine l_skip rfl rfl ?_
    refine l_skip rfl rfl ?_
    refine l_skip rfl rfl ?_
    refine l_skip rfl rfl ?_
    refine l_skip rfl rfl ?_
    refine l_skip rfl rfl ?_
    refine l_skip rfl rfl ?_
    refine l_skip rfl rfl ?_
    refine l_skip rfl rfl ?_
    refine l_skip rfl rfl ?_
    refine l_skip rfl rfl ?_
    refine l_skip rfl rfl ?_
    refine l_skip rfl rfl ?_
    refine l_skip rfl rfl ?_
    refine l_skip rfl rfl ?_
    refine l_skip rfl rfl ?_
    refine l_skip rfl rfl ?_
    refine l_p rfl rfl (p_pickf rfl rfl) ?_
    refine l_p rfl rfl (p_pickf rfl rfl) ?_
    refine l_nil ?_
    refine t_iff rfl ?_
    refine t_skip ?_
    refine t_seq ?_
    refine t_seq ?_
    refine t_region ?_
    refine l_p rfl rfl (p_move rfl) ?_
    refine l_p rfl rfl (p_move rfl) ?_
    refine l_p rfl rfl (p_ge rfl rfl) ?_
    refine l_nil ?_
    refine t_ifd rfl (fun h => by omega) (fun _ => ?_)
    refine t_skip ?_
    refine t_seq ?_
    refine t_region ?_
    refine l_p rfl rfl (p_fa (by exact rfl) Rds.bxi) ?_
    refine l_p rfl rfl (p_ld1 (by exact rfl) Rds.bxi) ?_
    refine l_p rfl rfl (p_eq rfl rfl) ?_
    refine l_p rfl rfl (p_move rfl) ?_
    refine l_p rfl rfl (p_fa (by exact rfl) Rds.bxi) ?_
    refine l_p rfl rfl (p_ld1 (by exact rfl) (Rds.fld Rds.bxi (by exact rfl))) ?_
    refine l_p rfl rfl (p_lensl (by exact rfl)) ?_
    refine l_p rfl rfl (p_eq rfl rfl) ?_
    refine l_p rfl rfl (p_pickt rfl rfl) ?_
    refine l_p rfl rfl (p_move rfl) ?_
    refine l_p rfl rfl (p_fa (by exact rfl) Rds.bxi) ?_
    refine l_p rfl rfl (p_ld1 (by exact rfl) (Rds.fld Rds.bxi (by exact rfl))) ?_
    refine l_p rfl rfl (p_ix 0 rfl rfl rfl (by simp) (hr3 _)) ?_
    refine l_p rfl rfl (p_ldn (by exact rfl) (hr3 _) (by exact rfl) (by exact rfl)) ?_
    refine l_p rfl rfl (p_move rfl) ?_
    refine l_p rfl rfl (p_move rfl) ?_
    refine l_p rfl rfl (p_add rfl rfl (by omega)) ?_
    refine l_p rfl rfl (p_move rfl) ?_
    refine l_p rfl rfl (p_min rfl rfl) ?_
    refine l_p rfl rfl (p_build (by exact rfl) (by exact rfl) (by exact rfl) (by exact rfl)) ?_
    refine l_p rfl rfl (p_eqs rfl rfl (by exact rfl)) ?_
    refine l_p rfl rfl (p_pickt rfl rfl) ?_
    refine l_p rfl rfl (p_assign rfl) ?_
    refine l_nil ?_
    exact t_ret1 rfl rfl fun w hI => by
      obtain ⟨σ', h1, _, h2⟩ := hret [_, _] w hI
      exact ⟨σ', h1, by simp [hmb], h2⟩
end Go.Proofs.YtfglenbfbcckjaaDoor
