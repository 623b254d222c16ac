/- Records as bytes: walks. -/
import Derived.Test.YtbijponhndknlaaDoorWcrc
import Derived.Test.YtbijponhndknlaaDoorWetag
set_option linter.unusedSimpArgs false
set_option linter.unusedVariables false
set_option maxRecDepth 20000
namespace Go.Proofs.YtbijponhndknlaaDoor
open Go.Sp
attribute [local irreducible] Go.Sp.Pr Go.Sp.Ws Go.Sp.Wl Go.Sp.Wq Go.Sp.Rds Go.Sp.Src
abbrev cBind (x : BindM) : List Value := [i64 x.1, i64 x.2.1, st x.2.2.1, i64 x.2.2.2.1, i64 x.2.2.2.2]
abbrev vBind (x : BindM) : Value := .agg #[i64 x.1, i64 x.2.1, st x.2.2.1, i64 x.2.2.2.1, i64 x.2.2.2.2]
/-- A piece, the body of which is at sv. -/
abbrev vPiece (x : PieceM) (A : Option Addr) (cc : Nat) : Value := .agg #[i64 x.1, i64 x.2.1, i64 x.2.2.1, .slice A x.2.2.2.length cc]
theorem cowner (σ : Stb) (o g : Int) : SpV Tryd.prog 59 [i64 o, i64 g] σ (.bool (ownerB o g)) := by
  refine spv Tryd.func59 rfl (by kernel_rfl) rfl fun F => ?_
  refine t_seq ?_
  refine t_region ?_
  refine l_p rfl rfl (p_assign rfl) ?_
  refine l_nil ?_
  refine t_seq ?_
  refine t_region ?_
  refine l_p rfl rfl (p_move rfl) ?_
  refine l_callv rfl rfl rfl (nfits σ _ _ _) ?_
  refine l_p rfl rfl (p_move rfl) ?_
  refine l_split 7 rfl (fun h => ?_) (fun h => ?_)
  · refine l_p rfl rfl (p_move rfl) ?_
    refine l_callv rfl rfl rfl (nfits σ _ _ _) ?_
    refine l_p rfl rfl (p_pickt rfl rfl) ?_
    refine l_p rfl rfl (p_assign rfl) ?_
    refine l_nil ?_
    exact t_ret1 rfl rfl fun w hI => ⟨by simp [ownerB, h], hI⟩
  · refine l_skip rfl rfl ?_
    refine l_skip rfl rfl ?_
    refine l_p rfl rfl (p_pickf rfl rfl) ?_
    refine l_p rfl rfl (p_assign rfl) ?_
    refine l_nil ?_
    exact t_ret1 rfl rfl fun w hI => ⟨by simp only [ownerB, decide_eq_false h, Bool.false_and], hI⟩
theorem cbind (σ : Stb) (x : BindM) (hs : x.2.2.1.length ≤ 9223372036854775806) : SpV Tryd.prog 46 [vBind x] σ (.bool (rightBind x)) := by
  obtain ⟨o, g, tag, len, tick⟩ := x
  refine spv Tryd.func46 rfl (by kernel_rfl) rfl fun F => ?_
  refine t_seq ?_
  refine t_region ?_
  refine l_box rfl rfl rfl rfl ?_; intro _
  refine l_p rfl rfl (p_assign rfl) ?_
  refine l_nil ?_
  refine t_seq ?_
  refine t_region ?_
  refine l_p rfl rfl (p_fa (by exact rfl) Rds.bxi) ?_
  refine l_p rfl rfl (p_ld1 (by exact rfl) Rds.bxi) ?_
  refine l_p rfl rfl (p_fa (by exact rfl) Rds.bxi) ?_
  refine l_p rfl rfl (p_ld1 (by exact rfl) (Rds.fld Rds.bxi (by exact rfl))) ?_
  refine l_callv rfl rfl rfl (cowner σ o g) ?_
  refine l_p rfl rfl (p_move rfl) ?_
  refine l_splitb 8 rfl (fun h => ?_) (fun h => ?_)
  · refine l_p rfl rfl (p_fa (by exact rfl) Rds.bxi) ?_
    refine l_p rfl rfl (p_ld1 (by exact rfl) (Rds.fld Rds.bxi (by exact rfl))) ?_
    refine l_callv rfl rfl rfl (nfits σ _ _ _) ?_
    refine l_p rfl rfl (p_pickt rfl rfl) ?_
    refine l_p rfl rfl (p_move rfl) ?_
    refine l_split 13 rfl (fun h2 => ?_) (fun h2 => ?_)
    · refine l_p rfl rfl (p_fa (by exact rfl) Rds.bxi) ?_
      refine l_p rfl rfl (p_ld1 (by exact rfl) (Rds.fld Rds.bxi (by exact rfl))) ?_
      refine l_callv rfl rfl rfl (nfits σ _ _ _) ?_
      refine l_p rfl rfl (p_pickt rfl rfl) ?_
      refine l_p rfl rfl (p_move rfl) ?_
      refine l_split 18 rfl (fun h3 => ?_) (fun h3 => ?_)
      · refine l_p rfl rfl (p_fa (by exact rfl) Rds.bxi) ?_
        refine l_p rfl rfl (p_ld1 (by exact rfl) (Rds.fld Rds.bxi (by exact rfl))) ?_
        refine l_p rfl rfl (p_build (by exact rfl) (by exact rfl) (by exact rfl) (by exact rfl)) ?_
        refine l_callv rfl rfl rfl (tetright σ (false, tag) hs) ?_
        refine l_p rfl rfl (p_pickt rfl rfl) ?_
        refine l_p rfl rfl (p_assign rfl) ?_
        refine l_nil ?_
        exact t_ret1 rfl rfl fun w hI => ⟨by simp [rightBind, h, h2, h3], hI.tail⟩
      · refine l_skip rfl rfl ?_
        refine l_skip rfl rfl ?_
        refine l_skip rfl rfl ?_
        refine l_skip rfl rfl ?_
        refine l_p rfl rfl (p_pickf rfl rfl) ?_
        refine l_p rfl rfl (p_assign rfl) ?_
        refine l_nil ?_
        exact t_ret1 rfl rfl fun w hI => ⟨by simp only [rightBind, decide_eq_false h3, Bool.false_and, Bool.and_false], hI.tail⟩
    · refine l_skip rfl rfl ?_
      refine l_skip rfl rfl ?_
      refine l_skip rfl rfl ?_
      refine l_p rfl rfl (p_pickf rfl rfl) ?_
      refine l_p rfl rfl (p_move rfl) ?_
      refine l_skip rfl rfl ?_
      refine l_skip rfl rfl ?_
      refine l_skip rfl rfl ?_
      refine l_skip rfl rfl ?_
      refine l_p rfl rfl (p_pickf rfl rfl) ?_
      refine l_p rfl rfl (p_assign rfl) ?_
      refine l_nil ?_
      exact t_ret1 rfl rfl fun w hI => ⟨by simp only [rightBind, decide_eq_false h2, Bool.false_and, Bool.and_false], hI.tail⟩
  · refine l_skip rfl rfl ?_
    refine l_skip rfl rfl ?_
    refine l_skip rfl rfl ?_
    refine l_p rfl rfl (p_pickf rfl rfl) ?_
    refine l_p rfl rfl (p_move rfl) ?_
    refine l_skip rfl rfl ?_
    refine l_skip rfl rfl ?_
    refine l_skip rfl rfl ?_
    refine l_p rfl rfl (p_pickf rfl rfl) ?_
    refine l_p rfl rfl (p_move rfl) ?_
    refine l_skip rfl rfl ?_
    refine l_skip rfl rfl ?_
    refine l_skip rfl rfl ?_
    refine l_skip rfl rfl ?_
    refine l_p rfl rfl (p_pickf rfl rfl) ?_
    refine l_p rfl rfl (p_assign rfl) ?_
    refine l_nil ?_
    exact t_ret1 rfl rfl fun w hI => ⟨by simp only [rightBind, h, Bool.false_and, Bool.and_false], hI.tail⟩
theorem cpiece (σ : Stb) (x : PieceM) (A : Option Addr) (cc : Nat) : SpV Tryd.prog 48 [vPiece x A cc] σ (.bool (rightPiece x)) := by
  obtain ⟨o, g, i, body⟩ := x
  refine spv Tryd.func48 rfl (by kernel_rfl) rfl fun F => ?_
  refine t_seq ?_
  refine t_region ?_
  refine l_box rfl rfl rfl rfl ?_; intro _
  refine l_p rfl rfl (p_assign rfl) ?_
  refine l_nil ?_
  refine t_seq ?_
  refine t_region ?_
  refine l_p rfl rfl (p_fa (by exact rfl) Rds.bxi) ?_
  refine l_p rfl rfl (p_ld1 (by exact rfl) Rds.bxi) ?_
  refine l_p rfl rfl (p_fa (by exact rfl) Rds.bxi) ?_
  refine l_p rfl rfl (p_ld1 (by exact rfl) (Rds.fld Rds.bxi (by exact rfl))) ?_
  refine l_callv rfl rfl rfl (cowner σ o g) ?_
  refine l_p rfl rfl (p_move rfl) ?_
  refine l_splitb 8 rfl (fun h => ?_) (fun h => ?_)
  · refine l_p rfl rfl (p_fa (by exact rfl) Rds.bxi) ?_
    refine l_p rfl rfl (p_ld1 (by exact rfl) (Rds.fld Rds.bxi (by exact rfl))) ?_
    refine l_callv rfl rfl rfl (nfits σ _ _ _) ?_
    refine l_p rfl rfl (p_pickt rfl rfl) ?_
    refine l_p rfl rfl (p_move rfl) ?_
    refine l_split 13 rfl (fun h2 => ?_) (fun h2 => ?_)
    · refine l_p rfl rfl (p_fa (by exact rfl) Rds.bxi) ?_
      refine l_p rfl rfl (p_ld1 (by exact rfl) (Rds.fld Rds.bxi (by exact rfl))) ?_
      refine l_p rfl rfl (p_lensl (by exact rfl)) ?_
      refine l_callv rfl rfl rfl (nfits σ _ _ _) ?_
      refine l_p rfl rfl (p_pickt rfl rfl) ?_
      refine l_p rfl rfl (p_assign rfl) ?_
      refine l_nil ?_
      exact t_ret1 rfl rfl fun w hI => ⟨by congr 1; rw [rightPiece, h, decide_eq_true h2, Bool.true_and, Bool.true_and]; exact decide_eq_decide.2 (by dsimp only; omega), hI.tail⟩
    · refine l_skip rfl rfl ?_
      refine l_skip rfl rfl ?_
      refine l_skip rfl rfl ?_
      refine l_skip rfl rfl ?_
      refine l_p rfl rfl (p_pickf rfl rfl) ?_
      refine l_p rfl rfl (p_assign rfl) ?_
      refine l_nil ?_
      exact t_ret1 rfl rfl fun w hI => ⟨by simp only [rightPiece, decide_eq_false h2, Bool.false_and, Bool.and_false], hI.tail⟩
  · refine l_skip rfl rfl ?_
    refine l_skip rfl rfl ?_
    refine l_skip rfl rfl ?_
    refine l_p rfl rfl (p_pickf rfl rfl) ?_
    refine l_p rfl rfl (p_move rfl) ?_
    refine l_skip rfl rfl ?_
    refine l_skip rfl rfl ?_
    refine l_skip rfl rfl ?_
    refine l_skip rfl rfl ?_
    refine l_p rfl rfl (p_pickf rfl rfl) ?_
    refine l_p rfl rfl (p_assign rfl) ?_
    refine l_nil ?_
    exact t_ret1 rfl rfl fun w hI => ⟨by simp only [rightPiece, h, Bool.false_and, Bool.and_false], hI.tail⟩
theorem cbegin (σ : Stb) (o g : Nat) (ho : o ≤ 15) (hg : g ≤ 2147483647) : Sp0 Tryd.prog 61 [i64 o, i64 g] σ fun v σ' => Sl σ' 1 eu8 v (be o 1 ++ be g 4) := by
  refine sp0 Tryd.func61 rfl (by kernel_rfl) rfl fun F => ?_
  refine t_seq ?_
  refine t_region ?_
  refine l_p rfl rfl (p_assign rfl) ?_
  refine l_nil ?_
  refine t_seq ?_
  refine t_region ?_
  refine l_p rfl rfl (p_move rfl) ?_
  refine l_p rfl rfl (p_convu64 (by exact rfl) (by omega)) ?_
  refine l_call0 rfl rfl rfl (nput o 1 (by decide) (by omega) (Sl.nil σ 1 eu8) (by simp)) ?_
  intro v σ1 h1 hS
  obtain ⟨A2, c2, rfl, _⟩ := hS.shape
  refine l_p rfl rfl (p_move rfl) ?_
  refine l_p rfl rfl (p_convu64 (by exact rfl) (by omega)) ?_
  refine l_call0 rfl rfl rfl (nput g 4 (by decide) (by omega) hS (by simp [be_len])) ?_
  intro v σ2 h2 hS2
  refine l_p rfl rfl (p_assign rfl) ?_
  refine l_nil ?_
  exact t_ret1 rfl rfl fun w hI => ⟨σ2, h1.trans h2, by simpa using hS2, hI⟩
theorem own_bind {x : BindM} (h : rightBind x = true) : ∃ o g len tick : Nat, x = ((o : Int), (g : Int), x.2.2.1, (len : Int), (tick : Int)) ∧ o ≤ 15 ∧ g ≤ 2147483647 ∧ len ≤ 4096 ∧ tick ≤ 4611686018427387903 ∧ x.2.2.1.length ≤ 40 := by
  obtain ⟨o, g, tag, len, tick⟩ := x
  simp only [rightBind, ownerB, Bool.and_eq_true, decide_eq_true_eq] at h
  obtain ⟨⟨⟨a1, a2⟩, a3, a4⟩, ⟨a5, a6⟩, ⟨a7, a8⟩, _, a9⟩ := h
  exact ⟨o.toNat, g.toNat, len.toNat, tick.toNat, by simp only [Int.toNat_of_nonneg a1, Int.toNat_of_nonneg (by omega : 0 ≤ g), Int.toNat_of_nonneg a5, Int.toNat_of_nonneg a7], by omega, by omega, by omega, by omega, a9⟩
theorem own_piece {x : PieceM} (h : rightPiece x = true) : ∃ o g i : Nat, x = ((o : Int), (g : Int), (i : Int), x.2.2.2) ∧ o ≤ 15 ∧ g ≤ 2147483647 ∧ i ≤ 4096 ∧ 1 ≤ x.2.2.2.length ∧ x.2.2.2.length ≤ 64 := by
  obtain ⟨o, g, i, body⟩ := x
  simp only [rightPiece, ownerB, Bool.and_eq_true, decide_eq_true_eq] at h
  obtain ⟨⟨⟨a1, a2⟩, a3, a4⟩, ⟨a5, a6⟩, a7, a8⟩ := h
  exact ⟨o.toNat, g.toNat, i.toNat, by simp only [Int.toNat_of_nonneg a1, Int.toNat_of_nonneg (by omega : 0 ≤ g), Int.toNat_of_nonneg a5], by omega, by omega, by omega, by omega, by omega⟩
def PutR (σ : Stb) (v : Value) (ok : Bool) (b : List UInt8) : Prop := ∃ sv, v = .tuple #[sv, i64 (if ok = true then 0 else 1)] ∧ Sl σ 1 eu8 sv (if ok = true then b else [])
theorem cputbind (σ : Stb) (x : BindM) (hs : x.2.2.1.length ≤ 9223372036854775806) : Sp0 Tryd.prog 49 [vBind x] σ fun v σ' => PutR σ' v (rightBind x) (bindBytes x) := by
  have hcb := cbind σ x hs
  obtain ⟨o', g', tag, len', tick'⟩ := x
  simp only [vBind] at hcb hs ⊢
  refine sp0 Tryd.func49 rfl (by kernel_rfl) rfl fun F => ?_
  refine t_seq ?_
  refine t_region ?_
  refine l_box rfl rfl rfl rfl ?_; intro _
  refine l_p rfl rfl (p_assign rfl) ?_
  refine l_p rfl rfl (p_assign rfl) ?_
  refine l_nil ?_
  refine t_seq ?_
  refine t_seq ?_
  refine t_region ?_
  refine l_p rfl rfl (p_ldn (by exact rfl) Rds.bxi (by exact rfl) (by exact rfl)) ?_
  refine l_callv rfl rfl rfl hcb ?_
  refine l_p rfl rfl (p_not rfl) ?_
  refine l_nil ?_
  refine t_if rfl (fun h => ?_) (fun h => ?_)
  · have h' : rightBind (o', g', tag, len', tick') = false := by simpa using h
    refine t_seq ?_
    refine t_region ?_
    refine l_p rfl rfl (p_assign rfl) ?_
    refine l_p rfl rfl (p_assign rfl) ?_
    refine l_nil ?_
    exact t_ret2 rfl rfl rfl fun w hI => ⟨σ, .refl σ, ⟨_, by rw [h']; rfl, by rw [h']; exact Sl.nil ..⟩, hI.tail⟩
  have h' : rightBind (o', g', tag, len', tick') = true := by simpa using h
  rw [h']
  obtain ⟨o, g, len, tick, e, ho, hg, hlen, htick, htag⟩ := own_bind h'
  cases e
  dsimp only at htag
  refine t_skip ?_
  refine t_seq ?_
  refine t_drawd _ (fun w hI => hI) ?_
  refine d_take 0 rfl (by kernel_rfl) rfl rfl (p_fa (by exact rfl) Rds.bxi) ?_
  refine d_take 1 rfl (by kernel_rfl) rfl rfl (p_ld1 (by exact rfl) Rds.bxi) ?_
  refine d_take 2 rfl (by kernel_rfl) rfl rfl (p_fa (by exact rfl) Rds.bxi) ?_
  refine d_take 3 rfl (by kernel_rfl) rfl rfl (p_ld1 (by exact rfl) (Rds.fld Rds.bxi (by exact rfl))) ?_
  refine d_take 5 rfl (by kernel_rfl) rfl rfl (p_fa (by exact rfl) Rds.bxi) ?_
  refine d_take 6 rfl (by kernel_rfl) rfl rfl (p_ld1 (by exact rfl) (Rds.fld Rds.bxi (by exact rfl))) ?_
  refine d_take 7 rfl (by kernel_rfl) rfl rfl (p_convu64 (by exact rfl) (by omega)) ?_
  refine d_br1 (i := 4) (by kernel_rfl) rfl ?_
  refine l_call0 rfl rfl rfl (cbegin σ o g ho hg) ?_
  intro v σ1 h1 hS1
  obtain ⟨A1, c1, rfl, _⟩ := hS1.shape
  refine l_nil ?_
  refine d_go (fun w hI => (hI).weaken (by assumption)) ?_
  refine d_br1 (i := 8) (by kernel_rfl) rfl ?_
  refine l_call0 rfl rfl rfl (nput len 2 (by decide) (by omega) hS1 (by simp [be_len])) ?_
  intro v σ2 h2 hS2
  obtain ⟨A2, c2, rfl, _⟩ := hS2.shape
  refine l_nil ?_
  refine d_go (fun w hI => hI.weaken (h1.trans h2)) ?_
  refine d_take 9 rfl (by kernel_rfl) rfl rfl (p_assign rfl) ?_
  refine d_done (by kernel_rfl) ?_
  refine t_seq ?_
  refine t_region ?_
  refine l_p rfl rfl (p_move rfl) ?_
  refine l_p rfl rfl (p_fa (by exact rfl) Rds.bxi) ?_
  refine l_p rfl rfl (p_ld1 (by exact rfl) (Rds.fld Rds.bxi (by exact rfl))) ?_
  refine l_p rfl rfl (p_convu64 (by exact rfl) (by omega)) ?_
  refine l_call1 rfl rfl rfl (nput1 tick 8 (by decide) (by omega) hS2 (by simp [be_len])) ?_
  rintro _ _ _ - ⟨rfl, A3, c3, rfl, rfl⟩
  refine l_p rfl rfl (p_assign rfl) ?_
  refine l_nil ?_
  refine t_seq ?_
  refine t_region ?_
  refine l_p rfl rfl (p_move rfl) ?_
  refine l_p rfl rfl (p_fa (by exact rfl) Rds.bxi) ?_
  refine l_p rfl rfl (p_ld1 (by exact rfl) (Rds.fld Rds.bxi (by exact rfl))) ?_
  refine l_appu tag rfl rfl rfl rfl .z (Src.str tag) rfl (by simp [be_len]; omega) fun A4 c4 => ?_
  refine l_p rfl rfl (p_assign rfl) ?_
  refine l_p rfl rfl (p_assign rfl) ?_
  refine l_nil ?_
  refine t_fzo .z fun σ3 h3 hS3 => ?_
  exact t_ret2 rfl rfl rfl fun w hI => ⟨σ3, (h1.trans h2).trans h3, ⟨_, rfl, by simpa [bindBytes] using hS3⟩, hI.tail⟩
theorem cputpiece {σ : Stb} (x : PieceM) {A : Option Addr} {cc : Nat} (hS : Sl σ 1 eu8 (.slice A x.2.2.2.length cc) x.2.2.2) : Sp0 Tryd.prog 52 [vPiece x A cc] σ fun v σ' => PutR σ' v (rightPiece x) (pieceBytes x) := by
  have hcp := cpiece σ x A cc
  obtain ⟨o', g', i', body⟩ := x
  simp only [vPiece] at hcp hS ⊢
  refine sp0 Tryd.func52 rfl (by kernel_rfl) rfl fun F => ?_
  refine t_seq ?_
  refine t_region ?_
  refine l_box rfl rfl rfl rfl ?_; intro _
  refine l_p rfl rfl (p_assign rfl) ?_
  refine l_p rfl rfl (p_assign rfl) ?_
  refine l_nil ?_
  refine t_seq ?_
  refine t_seq ?_
  refine t_region ?_
  refine l_p rfl rfl (p_ldn (by exact rfl) Rds.bxi (by exact rfl) (by exact rfl)) ?_
  refine l_callv rfl rfl rfl hcp ?_
  refine l_p rfl rfl (p_not rfl) ?_
  refine l_nil ?_
  refine t_if rfl (fun h => ?_) (fun h => ?_)
  · have h' : rightPiece (o', g', i', body) = false := by simpa using h
    refine t_seq ?_
    refine t_region ?_
    refine l_p rfl rfl (p_assign rfl) ?_
    refine l_p rfl rfl (p_assign rfl) ?_
    refine l_nil ?_
    exact t_ret2 rfl rfl rfl fun w hI => ⟨σ, .refl σ, ⟨_, by rw [h']; rfl, by rw [h']; exact Sl.nil ..⟩, hI.tail⟩
  have h' : rightPiece (o', g', i', body) = true := by simpa using h
  rw [h']
  obtain ⟨o, g, i, e, ho, hg, hi, hb1, hb2⟩ := own_piece h'
  cases e
  dsimp only at hb1 hb2
  refine t_skip ?_
  refine t_seq ?_
  refine t_drawd _ (fun w hI => hI) ?_
  refine d_take 0 rfl (by kernel_rfl) rfl rfl (p_fa (by exact rfl) Rds.bxi) ?_
  refine d_take 1 rfl (by kernel_rfl) rfl rfl (p_ld1 (by exact rfl) Rds.bxi) ?_
  refine d_take 2 rfl (by kernel_rfl) rfl rfl (p_fa (by exact rfl) Rds.bxi) ?_
  refine d_take 3 rfl (by kernel_rfl) rfl rfl (p_ld1 (by exact rfl) (Rds.fld Rds.bxi (by exact rfl))) ?_
  refine d_take 5 rfl (by kernel_rfl) rfl rfl (p_fa (by exact rfl) Rds.bxi) ?_
  refine d_take 6 rfl (by kernel_rfl) rfl rfl (p_ld1 (by exact rfl) (Rds.fld Rds.bxi (by exact rfl))) ?_
  refine d_take 7 rfl (by kernel_rfl) rfl rfl (p_convu64 (by exact rfl) (by omega)) ?_
  refine d_take 9 rfl (by kernel_rfl) rfl rfl (p_fa (by exact rfl) Rds.bxi) ?_
  refine d_take 10 rfl (by kernel_rfl) rfl rfl (p_ld1 (by exact rfl) (Rds.fld Rds.bxi (by exact rfl))) ?_
  refine d_br1 (i := 4) (by kernel_rfl) rfl ?_
  refine l_call0 rfl rfl rfl (cbegin σ o g ho hg) ?_
  intro v σ1 h1 hS1
  obtain ⟨A1, c1, rfl, _⟩ := hS1.shape
  refine l_nil ?_
  refine d_go (fun w hI => (hI).weaken (by assumption)) ?_
  refine d_br1 (i := 8) (by kernel_rfl) rfl ?_
  refine l_call1 rfl rfl rfl (nput1 i 2 (by decide) (by omega) hS1 (by simp [be_len])) ?_
  rintro _ _ _ - ⟨rfl, A3, c3, rfl, rfl⟩
  refine l_nil ?_
  refine d_go (fun w hI => (hI.tail).weaken (by assumption)) ?_
  refine d_br1 (i := 11) (by kernel_rfl) rfl ?_
  refine l_appu body rfl rfl rfl rfl .z (Src.slu (hS.up h1)) rfl (by simp [be_len]; omega) fun A4 c4 => ?_
  refine l_nil ?_
  refine d_go (fun w hI => (hI.tail).weaken (by assumption)) ?_
  refine d_take 12 rfl (by kernel_rfl) rfl rfl (p_assign rfl) ?_
  refine d_take 13 rfl (by kernel_rfl) rfl rfl (p_assign rfl) ?_
  refine d_done (by kernel_rfl) ?_
  refine t_fzo .z fun σ3 h3 hS3 => ?_
  exact t_ret2 rfl rfl rfl fun w hI => ⟨σ3, h1.trans h3, ⟨_, rfl, by simpa [pieceBytes] using hS3⟩, hI.tail⟩
theorem toI_if (n : Nat) : (if (n : Int) < 9223372036854775808 then (n : Int) else (n : Int) - 18446744073709551616) = toI n := by
  unfold toI; split <;> split <;> omega
theorem cnumber {σ : Stb} {A : Option Addr} {c0 gb : Nat} {b : List UInt8} {ok : Bool} (k : Nat) (hk : 1 ≤ k ∧ k ≤ 8) (hS : Sl σ 1 eu8 (.slice A b.length c0) b) (hl : b.length ≤ 1000000000000) :
    Sq1 Tryd.prog 45 [.pointer (some ⟨gb, 0, none⟩), i64 k] σ (Bx gb [.slice A b.length c0, .bool ok] 85) fun v σ' r =>
      σ = σ' ∧ ∃ n b' ok' A' c', rdNum k (b, ok) = (n, b', ok') ∧ v = i64 (toI n) ∧ r = Bx gb [.slice A' b'.length c', .bool ok'] 85 ∧ Sl σ 1 eu8 (.slice A' b'.length c') b' := by
  obtain ⟨_, _, e, hcap⟩ := hS.shape
  cases e
  refine sq1 Tryd.func45 rfl (by kernel_rfl) rfl fun F => ?_
  refine t_seq ?_
  refine t_region ?_
  refine l_p rfl rfl (p_assign rfl) ?_
  refine l_nil ?_
  refine t_seq ?_
  refine t_region ?_
  refine l_p rfl rfl (p_move rfl) ?_
  refine l_p rfl rfl (p_ncp rfl) ?_
  refine l_p rfl rfl (p_fa (by exact rfl) Rds.bxi) ?_
  refine l_p rfl rfl (p_ld1 (by exact rfl) Rds.bxi) ?_
  refine l_p rfl rfl (p_move rfl) ?_
  refine l_callv rfl rfl rfl (nget 0 k hk.2 (by omega) hS (by omega)) ?_
  by_cases hc : k ≤ b.length
  · have e : getV b 0 k = .tuple #[.int .u64 (vbe (b.take k)), .bool true] := by rw [getV, if_pos (by omega), Nat.zero_add]; rfl
    have e2 : rdNum k (b, ok) = (vbe (b.take k), b.drop k, ok) := by rw [rdNum, if_pos (by exact hc)]
    have hlt := vbe_lt (b.take k)
    rw [List.length_take, Nat.min_eq_left hc] at hlt
    have hp : (256 : Nat) ^ k ≤ 256 ^ 8 := Nat.pow_le_pow_right (by decide) hk.2
    have hp8 : (256 : Nat) ^ 8 = 18446744073709551616 := by decide
    rw [e]
    have hS2 := hS.sub (i := k) (j := b.length) hc (Nat.le_refl _)
    rw [List.take_length] at hS2
    obtain ⟨A3, c3, e3, _⟩ := hS2.shape
    refine l_p rfl rfl (p_move rfl) ?_
    refine l_p rfl rfl (p_ext rfl rfl) ?_
    refine l_p rfl rfl (p_ext rfl rfl) ?_
    refine l_p rfl rfl (p_assign rfl) ?_
    refine l_p rfl rfl (p_assign rfl) ?_
    refine l_nil ?_
    refine t_seq ?_
    refine t_seq ?_
    refine t_region ?_
    refine l_p rfl rfl (p_move rfl) ?_
    refine l_p rfl rfl (p_nott rfl) ?_
    refine l_nil ?_
    refine t_iff rfl ?_
    refine t_skip ?_
    refine t_seq ?_
    refine t_region ?_
    refine l_p rfl rfl (p_move rfl) ?_
    refine l_p rfl rfl (p_move rfl) ?_
    refine l_p rfl rfl (p_ncp rfl) ?_
    refine l_p rfl rfl (p_fa (by exact rfl) Rds.bxi) ?_
    refine l_p rfl rfl (p_ld1 (by exact rfl) Rds.bxi) ?_
    refine l_p rfl rfl (p_move rfl) ?_
    refine l_p rfl rfl (p_cutl _ (by exact rfl) (by exact rfl) (by exact rfl) (by omega)) ?_
    refine l_p rfl rfl (p_ncp rfl) ?_
    refine l_p rfl rfl (p_fa (by exact rfl) Rds.bxi) ?_
    refine l_sti rfl rfl rfl rfl rfl (by exact rfl) (by exact rfl) (by exact rfl) (by exact ⟨rfl, rfl⟩) ?_
    refine l_nil ?_
    refine t_seq ?_
    refine t_region ?_
    refine l_p rfl rfl (p_move rfl) ?_
    refine l_p rfl rfl (p_convui (by exact rfl) (by omega)) ?_
    rw [toI_if]
    refine l_p rfl rfl (p_assign rfl) ?_
    refine l_nil ?_
    rw [e3] at hS2 ⊢
    exact t_ret1 rfl rfl fun w hI => ⟨σ, _, .refl σ, ⟨rfl, _, _, _, A3, c3, e2, rfl, rfl, hS2⟩, hI⟩
  · have e : getV b 0 k = .tuple #[.int .u64 0, .bool false] := by rw [getV, if_neg (by omega)]
    have e2 : rdNum k (b, ok) = (0, b, false) := by rw [rdNum, if_neg (by exact hc)]
    rw [e]
    refine l_p rfl rfl (p_move rfl) ?_
    refine l_p rfl rfl (p_ext rfl rfl) ?_
    refine l_p rfl rfl (p_ext rfl rfl) ?_
    refine l_p rfl rfl (p_assign rfl) ?_
    refine l_p rfl rfl (p_assign rfl) ?_
    refine l_nil ?_
    refine t_seq ?_
    refine t_seq ?_
    refine t_region ?_
    refine l_p rfl rfl (p_move rfl) ?_
    refine l_p rfl rfl (p_notf rfl) ?_
    refine l_nil ?_
    refine t_ift rfl ?_
    refine t_seq ?_
    refine t_region ?_
    refine l_p rfl rfl (p_move rfl) ?_
    refine l_p rfl rfl (p_ncp rfl) ?_
    refine l_p rfl rfl (p_fa (by exact rfl) Rds.bxi) ?_
    refine l_sti rfl rfl rfl rfl rfl (by exact rfl) (by exact rfl) (by exact rfl) (by exact ⟨rfl, rfl⟩) ?_
    refine l_nil ?_
    refine t_seq ?_
    refine t_region ?_
    refine l_p rfl rfl (p_assign rfl) ?_
    refine l_nil ?_
    exact t_ret1 rfl rfl fun w hI => ⟨σ, _, .refl σ, ⟨rfl, _, _, _, A, c0, e2, rfl, rfl, hS⟩, hI⟩
theorem cgetbind {σ : Stb} {A : Option Addr} {c0 : Nat} {b : List UInt8} (hS : Sl σ 1 eu8 (.slice A b.length c0) b) (hl : b.length ≤ 1000000000000) :
    SpV Tryd.prog 33 [.slice A b.length c0] σ (.tuple #[vBind (getBind b).1, i64 (getBind b).2]) := by
  refine spv Tryd.func33 rfl (by kernel_rfl) rfl fun F => ?_
  refine t_seq ?_
  refine t_region ?_
  refine l_alloc (by exact rfl) (by exact rfl) (by exact rfl) ?_; intro _
  refine l_p rfl rfl (p_assign rfl) ?_
  refine l_nil ?_
  refine t_seq ?_
  refine t_region ?_
  refine l_p rfl rfl (p_move rfl) ?_
  refine l_p rfl rfl (p_build (by exact rfl) (by exact rfl) (by exact rfl) (by exact rfl)) ?_
  refine l_box rfl rfl rfl rfl ?_; intro _
  refine l_p rfl rfl (p_assign rfl) ?_
  refine l_nil ?_
  refine t_seq ?_
  refine t_region ?_
  refine l_p rfl rfl (p_move rfl) ?_
  refine l_callq1 rfl rfl rfl .z (cnumber (ok := true) 1 (by decide) hS hl) ?_
  rintro _ _ _ - ⟨rfl, n1, b1, ok1, A1, c1, h1, rfl, rfl, hS1⟩
  have l1 := rdNum_len 1 (b, true)
  rw [h1] at l1
  refine l_p rfl rfl (p_move rfl) ?_
  refine l_callq1 rfl rfl rfl .z (cnumber (ok := ok1) 4 (by decide) hS1 (by dsimp only at l1; omega)) ?_
  rintro _ _ _ - ⟨rfl, n2, b2, ok2, A2, c2, h2, rfl, rfl, hS2⟩
  have l2 := rdNum_len 4 (b1, ok1)
  rw [h2] at l2
  refine l_p rfl rfl (p_move rfl) ?_
  refine l_callq1 rfl rfl rfl .z (cnumber (ok := ok2) 2 (by decide) hS2 (by dsimp only at l1 l2; omega)) ?_
  rintro _ _ _ - ⟨rfl, n3, b3, ok3, A3, c3, h3, rfl, rfl, hS3⟩
  have l3 := rdNum_len 2 (b2, ok2)
  rw [h3] at l3
  refine l_p rfl rfl (p_move rfl) ?_
  refine l_callq1 rfl rfl rfl .z (cnumber (ok := ok3) 8 (by decide) hS3 (by dsimp only at l1 l2 l3; omega)) ?_
  rintro _ _ _ - ⟨rfl, n4, b4, ok4, A4, c4, h4, rfl, rfl, hS4⟩
  have l4 := rdNum_len 8 (b3, ok3)
  rw [h4] at l4
  dsimp only at l1 l2 l3 l4
  have hrd := rd4 h1 h2 h3 h4
  refine l_p rfl rfl (p_build (by exact rfl) (by exact rfl) (by exact rfl) (by exact rfl)) ?_
  refine l_alloc (by exact rfl) (by exact rfl) (by exact rfl) ?_; intro _
  refine l_sti rfl rfl rfl rfl rfl (by exact rfl) (by exact rfl) (by exact rfl) (by exact ⟨rfl, rfl⟩) ?_
  refine l_nil ?_
  refine t_seq ?_
  refine t_region ?_
  refine l_p rfl rfl (p_move rfl) ?_
  refine l_p rfl rfl (p_ncp rfl) ?_
  refine l_p rfl rfl (p_fa (by exact rfl) Rds.bxi) ?_
  refine l_p rfl rfl (p_ld1 (by exact rfl) Rds.bxi) ?_
  refine l_p rfl rfl (p_b2s (by exact rfl) (Src.slu hS4)) ?_
  refine l_p rfl rfl (p_fa (by exact rfl) Rds.bxi) ?_
  refine l_sti rfl rfl rfl rfl rfl (by exact rfl) (by exact rfl) (by exact rfl) (by exact ⟨rfl, rfl⟩) ?_
  refine l_nil ?_
  refine t_seq ?_
  refine t_seq ?_
  refine t_region ?_
  refine l_p rfl rfl (p_move rfl) ?_
  refine l_p rfl rfl (p_ncp rfl) ?_
  refine l_p rfl rfl (p_fa (by exact rfl) Rds.bxi) ?_
  refine l_p rfl rfl (p_ld1 (by exact rfl) (Rds.fld Rds.bxi (by exact rfl))) ?_
  refine l_p rfl rfl (p_not rfl) ?_
  refine l_p rfl rfl (p_move rfl) ?_
  rcases hrd with ⟨g1, g2, g3, g4, g5, g6⟩ | ⟨g1, g2⟩
  · cases g6
    have hx : rawBind b = (toI n1, toI n2, b.drop 15, toI n3, toI n4) := by rw [g2, g3, g4, g5]; rfl
    cases hr : rightBind (rawBind b) with
    | false =>
      have e : getBind b = ((0, 0, [], 0, 0), 3) := by rw [getBind, if_pos (.inr hr)]
      rw [e]
      rw [hx] at hr
      refine l_p rfl rfl (p_ldn (by exact rfl) Rds.bxi (by exact rfl) (by exact rfl)) ?_
      refine l_callv rfl rfl rfl (cbind σ (toI n1, toI n2, b.drop 15, toI n3, toI n4) (by dsimp only; omega)) ?_
      rw [hr]
      refine l_p rfl rfl (p_notf rfl) ?_
      refine l_p rfl rfl (p_pickf rfl rfl) ?_
      refine l_nil ?_
      refine t_ift rfl ?_
      refine t_seq ?_
      refine t_region ?_
      refine l_p rfl rfl (p_build (by exact rfl) (by exact rfl) (by exact rfl) (by exact rfl)) ?_
      refine l_sti rfl rfl rfl rfl rfl (by exact rfl) (by exact rfl) (by exact rfl) (by exact ⟨rfl, rfl⟩) ?_
      refine l_p rfl rfl (p_assign rfl) ?_
      refine l_nil ?_
      exact t_ret rfl (.cn rfl Rds.bxi rfl rfl (.tmp rfl .nil)) fun w hI => ⟨rfl, hI.tail.tail.tail⟩
    | true =>
      have e : getBind b = (rawBind b, 0) := by rw [getBind, if_neg (by simp only [hr]; simp; omega)]
      rw [e, hx]
      rw [hx] at hr
      refine l_p rfl rfl (p_ldn (by exact rfl) Rds.bxi (by exact rfl) (by exact rfl)) ?_
      refine l_callv rfl rfl rfl (cbind σ (toI n1, toI n2, b.drop 15, toI n3, toI n4) (by dsimp only; omega)) ?_
      rw [hr]
      refine l_p rfl rfl (p_nott rfl) ?_
      refine l_p rfl rfl (p_pickf rfl rfl) ?_
      refine l_nil ?_
      refine t_iff rfl ?_
      refine t_skip ?_
      refine t_seq ?_
      refine t_region ?_
      refine l_p rfl rfl (p_ldn (by exact rfl) Rds.bxi (by exact rfl) (by exact rfl)) ?_
      refine l_sti rfl rfl rfl rfl rfl (by exact rfl) (by exact rfl) (by exact rfl) (by exact ⟨rfl, rfl⟩) ?_
      refine l_p rfl rfl (p_assign rfl) ?_
      refine l_nil ?_
      exact t_ret rfl (.cn rfl Rds.bxi rfl rfl (.tmp rfl .nil)) fun w hI => ⟨rfl, hI.tail.tail.tail⟩
  · dsimp only at g2
    subst g2
    have e : getBind b = ((0, 0, [], 0, 0), 3) := by rw [getBind, if_pos (.inl g1)]
    rw [e]
    refine l_skip rfl rfl ?_
    refine l_skip rfl rfl ?_
    refine l_skip rfl rfl ?_
    refine l_p rfl rfl (p_pickt rfl rfl) ?_
    refine l_nil ?_
    refine t_ift rfl ?_
    refine t_seq ?_
    refine t_region ?_
    refine l_p rfl rfl (p_build (by exact rfl) (by exact rfl) (by exact rfl) (by exact rfl)) ?_
    refine l_sti rfl rfl rfl rfl rfl (by exact rfl) (by exact rfl) (by exact rfl) (by exact ⟨rfl, rfl⟩) ?_
    refine l_p rfl rfl (p_assign rfl) ?_
    refine l_nil ?_
    exact t_ret rfl (.cn rfl Rds.bxi rfl rfl (.tmp rfl .nil)) fun w hI => ⟨rfl, hI.tail.tail.tail⟩
theorem bsclone {σ : Stb} {A : Option Addr} {n0 cc : Nat} {b : List UInt8} (hS : Sl σ 1 eu8 (.slice A n0 cc) b) (hl : b.length ≤ 100000000000000) : Sp1 Tryd.prog 47 [.slice A n0 cc] σ fun v σ' r => σ = σ' ∧ ∃ A' c', v = .slice A' b.length c' ∧ r = own 1 eu8 5 (.slice A' b.length c') b := by
  have hn := hS.len
  subst hn
  refine sp1 Tryd.func47 rfl (by kernel_rfl) rfl fun F => ?_
  refine t_seq ?_
  refine t_region ?_
  refine l_p rfl rfl (p_assign rfl) ?_
  refine l_nil ?_
  refine t_seq ?_
  refine t_seq ?_
  refine t_region ?_
  refine l_p rfl rfl (p_move rfl) ?_
  refine l_p rfl rfl (p_slnil (by exact rfl) (by exact rfl)) ?_
  refine l_nil ?_
  refine t_if rfl (fun h => ?_) (fun h => ?_)
  · refine t_seq ?_
    refine t_region ?_
    refine l_p rfl rfl (p_assign rfl) ?_
    refine l_nil ?_
    have hA : A = none := by simpa using h
    obtain ⟨h1, h2⟩ := hS.of_none hA
    subst h1
    exact t_ret1 rfl rfl fun w hI => ⟨σ, _, .refl σ, ⟨rfl, none, 0, rfl, rfl⟩, hI.own0 ..⟩
  · refine t_skip ?_
    refine t_seq ?_
    refine t_region ?_
    refine l_bsl (by exact rfl) (by exact rfl) (by exact rfl) (by exact rfl) (by exact rfl) (by exact rfl) (by exact rfl) ?_; intro _
    refine l_p rfl rfl (p_move rfl) ?_
    refine l_ownb 1 eu8 ([] : List UInt8) 0 (by with_reducible first | exact .z | exact .s .z | exact .s (.s .z) | exact .s (.s (.s .z)) | exact .s (.s (.s (.s .z))) | exact .s (.s (.s (.s (.s .z))))) rfl (by exact rfl) (by simp) (by simp) ?_
    refine l_appu (xs := ([] : List UInt8)) b rfl rfl rfl rfl .z (Src.slu hS) rfl (by simp; omega) fun A' c' => ?_
    refine l_p rfl rfl (p_assign rfl) ?_
    refine l_nil ?_
    simp only [List.length_nil, Nat.zero_add, List.nil_append]
    exact t_ret1 rfl rfl fun w hI => ⟨σ, _, .refl σ, ⟨rfl, A', c', rfl, rfl⟩, hI⟩
def PieceR (σ : Stb) (v : Value) (q : PieceM × Nat) : Prop := ∃ A cc, v = .tuple #[vPiece q.1 A cc, i64 q.2] ∧ Sl σ 1 eu8 (.slice A q.1.2.2.2.length cc) q.1.2.2.2
theorem cgetpiece {σ : Stb} {A : Option Addr} {c0 : Nat} {b : List UInt8} (hS : Sl σ 1 eu8 (.slice A b.length c0) b) (hl : b.length ≤ 1000000000000) :
    Sp0 Tryd.prog 35 [.slice A b.length c0] σ fun v σ' => PieceR σ' v (getPiece b) := by
  refine sp0 Tryd.func35 rfl (by kernel_rfl) rfl fun F => ?_
  refine t_seq ?_
  refine t_region ?_
  refine l_alloc (by exact rfl) (by exact rfl) (by exact rfl) ?_; intro _
  refine l_p rfl rfl (p_assign rfl) ?_
  refine l_nil ?_
  refine t_seq ?_
  refine t_region ?_
  refine l_p rfl rfl (p_move rfl) ?_
  refine l_p rfl rfl (p_build (by exact rfl) (by exact rfl) (by exact rfl) (by exact rfl)) ?_
  refine l_box rfl rfl rfl rfl ?_; intro _
  refine l_p rfl rfl (p_assign rfl) ?_
  refine l_nil ?_
  refine t_seq ?_
  refine t_region ?_
  refine l_p rfl rfl (p_move rfl) ?_
  refine l_callq1 rfl rfl rfl .z (cnumber (ok := true) 1 (by decide) hS hl) ?_
  rintro _ _ _ - ⟨rfl, n1, b1, ok1, A1, c1, h1, rfl, rfl, hS1⟩
  have l1 := rdNum_len 1 (b, true)
  rw [h1] at l1
  refine l_p rfl rfl (p_move rfl) ?_
  refine l_callq1 rfl rfl rfl .z (cnumber (ok := ok1) 4 (by decide) hS1 (by dsimp only at l1; omega)) ?_
  rintro _ _ _ - ⟨rfl, n2, b2, ok2, A2, c2, h2, rfl, rfl, hS2⟩
  have l2 := rdNum_len 4 (b1, ok1)
  rw [h2] at l2
  refine l_p rfl rfl (p_move rfl) ?_
  refine l_callq1 rfl rfl rfl .z (cnumber (ok := ok2) 2 (by decide) hS2 (by dsimp only at l1 l2; omega)) ?_
  rintro _ _ _ - ⟨rfl, n3, b3, ok3, A3, c3, h3, rfl, rfl, hS3⟩
  have l3 := rdNum_len 2 (b2, ok2)
  rw [h3] at l3
  dsimp only at l1 l2 l3
  have hrd := rd3 h1 h2 h3
  refine l_p rfl rfl (p_build (by exact rfl) (by exact rfl) (by exact rfl) (by exact rfl)) ?_
  refine l_alloc (by exact rfl) (by exact rfl) (by exact rfl) ?_; intro _
  refine l_sti rfl rfl rfl rfl rfl (by exact rfl) (by exact rfl) (by exact rfl) (by exact ⟨rfl, rfl⟩) ?_
  refine l_nil ?_
  refine t_seq ?_
  refine t_region ?_
  refine l_p rfl rfl (p_move rfl) ?_
  refine l_p rfl rfl (p_ncp rfl) ?_
  refine l_p rfl rfl (p_fa (by exact rfl) Rds.bxi) ?_
  refine l_p rfl rfl (p_ld1 (by exact rfl) Rds.bxi) ?_
  refine l_call0 rfl rfl rfl ((bsclone hS3 (by omega)).fz) ?_
  intro v σ1 hσ1 hS4
  obtain ⟨A4, c4, rfl, _⟩ := hS4.shape
  refine l_p rfl rfl (p_fa (by exact rfl) Rds.bxi) ?_
  refine l_sti rfl rfl rfl rfl rfl (by exact rfl) (by exact rfl) (by exact rfl) (by exact ⟨rfl, rfl⟩) ?_
  refine l_nil ?_
  refine t_seq ?_
  refine t_seq ?_
  refine t_region ?_
  refine l_p rfl rfl (p_move rfl) ?_
  refine l_p rfl rfl (p_ncp rfl) ?_
  refine l_p rfl rfl (p_fa (by exact rfl) Rds.bxi) ?_
  refine l_p rfl rfl (p_ld1 (by exact rfl) (Rds.fld Rds.bxi (by exact rfl))) ?_
  refine l_p rfl rfl (p_not rfl) ?_
  refine l_p rfl rfl (p_move rfl) ?_
  rcases hrd with ⟨g1, g2, g3, g4, g6⟩ | ⟨g1, g2⟩
  · cases g6
    have hx : rawPiece b = (toI n1, toI n2, toI n3, b.drop 7) := by rw [g2, g3, g4]; rfl
    cases hr : rightPiece (rawPiece b) with
    | false =>
      have e : getPiece b = ((0, 0, 0, []), 3) := by rw [getPiece, if_pos (.inr hr)]
      rw [e]
      rw [hx] at hr
      refine l_p rfl rfl (p_ldn (by exact rfl) Rds.bxi (by exact rfl) (by exact rfl)) ?_
      refine l_callv rfl rfl rfl (cpiece σ1 (toI n1, toI n2, toI n3, b.drop 7) A4 c4) ?_
      rw [hr]
      refine l_p rfl rfl (p_notf rfl) ?_
      refine l_p rfl rfl (p_pickf rfl rfl) ?_
      refine l_nil ?_
      refine t_ift rfl ?_
      refine t_seq ?_
      refine t_region ?_
      refine l_p rfl rfl (p_build (by exact rfl) (by exact rfl) (by exact rfl) (by exact rfl)) ?_
      refine l_sti rfl rfl rfl rfl rfl (by exact rfl) (by exact rfl) (by exact rfl) (by exact ⟨rfl, rfl⟩) ?_
      refine l_p rfl rfl (p_assign rfl) ?_
      refine l_nil ?_
      exact t_ret rfl (.cn rfl Rds.bxi rfl rfl (.tmp rfl .nil)) fun w hI => ⟨σ1, hσ1, ⟨_, _, rfl, Sl.nil ..⟩, hI.tail.tail.tail⟩
    | true =>
      have e : getPiece b = (rawPiece b, 0) := by rw [getPiece, if_neg (by simp only [hr]; simp; omega)]
      rw [e, hx]
      rw [hx] at hr
      refine l_p rfl rfl (p_ldn (by exact rfl) Rds.bxi (by exact rfl) (by exact rfl)) ?_
      refine l_callv rfl rfl rfl (cpiece σ1 (toI n1, toI n2, toI n3, b.drop 7) A4 c4) ?_
      rw [hr]
      refine l_p rfl rfl (p_nott rfl) ?_
      refine l_p rfl rfl (p_pickf rfl rfl) ?_
      refine l_nil ?_
      refine t_iff rfl ?_
      refine t_skip ?_
      refine t_seq ?_
      refine t_region ?_
      refine l_p rfl rfl (p_ldn (by exact rfl) Rds.bxi (by exact rfl) (by exact rfl)) ?_
      refine l_sti rfl rfl rfl rfl rfl (by exact rfl) (by exact rfl) (by exact rfl) (by exact ⟨rfl, rfl⟩) ?_
      refine l_p rfl rfl (p_assign rfl) ?_
      refine l_nil ?_
      exact t_ret rfl (.cn rfl Rds.bxi rfl rfl (.tmp rfl .nil)) fun w hI => ⟨σ1, hσ1, ⟨A4, c4, rfl, hS4⟩, hI.tail.tail.tail⟩
  · dsimp only at g2
    subst g2
    have e : getPiece b = ((0, 0, 0, []), 3) := by rw [getPiece, if_pos (.inl g1)]
    rw [e]
    refine l_skip rfl rfl ?_
    refine l_skip rfl rfl ?_
    refine l_skip rfl rfl ?_
    refine l_p rfl rfl (p_pickt rfl rfl) ?_
    refine l_nil ?_
    refine t_ift rfl ?_
    refine t_seq ?_
    refine t_region ?_
    refine l_p rfl rfl (p_build (by exact rfl) (by exact rfl) (by exact rfl) (by exact rfl)) ?_
    refine l_sti rfl rfl rfl rfl rfl (by exact rfl) (by exact rfl) (by exact rfl) (by exact ⟨rfl, rfl⟩) ?_
    refine l_p rfl rfl (p_assign rfl) ?_
    refine l_nil ?_
    exact t_ret rfl (.cn rfl Rds.bxi rfl rfl (.tmp rfl .nil)) fun w hI => ⟨σ1, hσ1, ⟨_, _, rfl, Sl.nil ..⟩, hI.tail.tail.tail⟩
end Go.Proofs.YtbijponhndknlaaDoor
