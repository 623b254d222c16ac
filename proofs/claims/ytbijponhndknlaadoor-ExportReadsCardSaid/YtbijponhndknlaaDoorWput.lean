/- What is held, laid as bytes: walks. -/
import Derived.Test.YtbijponhndknlaaDoorWexport
import Derived.Test.YtbijponhndknlaaDoorWjoin
import Derived.Test.YtbijponhndknlaaDoorX13
set_option linter.unusedSimpArgs false
set_option linter.unusedVariables false
set_option maxRecDepth 20000
namespace Go.Proofs.YtbijponhndknlaaDoor
open Go.Sp
attribute [local irreducible] Go.Sp.Pr Go.Sp.Ws Go.Sp.Wl Go.Sp.Wq Go.Sp.Rds Go.Sp.Src
theorem exlaid {σ : Stb} {A B : Option Addr} {c0 c1 : Nat} {a b : List UInt8} (e : Int) (hS : Sl σ 1 eu8 (.slice A a.length c0) a) (hT : Sl σ 1 eu8 (.slice B b.length c1) b) (hl : a.length ≤ 1000000000000) (hb : b.length ≤ 65535) :
    Sp0 Tryd.prog 50 [.slice A a.length c0, .slice B b.length c1, i64 e] σ fun v σ' => ∃ A' c', (e = 0 ∧ v = .tuple #[.slice A' (a ++ layB b).length c', .nilIface] ∧ Sl σ' 1 eu8 (.slice A' (a ++ layB b).length c') (a ++ layB b)) ∨ (e ≠ 0 ∧ v = .tuple #[.slice A' a.length c', fault 1] ∧ Sl σ' 1 eu8 (.slice A' a.length c') a) := by
  refine sp0 Tryd.func50 rfl (by kernel_rfl) rfl fun F => ?_
  refine t_seq ?_
  refine t_region ?_
  refine l_p rfl rfl (p_assign rfl) ?_
  refine l_p rfl rfl (p_assign rfl) ?_
  refine l_nil ?_
  refine t_seq ?_
  refine t_seq ?_
  refine t_region ?_
  refine l_p rfl rfl (p_move rfl) ?_
  refine l_p rfl rfl (p_ne rfl rfl) ?_
  refine l_nil ?_
  refine t_ifd rfl (fun h => ?_) (fun h => ?_)
  · refine t_seq ?_
    refine t_region ?_
    refine l_p rfl rfl (p_move rfl) ?_
    refine l_p rfl rfl (p_build (by exact rfl) (by exact rfl) (by exact rfl) (by exact rfl)) ?_
    refine l_p rfl rfl (p_iface (by exact rfl)) ?_
    refine l_p rfl rfl (p_assign rfl) ?_
    refine l_p rfl rfl (p_assign rfl) ?_
    refine l_nil ?_
    exact t_ret2 rfl rfl rfl fun w hI => ⟨σ, .refl σ, ⟨A, c0, .inr ⟨h, rfl, hS⟩⟩, hI⟩
  · have h0 : e = 0 := by omega
    refine t_skip ?_
    refine t_seq ?_
    refine t_region ?_
    refine l_p rfl rfl (p_move rfl) ?_
    refine l_p rfl rfl (p_move rfl) ?_
    refine l_p rfl rfl (p_lensl (by exact rfl)) ?_
    refine l_p rfl rfl (p_convu64 (by exact rfl) (by omega)) ?_
    refine l_call1 rfl rfl rfl (nput1 b.length 2 (by decide) (by omega) hS (by omega)) ?_
    rintro _ _ _ - ⟨rfl, A3, c3, rfl, rfl⟩
    refine l_p rfl rfl (p_move rfl) ?_
    refine l_appu b rfl rfl rfl rfl .z (Src.slu hT) rfl (by simp [be_len]; omega) fun A4 c4 => ?_
    refine l_p rfl rfl (p_assign rfl) ?_
    refine l_p rfl rfl (p_assign rfl) ?_
    refine l_nil ?_
    refine t_fzo .z fun σ1 h1 hS1 => ?_
    have e1 : a ++ be b.length 2 ++ b = a ++ layB b := by simp [layB]
    have e2 : (a ++ be b.length 2).length + b.length = (a ++ layB b).length := by simp [layB]; omega
    rw [e1, e2] at hS1
    rw [e2]
    exact t_ret2 rfl rfl rfl fun w hI => ⟨σ1, h1, ⟨A4, c4, .inl ⟨h0, rfl, hS1⟩⟩, hI⟩
def HeldR (σ : Stb) (v : Value) (ok : Bool) (b : List UInt8) : Prop := ∃ A c er, (ok = true ∧ v = .tuple #[.slice A b.length c, .nilIface] ∧ Sl σ 1 eu8 (.slice A b.length c) b) ∨ (∃ n, ok = false ∧ v = .tuple #[.slice A n c, er] ∧ er ≠ .nilIface ∧ ErrV σ er 1)
structure PutI where
  j : Nat
  out : List UInt8
  A : Option Addr
  c : Nat
  s : Stb
theorem exheld {σ : Stb} {A : Option Addr} {c0 : Nat} {a : List UInt8} (h : HeldA) (hS : Sl σ 1 eu8 (.slice A a.length c0) a) (hl : a.length ≤ 100000000000) (hH : OkH σ h) (ht : h.1.2.2.1.length ≤ 1000000000) :
    Sp0 Tryd.prog 37 [.slice A a.length c0, .agg (eHd h).toArray] σ fun v σ' => HeldR σ' v (rightHeld (mH h)) (a ++ heldBytes (mH h)) := by
  obtain ⟨x, hv, l⟩ := h
  obtain ⟨hHl, hHp⟩ := hH
  dsimp only at hHl hHp ht
  obtain ⟨Ah, ch, rfl, hcap⟩ := hHl.shape
  have hbl := hHl.bound
  simp only [eHd]
  refine sp0 Tryd.func37 rfl (by kernel_rfl) rfl fun F => ?_
  refine t_seq ?_
  refine t_region ?_
  refine l_box rfl rfl rfl rfl ?_; intro _
  refine l_p rfl rfl (p_assign rfl) ?_
  refine l_p rfl rfl (p_assign rfl) ?_
  refine l_nil ?_
  refine t_seq ?_
  refine t_region ?_
  refine l_p rfl rfl (p_fa (by exact rfl) Rds.bxi) ?_
  refine l_p rfl rfl (p_ldn (by exact rfl) Rds.bxi (by exact rfl) (by exact rfl)) ?_
  rename_i g3
  refine l_call0 rfl rfl rfl (cputbind σ x (by omega)) ?_
  rintro v σ1 h1 ⟨sv, rfl, hS1⟩
  obtain ⟨A1, c1, rfl, _⟩ := hS1.shape
  have hrH : rightHeld (mH (x, (.slice Ah l.length ch, l))) = (rightBind x && (decide (l.length ≤ 4097) && rightPs x (l.map mP))) := by rw [rightHeld_eq]; simp [mH]
  refine l_p rfl rfl (p_move rfl) ?_
  refine l_p rfl rfl (p_ext rfl rfl) ?_
  refine l_p rfl rfl (p_ext rfl rfl) ?_
  refine l_p rfl rfl (p_assign rfl) ?_
  refine l_p rfl rfl (p_assign rfl) ?_
  refine l_nil ?_
  refine t_seq ?_
  refine t_region ?_
  refine l_p rfl rfl (p_move rfl) ?_
  refine l_p rfl rfl (p_move rfl) ?_
  refine l_p rfl rfl (p_move rfl) ?_
  cases hr : rightBind x with
  | false =>
    rw [hr] at hrH
    rw [hr] at hS1
    simp only [Bool.false_eq_true, if_false] at hS1 ⊢
    refine l_call0 rfl rfl rfl (exlaid 1 (hS.up h1) hS1 (by omega) (by simp)) ?_
    rintro v σ2 h2 ⟨A2, c2, ⟨h3, _⟩ | ⟨_, rfl, hS2⟩⟩
    · cases h3
    refine l_p rfl rfl (p_move rfl) ?_
    refine l_p rfl rfl (p_ext rfl rfl) ?_
    refine l_p rfl rfl (p_ext rfl rfl) ?_
    refine l_p rfl rfl (p_assign rfl) ?_
    refine l_p rfl rfl (p_assign rfl) ?_
    refine l_nil ?_
    refine t_seq ?_
    refine t_seq ?_
    refine t_region ?_
    refine l_p rfl rfl (p_move rfl) ?_
    refine l_p rfl rfl (p_ine (by kernel_rfl) (by exact rfl)) ?_
    refine l_p rfl rfl (p_move rfl) ?_
    refine l_skip rfl rfl ?_
    refine l_skip rfl rfl ?_
    refine l_skip rfl rfl ?_
    refine l_skip rfl rfl ?_
    refine l_p rfl rfl (p_pickt rfl rfl) ?_
    refine l_nil ?_
    refine t_ift rfl ?_
    refine t_seq ?_
    refine t_region ?_
    refine l_p rfl rfl (p_move rfl) ?_
    refine l_p rfl rfl (p_move rfl) ?_
    refine l_p rfl rfl (p_build (by exact rfl) (by exact rfl) (by exact rfl) (by exact rfl)) ?_
    refine l_p rfl rfl (p_iface (by exact rfl)) ?_
    refine l_bsl (by exact rfl) (by exact rfl) (by exact rfl) (by exact rfl) (by exact rfl) (by exact rfl) (by exact rfl) ?_; intro _
    refine l_ownb 1 eV [fault 1, fault 1] 2 .z rfl (by exact rfl) (by simp) (by simp) ?_
    refine l_fzo .z fun σ3 h3 hS3 => ?_
    refine l_call0 rfl rfl rfl (errJoin 1 hS3 (by simp) (by simp)) ?_
    rintro v σ4 h4 ⟨h5, h6⟩
    refine l_p rfl rfl (p_assign rfl) ?_
    refine l_p rfl rfl (p_assign rfl) ?_
    refine l_nil ?_
    exact t_ret2 rfl rfl rfl fun w hI => ⟨σ4, ((h1.trans h2).trans h3).trans h4, ⟨_, _, v, .inr ⟨_, by rw [hrH]; rfl, rfl, fun e => by rw [h6] at e; simp [isIf] at e, by simpa [isIf] using h5⟩⟩, hI.tail⟩
  | true =>
    rw [hr] at hrH
    rw [hr] at hS1
    simp only [if_true] at hS1 ⊢
    have hbb : (bindBytes x).length ≤ 55 := by
      obtain ⟨_, _, _, _, _, _, _, _, _, htag⟩ := own_bind hr
      simp [bindBytes, be_len]; omega
    refine l_call0 rfl rfl rfl (exlaid 0 (hS.up h1) hS1 (by omega) (by omega)) ?_
    rintro v σ2 h2 ⟨A2, c2, ⟨_, rfl, hS2⟩ | ⟨h3, _⟩⟩
    rotate_left
    · exact absurd rfl h3
    have hlb : (layB (bindBytes x)).length ≤ 57 := by simp [layB, be_len]; omega
    refine l_p rfl rfl (p_move rfl) ?_
    refine l_p rfl rfl (p_ext rfl rfl) ?_
    refine l_p rfl rfl (p_ext rfl rfl) ?_
    refine l_p rfl rfl (p_assign rfl) ?_
    refine l_p rfl rfl (p_assign rfl) ?_
    refine l_nil ?_
    refine t_seq ?_
    refine t_seq ?_
    refine t_region ?_
    refine l_p rfl rfl (p_move rfl) ?_
    refine l_p rfl rfl (p_ine0 (by kernel_rfl) (by exact rfl)) ?_
    refine l_p rfl rfl (p_move rfl) ?_
    refine l_p rfl rfl (p_fa (by exact rfl) Rds.bxi) ?_
    refine l_p rfl rfl (p_ld1 (by exact rfl) (Rds.fld Rds.bxi (by exact rfl))) ?_
    refine l_p rfl rfl (p_lensl (by exact rfl)) ?_
    refine l_p rfl rfl (p_gt rfl rfl) ?_
    refine l_p rfl rfl (p_pickf rfl rfl) ?_
    refine l_nil ?_
    refine t_ifd rfl (fun h4 => ?_) (fun h4 => ?_)
    · refine t_seq ?_
      refine t_region ?_
      refine l_p rfl rfl (p_move rfl) ?_
      refine l_p rfl rfl (p_move rfl) ?_
      refine l_p rfl rfl (p_build (by exact rfl) (by exact rfl) (by exact rfl) (by exact rfl)) ?_
      refine l_p rfl rfl (p_iface (by exact rfl)) ?_
      refine l_bsl (by exact rfl) (by exact rfl) (by exact rfl) (by exact rfl) (by exact rfl) (by exact rfl) (by exact rfl) ?_; intro _
      refine l_ownb 1 eV [.nilIface, fault 1] 2 .z rfl (by exact rfl) (by simp) (by simp) ?_
      refine l_fzo .z fun σ3 h3 hS3 => ?_
      refine l_call0 rfl rfl rfl (errJoin 1 hS3 (by simp) (by simp)) ?_
      rintro v σ4 h4' ⟨h5, h6⟩
      refine l_p rfl rfl (p_assign rfl) ?_
      refine l_p rfl rfl (p_assign rfl) ?_
      refine l_nil ?_
      exact t_ret2 rfl rfl rfl fun w hI => ⟨σ4, ((h1.trans h2).trans h3).trans h4', ⟨_, _, v, .inr ⟨_, by rw [hrH, decide_eq_false (by omega)]; rfl, rfl, fun e => by rw [h6] at e; simp [isIf] at e, by simpa [isIf] using h5⟩⟩, hI.tail⟩
    have bad : ∀ j (hj : j < (l.map mP).length), stepP x (l.map mP) j hj = false → rightHeld (mH (x, (.slice Ah l.length ch, l))) = false := fun j hj hs => by rw [hrH, rightPs_bad _ _ j hj hs]; simp
    refine t_skip ?_
    refine t_seq ?_
    refine t_region ?_
    refine l_p rfl rfl (p_move rfl) ?_
    refine l_p rfl rfl (p_fa (by exact rfl) Rds.bxi) ?_
    refine l_p rfl rfl (p_ld1 (by exact rfl) (Rds.fld Rds.bxi (by exact rfl))) ?_
    refine l_p rfl rfl (p_lensl (by exact rfl)) ?_
    refine l_p rfl rfl (p_convu64 (by exact rfl) (by omega)) ?_
    refine l_call0 rfl rfl rfl (nput l.length 2 (by decide) (by omega) hS2 (by simp; omega)) ?_
    intro v σ3 h3 hS3
    obtain ⟨A3, c3, rfl, _⟩ := hS3.shape
    generalize hpre : a ++ layB (bindBytes x) ++ be l.length 2 = pre at *
    have hprel : pre.length ≤ a.length + 59 := by rw [← hpre]; simp [be_len]; omega
    refine l_p rfl rfl (p_assign rfl) ?_
    refine l_nil ?_
    refine t_seq ?_
    refine t_seq ?_
    refine t_region ?_
    refine l_p rfl rfl (p_fa (by exact rfl) Rds.bxi) ?_
    refine l_p rfl rfl (p_ld1 (by exact rfl) (Rds.fld Rds.bxi (by exact rfl))) ?_
    refine l_p rfl rfl (p_lensl (by exact rfl)) ?_
    refine l_p rfl rfl (p_move rfl) ?_
    refine l_nil ?_
    refine t_block ?_
    refine t_loop (ι := PutI) { E := fun i => [(3, .pointer (some ⟨g3, 0, none⟩)), (47, .slice Ah l.length ch), (48, i64 l.length), (49, i64 i.j), (0, .slice i.A i.out.length i.c)], S := fun i => i.s, M := fun _ => Bx g3 [i64 x.1, i64 x.2.1, st x.2.2.1, i64 x.2.2.2.1, i64 x.2.2.2.2, .slice Ah l.length ch] 39 :: F, Φ := fun i => i.j ≤ l.length ∧ σ.le i.s ∧ Sl i.s 1 eu8 (.slice i.A i.out.length i.c) i.out ∧ rightPs x ((l.map mP).take i.j) = true ∧ i.out = pre ++ piecesBytes ((l.map mP).take i.j) ∧ i.out.length ≤ a.length + 59 + i.j * 100 } (fun i => l.length - i.j) ⟨0, pre, A3, c3, σ3⟩
      (by exact ⟨rfl, rfl, rfl, rfl, rfl, trivial⟩) ⟨Nat.zero_le _, (h1.trans h2).trans h3, hS3, rfl, by simp [piecesBytes], by dsimp only; omega⟩ (fun w hI => hI) ?_
    rintro ⟨j, out, A4, c4, σ4⟩ ⟨m1, m2, m3, m4, m5, m6⟩
    dsimp only at m1 m2 m3 m4 m5 m6 ⊢
    refine t_seq ?_
    refine t_region ?_
    refine l_p rfl rfl (p_lt rfl rfl) ?_
    refine l_nil ?_
    refine t_seq ?_
    refine t_ifd rfl (fun h5 => ?_) (fun h5 => ?_)
    · have hj : j < l.length := by omega
      have hj' : j < (l.map mP).length := by simpa using hj
      have hpj := (hHp l[j] (List.getElem_mem hj)).up m2
      obtain ⟨Ap, cp, hpv, _⟩ := Sl.shape hpj
      have hstep := rightPs_step x (l.map mP) j hj'
      have hgj : (l.map mP)[j] = mP l[j] := by simp
      have hHl4 := hHl.up m2
      have hob : ofBind x (mP l[j]) = (decide (l[j].1 = x.1) && decide (l[j].2.1 = x.2.1)) := rfl
      have bd := bad j hj'
      have hpc : ePc l[j] = [i64 l[j].1, i64 l[j].2.1, i64 l[j].2.2.1, .slice Ap l[j].2.2.2.2.length cp] := by simp only [ePc, hpv]
      refine t_skip ?_
      refine t_seq ?_
      refine t_block ?_
      refine t_seq ?_
      refine t_region ?_
      refine l_p rfl rfl (p_move rfl) ?_
      refine l_p rfl rfl (p_ix _ (by exact rfl) (by exact rfl) (by exact rfl) (by omega) (Rds.ix (by assumption) (by omega))) ?_
      refine l_p rfl rfl (p_ldn (by exact rfl) (Rds.ix (by assumption) (by omega)) (by exact rfl) (by exact rfl)) ?_
      refine l_alloc (by exact rfl) (by exact rfl) (by exact rfl) ?_; intro _
      refine l_p rfl rfl (p_assign rfl) ?_
      rw [hpc]
      have hpj2 : Sl σ4 1 eu8 (.slice Ap l[j].2.2.2.2.length cp) l[j].2.2.2.2 := hpv ▸ hpj
      have hsp : stepP x (l.map mP) j hj' = ((decide (l[j].1 = x.1) && decide (l[j].2.1 = x.2.1)) && (rightPiece (mP l[j]) && (decide (j = 0) || decide ((l[j - 1]'(by omega)).2.2.1 < l[j].2.2.1)))) := by
        simp only [stepP, hgj, hob, List.getElem_map]; rfl
      refine l_sti rfl rfl rfl rfl rfl (by exact rfl) (by exact rfl) (by exact rfl) (by exact ⟨rfl, rfl⟩) ?_
      refine l_nil ?_
      refine t_seq ?_
      refine t_seq ?_
      refine t_draw (by kernel_rfl) ?_
      refine q_p rfl rfl (p_fa (by exact rfl) Rds.bxi) ?_
      refine q_p rfl rfl (p_ld1 (by exact rfl) Rds.bxi) ?_
      refine q_p rfl rfl (p_fa (by exact rfl) Rds.bxi) ?_
      refine q_p rfl rfl (p_fa (by exact rfl) Rds.bxi) ?_
      refine q_p rfl rfl (p_ld1 (by exact rfl) Rds.bxi) ?_
      refine q_p rfl rfl (p_ne rfl rfl) ?_
      refine q_p rfl rfl (p_move rfl) ?_
      refine q_split 60 rfl (fun h6 => ?_) (fun h6 => ?_)
      · refine q_skip rfl rfl ?_
        refine q_skip rfl rfl ?_
        refine q_skip rfl rfl ?_
        refine q_skip rfl rfl ?_
        refine q_skip rfl rfl ?_
        refine q_skip rfl rfl ?_
        refine q_p rfl rfl (p_pickt rfl rfl) ?_
        refine q_p rfl rfl (p_move rfl) ?_
        refine q_skip rfl rfl ?_
        refine q_skip rfl rfl ?_
        refine q_skip rfl rfl ?_
        refine q_skip rfl rfl ?_
        refine q_skip rfl rfl ?_
        refine q_skip rfl rfl ?_
        refine q_skip rfl rfl ?_
        refine q_skip rfl rfl ?_
        refine q_skip rfl rfl ?_
        refine q_skip rfl rfl ?_
        refine q_skip rfl rfl ?_
        refine q_skip rfl rfl ?_
        refine q_skip rfl rfl ?_
        refine q_skip rfl rfl ?_
        refine q_p rfl rfl (p_pickt rfl rfl) ?_
        refine q_nil ?_
        refine t_ift rfl ?_
        refine t_seq ?_
        refine t_region ?_
        refine l_p rfl rfl (p_move rfl) ?_
        refine l_p rfl rfl (p_build (by exact rfl) (by exact rfl) (by exact rfl) (by exact rfl)) ?_
        refine l_p rfl rfl (p_iface (by exact rfl)) ?_
        refine l_p rfl rfl (p_assign rfl) ?_
        refine l_p rfl rfl (p_assign rfl) ?_
        refine l_nil ?_
        exact t_ret2 rfl rfl rfl fun w hI => ⟨σ4, m2, ⟨_, _, fault 1, .inr ⟨_, bd (by rw [hsp, decide_eq_false h6]; rfl), rfl, (fun e => by cases e), .fault 1⟩⟩, hI.tail.tail⟩
      have h6' := Decidable.not_not.1 h6
      refine q_p rfl rfl (p_fa (by exact rfl) Rds.bxi) ?_
      refine q_p rfl rfl (p_ld1 (by exact rfl) (Rds.fld Rds.bxi (by exact rfl))) ?_
      refine q_p rfl rfl (p_fa (by exact rfl) Rds.bxi) ?_
      refine q_p rfl rfl (p_fa (by exact rfl) Rds.bxi) ?_
      refine q_p rfl rfl (p_ld1 (by exact rfl) (Rds.fld Rds.bxi (by exact rfl))) ?_
      refine q_p rfl rfl (p_ne rfl rfl) ?_
      refine q_p rfl rfl (p_pickf rfl rfl) ?_
      refine q_p rfl rfl (p_move rfl) ?_
      refine q_split 68 rfl (fun h7 => ?_) (fun h7 => ?_)
      · refine q_skip rfl rfl ?_
        refine q_skip rfl rfl ?_
        refine q_skip rfl rfl ?_
        refine q_skip rfl rfl ?_
        refine q_skip rfl rfl ?_
        refine q_skip rfl rfl ?_
        refine q_skip rfl rfl ?_
        refine q_skip rfl rfl ?_
        refine q_skip rfl rfl ?_
        refine q_skip rfl rfl ?_
        refine q_skip rfl rfl ?_
        refine q_skip rfl rfl ?_
        refine q_skip rfl rfl ?_
        refine q_skip rfl rfl ?_
        refine q_p rfl rfl (p_pickt rfl rfl) ?_
        refine q_nil ?_
        refine t_ift rfl ?_
        refine t_seq ?_
        refine t_region ?_
        refine l_p rfl rfl (p_move rfl) ?_
        refine l_p rfl rfl (p_build (by exact rfl) (by exact rfl) (by exact rfl) (by exact rfl)) ?_
        refine l_p rfl rfl (p_iface (by exact rfl)) ?_
        refine l_p rfl rfl (p_assign rfl) ?_
        refine l_p rfl rfl (p_assign rfl) ?_
        refine l_nil ?_
        exact t_ret2 rfl rfl rfl fun w hI => ⟨σ4, m2, ⟨_, _, fault 1, .inr ⟨_, bd (by rw [hsp, decide_eq_false h7, Bool.and_false]; rfl), rfl, (fun e => by cases e), .fault 1⟩⟩, hI.tail.tail⟩
      have h7' := Decidable.not_not.1 h7
      rw [h6', h7', decide_eq_true rfl, decide_eq_true rfl, Bool.true_and, Bool.true_and] at hsp
      refine q_p rfl rfl (p_move rfl) ?_
      refine q_p rfl rfl (p_gt rfl rfl) ?_
      refine q_p rfl rfl (p_move rfl) ?_
      have hj1 : 0 < (j : Int) → (j : Int) - 1 = ((j - 1 : Nat) : Int) := fun h => by omega
      refine q_split 71 rfl (fun h8 => ?_) (fun h8 => ?_)
      · have hj2 : j - 1 < l.length := by omega
        refine q_p rfl rfl (p_fa (by exact rfl) Rds.bxi) ?_
        refine q_p rfl rfl (p_ld1 (by exact rfl) (Rds.fld Rds.bxi (by exact rfl))) ?_
        refine q_p rfl rfl (p_move rfl) ?_
        refine q_p rfl rfl (p_sub rfl rfl (by omega)) ?_
        rw [hj1 h8]
        refine q_p rfl rfl (p_ix _ (by exact rfl) (by exact rfl) (by exact rfl) (by omega) (Rds.ix (by assumption) (by omega))) ?_
        refine q_p rfl rfl (p_fa (by exact rfl) (Rds.ix (by assumption) (by omega))) ?_
        refine q_p rfl rfl (p_ld1 (by exact rfl) (Rds.fld (Rds.ix (by assumption) (by omega)) (by exact rfl))) ?_
        refine q_p rfl rfl (p_fa (by exact rfl) Rds.bxi) ?_
        refine q_p rfl rfl (p_ld1 (by exact rfl) (Rds.fld Rds.bxi (by exact rfl))) ?_
        refine q_p rfl rfl (p_ge rfl rfl) ?_
        refine q_p rfl rfl (p_pickt rfl rfl) ?_
        refine q_p rfl rfl (p_pickf rfl rfl) ?_
        refine q_nil ?_
        refine t_ifd rfl (fun h9 => ?_) (fun h9 => ?_)
        · refine t_seq ?_
          refine t_region ?_
          refine l_p rfl rfl (p_move rfl) ?_
          refine l_p rfl rfl (p_build (by exact rfl) (by exact rfl) (by exact rfl) (by exact rfl)) ?_
          refine l_p rfl rfl (p_iface (by exact rfl)) ?_
          refine l_p rfl rfl (p_assign rfl) ?_
          refine l_p rfl rfl (p_assign rfl) ?_
          refine l_nil ?_
          exact t_ret2 rfl rfl rfl fun w hI => ⟨σ4, m2, ⟨_, _, fault 1, .inr ⟨_, bd (by rw [hsp, decide_eq_false (by omega), decide_eq_false (by omega)]; simp), rfl, (fun e => by cases e), .fault 1⟩⟩, hI.tail.tail⟩
        refine t_skip ?_
        refine t_seq ?_
        refine t_region ?_
        refine l_p rfl rfl (p_ldn (by exact rfl) Rds.bxi (by exact rfl) (by exact rfl)) ?_
        have hsp2 : stepP x (l.map mP) j hj' = rightPiece (mP l[j]) := by rw [hsp, decide_eq_true (show (l[j - 1]'(by omega)).2.2.1 < l[j].2.2.1 by omega)]; simp
        refine l_call0 rfl rfl rfl (cputpiece (mP l[j]) (A := Ap) (cc := cp) hpj2) ?_
        rintro v σ5 h10 ⟨sv, rfl, hS5⟩
        obtain ⟨A5, c5, rfl, _⟩ := hS5.shape
        cases hrp : rightPiece (mP l[j]) with
        | false =>
          rw [hrp] at hS5 hsp2
          simp only [Bool.false_eq_true, if_false] at hS5 ⊢
          refine l_p rfl rfl (p_move rfl) ?_
          refine l_p rfl rfl (p_ext rfl rfl) ?_
          refine l_p rfl rfl (p_ext rfl rfl) ?_
          refine l_p rfl rfl (p_assign rfl) ?_
          refine l_p rfl rfl (p_assign rfl) ?_
          refine l_nil ?_
          refine t_seq ?_
          refine t_region ?_
          refine l_p rfl rfl (p_move rfl) ?_
          refine l_p rfl rfl (p_move rfl) ?_
          refine l_p rfl rfl (p_move rfl) ?_
          refine l_call0 rfl rfl rfl (exlaid 1 (m3.up h10) hS5 (by omega) (by simp)) ?_
          rintro v σ6 h11 ⟨A6, c6, ⟨h12, _⟩ | ⟨_, rfl, hS6⟩⟩
          · cases h12
          refine l_p rfl rfl (p_move rfl) ?_
          refine l_p rfl rfl (p_ext rfl rfl) ?_
          refine l_p rfl rfl (p_ext rfl rfl) ?_
          refine l_p rfl rfl (p_assign rfl) ?_
          refine l_p rfl rfl (p_assign rfl) ?_
          refine l_nil ?_
          refine t_seq ?_
          refine t_region ?_
          refine l_p rfl rfl (p_move rfl) ?_
          refine l_p rfl rfl (p_ine (by kernel_rfl) (by exact rfl)) ?_
          refine l_nil ?_
          refine t_ift rfl ?_
          refine t_seq ?_
          refine t_region ?_
          refine l_p rfl rfl (p_move rfl) ?_
          refine l_p rfl rfl (p_move rfl) ?_
          refine l_p rfl rfl (p_assign rfl) ?_
          refine l_p rfl rfl (p_assign rfl) ?_
          refine l_nil ?_
          exact t_ret2 rfl rfl rfl fun w hI => ⟨σ6, (m2.trans h10).trans h11, ⟨_, _, fault 1, .inr ⟨_, bd hsp2, rfl, (fun e => by cases e), .fault 1⟩⟩, hI.tail.tail⟩
        | true =>
          rw [hrp] at hS5 hsp2
          simp only [if_true] at hS5 ⊢
          have hpb : (pieceBytes (mP l[j])).length ≤ 71 := by obtain ⟨_, _, _, _, _, _, _, _, hb2⟩ := own_piece hrp; simp [pieceBytes, be_len]; omega
          refine l_p rfl rfl (p_move rfl) ?_
          refine l_p rfl rfl (p_ext rfl rfl) ?_
          refine l_p rfl rfl (p_ext rfl rfl) ?_
          refine l_p rfl rfl (p_assign rfl) ?_
          refine l_p rfl rfl (p_assign rfl) ?_
          refine l_nil ?_
          refine t_seq ?_
          refine t_region ?_
          refine l_p rfl rfl (p_move rfl) ?_
          refine l_p rfl rfl (p_move rfl) ?_
          refine l_p rfl rfl (p_move rfl) ?_
          refine l_call0 rfl rfl rfl (exlaid 0 (m3.up h10) hS5 (by omega) (by omega)) ?_
          rintro v σ6 h11 ⟨A6, c6, ⟨_, rfl, hS6⟩ | ⟨h12, _⟩⟩
          rotate_left
          · exact absurd rfl h12
          refine l_p rfl rfl (p_move rfl) ?_
          refine l_p rfl rfl (p_ext rfl rfl) ?_
          refine l_p rfl rfl (p_ext rfl rfl) ?_
          refine l_p rfl rfl (p_assign rfl) ?_
          refine l_p rfl rfl (p_assign rfl) ?_
          refine l_nil ?_
          refine t_seq ?_
          refine t_region ?_
          refine l_p rfl rfl (p_move rfl) ?_
          refine l_p rfl rfl (p_ine0 (by kernel_rfl) (by exact rfl)) ?_
          refine l_nil ?_
          refine t_iff rfl ?_
          refine t_skip ?_
          refine t_blk ?_
          refine t_region ?_
          refine l_p rfl rfl (p_add rfl rfl (by omega)) ?_
          refine l_p rfl rfl (p_move rfl) ?_
          refine l_nil ?_
          refine t_round ⟨j + 1, out ++ layB (pieceBytes (mP l[j])), A6, c6, σ6⟩ ⟨rfl, rfl, rfl, gi rfl (by dsimp only; omega), rfl, trivial⟩ ⟨by dsimp only; omega, (m2.trans h10).trans h11, hS6, by dsimp only; rw [hstep, m4, hsp2]; rfl, ?_, ?_⟩ (by show l.length - (j + 1) < l.length - j; omega) (fun w hI => hI.tail)
          · dsimp only; rw [m5, take_succ _ j hj', hgj]; simp [piecesBytes]
          · dsimp only; simp [layB, be_len]; omega
      · refine q_skip rfl rfl ?_
        refine q_skip rfl rfl ?_
        refine q_skip rfl rfl ?_
        refine q_skip rfl rfl ?_
        refine q_skip rfl rfl ?_
        refine q_skip rfl rfl ?_
        refine q_skip rfl rfl ?_
        refine q_skip rfl rfl ?_
        refine q_skip rfl rfl ?_
        refine q_skip rfl rfl ?_
        refine q_p rfl rfl (p_pickf rfl rfl) ?_
        refine q_p rfl rfl (p_pickf rfl rfl) ?_
        refine q_nil ?_
        refine t_iff rfl ?_
        refine t_skip ?_
        refine t_seq ?_
        refine t_region ?_
        refine l_p rfl rfl (p_ldn (by exact rfl) Rds.bxi (by exact rfl) (by exact rfl)) ?_
        have hsp2 : stepP x (l.map mP) j hj' = rightPiece (mP l[j]) := by rw [hsp, decide_eq_true (show j = 0 by omega)]; simp
        refine l_call0 rfl rfl rfl (cputpiece (mP l[j]) (A := Ap) (cc := cp) hpj2) ?_
        rintro v σ5 h10 ⟨sv, rfl, hS5⟩
        obtain ⟨A5, c5, rfl, _⟩ := hS5.shape
        cases hrp : rightPiece (mP l[j]) with
        | false =>
          rw [hrp] at hS5 hsp2
          simp only [Bool.false_eq_true, if_false] at hS5 ⊢
          refine l_p rfl rfl (p_move rfl) ?_
          refine l_p rfl rfl (p_ext rfl rfl) ?_
          refine l_p rfl rfl (p_ext rfl rfl) ?_
          refine l_p rfl rfl (p_assign rfl) ?_
          refine l_p rfl rfl (p_assign rfl) ?_
          refine l_nil ?_
          refine t_seq ?_
          refine t_region ?_
          refine l_p rfl rfl (p_move rfl) ?_
          refine l_p rfl rfl (p_move rfl) ?_
          refine l_p rfl rfl (p_move rfl) ?_
          refine l_call0 rfl rfl rfl (exlaid 1 (m3.up h10) hS5 (by omega) (by simp)) ?_
          rintro v σ6 h11 ⟨A6, c6, ⟨h12, _⟩ | ⟨_, rfl, hS6⟩⟩
          · cases h12
          refine l_p rfl rfl (p_move rfl) ?_
          refine l_p rfl rfl (p_ext rfl rfl) ?_
          refine l_p rfl rfl (p_ext rfl rfl) ?_
          refine l_p rfl rfl (p_assign rfl) ?_
          refine l_p rfl rfl (p_assign rfl) ?_
          refine l_nil ?_
          refine t_seq ?_
          refine t_region ?_
          refine l_p rfl rfl (p_move rfl) ?_
          refine l_p rfl rfl (p_ine (by kernel_rfl) (by exact rfl)) ?_
          refine l_nil ?_
          refine t_ift rfl ?_
          refine t_seq ?_
          refine t_region ?_
          refine l_p rfl rfl (p_move rfl) ?_
          refine l_p rfl rfl (p_move rfl) ?_
          refine l_p rfl rfl (p_assign rfl) ?_
          refine l_p rfl rfl (p_assign rfl) ?_
          refine l_nil ?_
          exact t_ret2 rfl rfl rfl fun w hI => ⟨σ6, (m2.trans h10).trans h11, ⟨_, _, fault 1, .inr ⟨_, bd hsp2, rfl, (fun e => by cases e), .fault 1⟩⟩, hI.tail.tail⟩
        | true =>
          rw [hrp] at hS5 hsp2
          simp only [if_true] at hS5 ⊢
          have hpb : (pieceBytes (mP l[j])).length ≤ 71 := by obtain ⟨_, _, _, _, _, _, _, _, hb2⟩ := own_piece hrp; simp [pieceBytes, be_len]; omega
          refine l_p rfl rfl (p_move rfl) ?_
          refine l_p rfl rfl (p_ext rfl rfl) ?_
          refine l_p rfl rfl (p_ext rfl rfl) ?_
          refine l_p rfl rfl (p_assign rfl) ?_
          refine l_p rfl rfl (p_assign rfl) ?_
          refine l_nil ?_
          refine t_seq ?_
          refine t_region ?_
          refine l_p rfl rfl (p_move rfl) ?_
          refine l_p rfl rfl (p_move rfl) ?_
          refine l_p rfl rfl (p_move rfl) ?_
          refine l_call0 rfl rfl rfl (exlaid 0 (m3.up h10) hS5 (by omega) (by omega)) ?_
          rintro v σ6 h11 ⟨A6, c6, ⟨_, rfl, hS6⟩ | ⟨h12, _⟩⟩
          rotate_left
          · exact absurd rfl h12
          refine l_p rfl rfl (p_move rfl) ?_
          refine l_p rfl rfl (p_ext rfl rfl) ?_
          refine l_p rfl rfl (p_ext rfl rfl) ?_
          refine l_p rfl rfl (p_assign rfl) ?_
          refine l_p rfl rfl (p_assign rfl) ?_
          refine l_nil ?_
          refine t_seq ?_
          refine t_region ?_
          refine l_p rfl rfl (p_move rfl) ?_
          refine l_p rfl rfl (p_ine0 (by kernel_rfl) (by exact rfl)) ?_
          refine l_nil ?_
          refine t_iff rfl ?_
          refine t_skip ?_
          refine t_blk ?_
          refine t_region ?_
          refine l_p rfl rfl (p_add rfl rfl (by omega)) ?_
          refine l_p rfl rfl (p_move rfl) ?_
          refine l_nil ?_
          refine t_round ⟨j + 1, out ++ layB (pieceBytes (mP l[j])), A6, c6, σ6⟩ ⟨rfl, rfl, rfl, gi rfl (by dsimp only; omega), rfl, trivial⟩ ⟨by dsimp only; omega, (m2.trans h10).trans h11, hS6, by dsimp only; rw [hstep, m4, hsp2]; rfl, ?_, ?_⟩ (by show l.length - (j + 1) < l.length - j; omega) (fun w hI => hI.tail)
          · dsimp only; rw [m5, take_succ _ j hj', hgj]; simp [piecesBytes]
          · dsimp only; simp [layB, be_len]; omega
    · have hj : j = l.length := by omega
      subst hj
      have e1 : (l.map mP).take l.length = l.map mP := List.take_of_length_le (by simp)
      rw [e1] at m4 m5
      have e2 : rightHeld (mH (x, (.slice Ah l.length ch, l))) = true := by rw [hrH, m4, decide_eq_true (by omega)]; rfl
      have e3 : a ++ heldBytes (mH (x, (.slice Ah l.length ch, l))) = out := by rw [m5, ← hpre]; simp [heldBytes, mH]
      rw [e2, e3]
      refine t_exit rfl ?_
      refine t_seq ?_
      refine t_region ?_
      refine l_p rfl rfl (p_move rfl) ?_
      refine l_p rfl rfl (p_assign rfl) ?_
      refine l_p rfl rfl (p_assign rfl) ?_
      refine l_nil ?_
      exact t_ret2 rfl rfl rfl fun w hI => ⟨σ4, m2, ⟨_, _, .nilIface, .inl ⟨rfl, rfl, m3⟩⟩, hI.tail⟩
theorem ErrV.iface {σ : Stb} {v : Value} {e : Int} (h : ErrV σ v e) (hne : v ≠ .nilIface) : ∃ t x, v = .iface t x := by
  cases h with
  | nil => exact absurd rfl hne
  | fault e => exact ⟨_, _, rfl⟩
  | join e h1 h2 => exact ⟨_, _, rfl⟩
theorem exall {σ : Stb} {A : Option Addr} {c0 : Nat} (l : List HeldA) (hS : OkHs σ (.slice A l.length c0) l) (ht : ∀ h ∈ l, h.1.2.2.1.length ≤ 1000000000) :
    Sp0 Tryd.prog 21 [.slice A l.length c0] σ fun v σ' => HeldR σ' v (rightAll (l.map mH)) (sealB (allBytes (l.map mH))) := by
  obtain ⟨hSl, hHp⟩ := hS
  have hbl := hSl.bound
  have hrA : rightAll (l.map mH) = (decide (l.length ≤ 16) && rightHs (l.map mH)) := by rw [rightAll_eq]; simp
  refine sp0 Tryd.func21 rfl (by kernel_rfl) rfl fun F => ?_
  refine t_seq ?_
  refine t_region ?_
  refine l_p rfl rfl (p_assign rfl) ?_
  refine l_p rfl rfl (p_assign rfl) ?_
  refine l_nil ?_
  refine t_seq ?_
  refine t_seq ?_
  refine t_region ?_
  refine l_p rfl rfl (p_move rfl) ?_
  refine l_p rfl rfl (p_lensl (by exact rfl)) ?_
  refine l_p rfl rfl (p_gt rfl rfl) ?_
  refine l_nil ?_
  refine t_ifd rfl (fun h1 => ?_) (fun h1 => ?_)
  · refine t_seq ?_
    refine t_region ?_
    refine l_p rfl rfl (p_build (by exact rfl) (by exact rfl) (by exact rfl) (by exact rfl)) ?_
    refine l_p rfl rfl (p_iface (by exact rfl)) ?_
    refine l_p rfl rfl (p_assign rfl) ?_
    refine l_p rfl rfl (p_assign rfl) ?_
    refine l_nil ?_
    exact t_ret2 rfl rfl rfl fun w hI => ⟨σ, .refl σ, ⟨none, 0, fault 1, .inr ⟨0, by rw [hrA, decide_eq_false (by omega)]; rfl, rfl, (fun e => by cases e), .fault 1⟩⟩, hI⟩
  have bad : ∀ j (hj : j < (l.map mH).length), stepH (l.map mH) j hj = false → rightAll (l.map mH) = false := fun j hj hs => by rw [hrA, rightHs_bad _ j hj hs]; simp
  refine t_skip ?_
  refine t_seq ?_
  refine t_region ?_
  refine l_p rfl rfl (p_move rfl) ?_
  refine l_p rfl rfl (p_lensl (by exact rfl)) ?_
  refine l_p rfl rfl (p_convu64 (by exact rfl) (by omega)) ?_
  refine l_call0 rfl rfl rfl (nput l.length 1 (by decide) (by omega) (Sl.nil σ 1 eu8) (by simp)) ?_
  intro v σ3 h3 hS3
  obtain ⟨A3, c3, rfl, _⟩ := hS3.shape
  rw [List.nil_append] at hS3 ⊢
  refine l_p rfl rfl (p_assign rfl) ?_
  refine l_nil ?_
  refine t_seq ?_
  refine t_seq ?_
  refine t_region ?_
  refine l_p rfl rfl (p_move rfl) ?_
  refine l_p rfl rfl (p_lensl (by exact rfl)) ?_
  refine l_p rfl rfl (p_move rfl) ?_
  refine l_nil ?_
  refine t_block ?_
  refine t_loop (ι := PutI) { E := fun i => [(0, .slice A l.length c0), (18, .slice A l.length c0), (19, i64 l.length), (20, i64 i.j), (4, .slice i.A i.out.length i.c)], S := fun i => i.s, M := fun _ => F, Φ := fun i => i.j ≤ l.length ∧ σ.le i.s ∧ Sl i.s 1 eu8 (.slice i.A i.out.length i.c) i.out ∧ rightHs ((l.map mH).take i.j) = true ∧ i.out = be l.length 1 ++ heldsBytes ((l.map mH).take i.j) ∧ i.out.length ≤ 1 + i.j * 300000 } (fun i => l.length - i.j) ⟨0, be l.length 1, A3, c3, σ3⟩
    (by exact ⟨rfl, rfl, rfl, rfl, rfl, trivial⟩) ⟨Nat.zero_le _, h3, hS3, rfl, by simp [heldsBytes], by simp [be_len]⟩ (fun w hI => hI) ?_
  rintro ⟨j, out, A4, c4, σ4⟩ ⟨m1, m2, m3, m4, m5, m6⟩
  dsimp only at m1 m2 m3 m4 m5 m6 ⊢
  refine t_seq ?_
  refine t_region ?_
  refine l_p rfl rfl (p_lt rfl rfl) ?_
  refine l_nil ?_
  refine t_seq ?_
  refine t_ifd rfl (fun h5 => ?_) (fun h5 => ?_)
  · have hj : j < l.length := by omega
    have hj' : j < (l.map mH).length := by simpa using hj
    have hHj := (hHp l[j] (List.getElem_mem hj)).up m2
    obtain ⟨Ah, ch, hhv, _⟩ := hHj.1.shape
    have hstep := rightHs_step (l.map mH) j hj'
    have hgj : (l.map mH)[j] = mH l[j] := by simp
    have hSl4 := hSl.up m2
    have bd := bad j hj'
    have hpc : eHd l[j] = [i64 l[j].1.1, i64 l[j].1.2.1, st l[j].1.2.2.1, i64 l[j].1.2.2.2.1, i64 l[j].1.2.2.2.2, .slice Ah l[j].2.2.length ch] := by simp only [eHd, hhv]
    have exh := exheld l[j] (c0 := c4) (A := A4) m3 (by omega) hHj (ht _ (List.getElem_mem hj))
    rw [hpc] at exh
    refine t_skip ?_
    refine t_seq ?_
    refine t_block ?_
    refine t_seq ?_
    refine t_region ?_
    refine l_p rfl rfl (p_move rfl) ?_
    refine l_p rfl rfl (p_ix _ (by exact rfl) (by exact rfl) (by exact rfl) (by omega) (Rds.ix (by assumption) (by omega))) ?_
    refine l_p rfl rfl (p_ldn (by exact rfl) (Rds.ix (by assumption) (by omega)) (by exact rfl) (by exact rfl)) ?_
    refine l_alloc (by exact rfl) (by exact rfl) (by exact rfl) ?_; intro _
    refine l_p rfl rfl (p_assign rfl) ?_
    rw [hpc]
    have hsp : stepH (l.map mH) j hj' = (rightHeld (mH l[j]) && (decide (j = 0) || decide ((l[j - 1]'(by omega)).1.1 < l[j].1.1))) := by
      simp only [stepH, List.getElem_map]; rfl
    refine l_sti rfl rfl rfl rfl rfl (by exact rfl) (by exact rfl) (by exact rfl) (by exact ⟨rfl, rfl⟩) ?_
    refine l_nil ?_
    refine t_seq ?_
    refine t_seq ?_
    refine t_draw (by kernel_rfl) ?_
    refine q_p rfl rfl (p_move rfl) ?_
    refine q_p rfl rfl (p_gt rfl rfl) ?_
    refine q_p rfl rfl (p_move rfl) ?_
    have hj1 : 0 < (j : Int) → (j : Int) - 1 = ((j - 1 : Nat) : Int) := fun h => by omega
    refine q_split 27 rfl (fun h8 => ?_) (fun h8 => ?_)
    · have hj2 : j - 1 < l.length := by omega
      refine q_p rfl rfl (p_move rfl) ?_
      refine q_p rfl rfl (p_move rfl) ?_
      refine q_p rfl rfl (p_sub rfl rfl (by omega)) ?_
      rw [hj1 h8]
      refine q_p rfl rfl (p_ix _ (by exact rfl) (by exact rfl) (by exact rfl) (by omega) (Rds.ix (by assumption) (by omega))) ?_
      refine q_p rfl rfl (p_fa (by exact rfl) (Rds.ix (by assumption) (by omega))) ?_
      refine q_p rfl rfl (p_fa (by exact rfl) (Rds.fld (Rds.ix (by assumption) (by omega)) (by exact rfl))) ?_
      refine q_p rfl rfl (p_ld1 (by exact rfl) (Rds.fld (Rds.fld (Rds.ix (by assumption) (by omega)) (by exact rfl)) (by exact rfl))) ?_
      refine q_p rfl rfl (p_fa (by exact rfl) Rds.bxi) ?_
      refine q_p rfl rfl (p_fa (by exact rfl) Rds.bxi) ?_
      refine q_p rfl rfl (p_ld1 (by exact rfl) Rds.bxi) ?_
      refine q_p rfl rfl (p_ge rfl rfl) ?_
      refine q_p rfl rfl (p_pickt rfl rfl) ?_
      refine q_nil ?_
      refine t_ifd rfl (fun h9 => ?_) (fun h9 => ?_)
      · refine t_seq ?_
        refine t_region ?_
        refine l_p rfl rfl (p_build (by exact rfl) (by exact rfl) (by exact rfl) (by exact rfl)) ?_
        refine l_p rfl rfl (p_iface (by exact rfl)) ?_
        refine l_p rfl rfl (p_assign rfl) ?_
        refine l_p rfl rfl (p_assign rfl) ?_
        refine l_nil ?_
        exact t_ret2 rfl rfl rfl fun w hI => ⟨σ4, m2, ⟨none, 0, fault 1, .inr ⟨0, bd (by rw [hsp, decide_eq_false (by omega), decide_eq_false (by omega)]; simp), rfl, (fun e => by cases e), .fault 1⟩⟩, hI.tail⟩
      refine t_skip ?_
      refine t_seq ?_
      refine t_region ?_
      refine l_p rfl rfl (p_move rfl) ?_
      refine l_p rfl rfl (p_ldn (by exact rfl) Rds.bxi (by exact rfl) (by exact rfl)) ?_
      have hsp2 : stepH (l.map mH) j hj' = rightHeld (mH l[j]) := by rw [hsp, decide_eq_true (show (l[j - 1]'(by omega)).1.1 < l[j].1.1 by omega)]; simp
      refine l_call0 rfl rfl rfl exh ?_
      rintro v σ5 h10 ⟨A5, c5, er, ⟨hr, rfl, hS5⟩ | ⟨n0, hr, rfl, hne, hEr⟩⟩
      · rw [hr] at hsp2
        have hln := heldBytes_len hr
        refine l_p rfl rfl (p_move rfl) ?_
        refine l_p rfl rfl (p_ext rfl rfl) ?_
        refine l_p rfl rfl (p_ext rfl rfl) ?_
        refine l_p rfl rfl (p_assign rfl) ?_
        refine l_p rfl rfl (p_assign rfl) ?_
        refine l_nil ?_
        refine t_seq ?_
        refine t_seq ?_
        refine t_region ?_
        refine l_p rfl rfl (p_move rfl) ?_
        refine l_p rfl rfl (p_ine0 (by kernel_rfl) (by exact rfl)) ?_
        refine l_nil ?_
        refine t_iff rfl ?_
        refine t_skip ?_
        refine t_region ?_
        refine l_p rfl rfl (p_move rfl) ?_
        refine l_p rfl rfl (p_assign rfl) ?_
        refine l_nil ?_
        refine t_blk ?_
        refine t_region ?_
        refine l_p rfl rfl (p_add rfl rfl (by omega)) ?_
        refine l_p rfl rfl (p_move rfl) ?_
        refine l_nil ?_
        refine t_round ⟨j + 1, out ++ heldBytes (mH l[j]), A5, c5, σ5⟩ ⟨rfl, rfl, rfl, gi rfl (by dsimp only; omega), rfl, trivial⟩ ⟨by dsimp only; omega, m2.trans h10, hS5, by dsimp only; rw [hstep, m4, hsp2]; rfl, ?_, ?_⟩ (by show l.length - (j + 1) < l.length - j; omega) (fun w hI => hI.tail)
        · dsimp only; rw [m5, take_succ _ j hj', hgj]; simp [heldsBytes]
        · dsimp only; rw [List.length_append]; omega
      · obtain ⟨dt, dv, rfl⟩ := hEr.iface hne
        refine l_p rfl rfl (p_move rfl) ?_
        refine l_p rfl rfl (p_ext rfl rfl) ?_
        refine l_p rfl rfl (p_ext rfl rfl) ?_
        refine l_p rfl rfl (p_assign rfl) ?_
        refine l_p rfl rfl (p_assign rfl) ?_
        refine l_nil ?_
        refine t_seq ?_
        refine t_seq ?_
        refine t_region ?_
        refine l_p rfl rfl (p_move rfl) ?_
        refine l_p rfl rfl (p_ine (by kernel_rfl) (by exact rfl)) ?_
        refine l_nil ?_
        refine t_ift rfl ?_
        refine t_seq ?_
        refine t_region ?_
        refine l_p rfl rfl (p_move rfl) ?_
        refine l_p rfl rfl (p_assign rfl) ?_
        refine l_p rfl rfl (p_assign rfl) ?_
        refine l_nil ?_
        exact t_ret2 rfl rfl rfl fun w hI => ⟨σ5, m2.trans h10, ⟨none, 0, _, .inr ⟨0, bd (by rw [hsp2, hr]), rfl, hne, hEr⟩⟩, hI.tail⟩
    · refine q_skip rfl rfl ?_
      refine q_skip rfl rfl ?_
      refine q_skip rfl rfl ?_
      refine q_skip rfl rfl ?_
      refine q_skip rfl rfl ?_
      refine q_skip rfl rfl ?_
      refine q_skip rfl rfl ?_
      refine q_skip rfl rfl ?_
      refine q_skip rfl rfl ?_
      refine q_skip rfl rfl ?_
      refine q_skip rfl rfl ?_
      refine q_p rfl rfl (p_pickf rfl rfl) ?_
      refine q_nil ?_
      refine t_iff rfl ?_
      refine t_skip ?_
      refine t_seq ?_
      refine t_region ?_
      refine l_p rfl rfl (p_move rfl) ?_
      refine l_p rfl rfl (p_ldn (by exact rfl) Rds.bxi (by exact rfl) (by exact rfl)) ?_
      have hsp2 : stepH (l.map mH) j hj' = rightHeld (mH l[j]) := by rw [hsp, decide_eq_true (show j = 0 by omega)]; simp
      refine l_call0 rfl rfl rfl exh ?_
      rintro v σ5 h10 ⟨A5, c5, er, ⟨hr, rfl, hS5⟩ | ⟨n0, hr, rfl, hne, hEr⟩⟩
      · rw [hr] at hsp2
        have hln := heldBytes_len hr
        refine l_p rfl rfl (p_move rfl) ?_
        refine l_p rfl rfl (p_ext rfl rfl) ?_
        refine l_p rfl rfl (p_ext rfl rfl) ?_
        refine l_p rfl rfl (p_assign rfl) ?_
        refine l_p rfl rfl (p_assign rfl) ?_
        refine l_nil ?_
        refine t_seq ?_
        refine t_seq ?_
        refine t_region ?_
        refine l_p rfl rfl (p_move rfl) ?_
        refine l_p rfl rfl (p_ine0 (by kernel_rfl) (by exact rfl)) ?_
        refine l_nil ?_
        refine t_iff rfl ?_
        refine t_skip ?_
        refine t_region ?_
        refine l_p rfl rfl (p_move rfl) ?_
        refine l_p rfl rfl (p_assign rfl) ?_
        refine l_nil ?_
        refine t_blk ?_
        refine t_region ?_
        refine l_p rfl rfl (p_add rfl rfl (by omega)) ?_
        refine l_p rfl rfl (p_move rfl) ?_
        refine l_nil ?_
        refine t_round ⟨j + 1, out ++ heldBytes (mH l[j]), A5, c5, σ5⟩ ⟨rfl, rfl, rfl, gi rfl (by dsimp only; omega), rfl, trivial⟩ ⟨by dsimp only; omega, m2.trans h10, hS5, by dsimp only; rw [hstep, m4, hsp2]; rfl, ?_, ?_⟩ (by show l.length - (j + 1) < l.length - j; omega) (fun w hI => hI.tail)
        · dsimp only; rw [m5, take_succ _ j hj', hgj]; simp [heldsBytes]
        · dsimp only; rw [List.length_append]; omega
      · obtain ⟨dt, dv, rfl⟩ := hEr.iface hne
        refine l_p rfl rfl (p_move rfl) ?_
        refine l_p rfl rfl (p_ext rfl rfl) ?_
        refine l_p rfl rfl (p_ext rfl rfl) ?_
        refine l_p rfl rfl (p_assign rfl) ?_
        refine l_p rfl rfl (p_assign rfl) ?_
        refine l_nil ?_
        refine t_seq ?_
        refine t_seq ?_
        refine t_region ?_
        refine l_p rfl rfl (p_move rfl) ?_
        refine l_p rfl rfl (p_ine (by kernel_rfl) (by exact rfl)) ?_
        refine l_nil ?_
        refine t_ift rfl ?_
        refine t_seq ?_
        refine t_region ?_
        refine l_p rfl rfl (p_move rfl) ?_
        refine l_p rfl rfl (p_assign rfl) ?_
        refine l_p rfl rfl (p_assign rfl) ?_
        refine l_nil ?_
        exact t_ret2 rfl rfl rfl fun w hI => ⟨σ5, m2.trans h10, ⟨none, 0, _, .inr ⟨0, bd (by rw [hsp2, hr]), rfl, hne, hEr⟩⟩, hI.tail⟩
  · have hj : j = l.length := by omega
    subst hj
    have e1 : (l.map mH).take l.length = l.map mH := List.take_of_length_le (by simp)
    rw [e1] at m4 m5
    have e2 : rightAll (l.map mH) = true := by rw [hrA, m4, decide_eq_true (by omega)]; rfl
    have e3 : allBytes (l.map mH) = out := by rw [m5]; simp [allBytes]
    rw [e2, e3]
    refine t_exit rfl ?_
    refine t_seq ?_
    refine t_region ?_
    refine l_p rfl rfl (p_move rfl) ?_
    refine l_call0 rfl rfl rfl (crcseal m3 (by omega)) ?_
    intro v σ5 h6 hS5
    obtain ⟨A5, c5, rfl, _⟩ := hS5.shape
    refine l_p rfl rfl (p_assign rfl) ?_
    refine l_p rfl rfl (p_assign rfl) ?_
    refine l_nil ?_
    exact t_ret2 rfl rfl rfl fun w hI => ⟨σ5, m2.trans h6, ⟨_, _, .nilIface, .inl ⟨rfl, rfl, hS5⟩⟩, hI⟩
theorem exright {σ : Stb} {A : Option Addr} {c0 : Nat} (l : List HeldA) (hS : OkHs σ (.slice A l.length c0) l) (ht : ∀ h ∈ l, h.1.2.2.1.length ≤ 1000000000) :
    Sp0 Tryd.prog 11 [.slice A l.length c0] σ fun v _ => v = .bool (rightAll (l.map mH)) := by
  refine sp0 Tryd.func11 rfl (by kernel_rfl) rfl fun F => ?_
  refine t_seq ?_
  refine t_region ?_
  refine l_p rfl rfl (p_assign rfl) ?_
  refine l_nil ?_
  refine t_seq ?_
  refine t_region ?_
  refine l_p rfl rfl (p_move rfl) ?_
  refine l_call0 rfl rfl rfl (exall l hS ht) ?_
  rintro v σ1 h1 ⟨A5, c5, er, ⟨hr, rfl, hS5⟩ | ⟨n0, hr, rfl, hne, hEr⟩⟩
  · refine l_p rfl rfl (p_move rfl) ?_
    refine l_p rfl rfl (p_ext rfl rfl) ?_
    refine l_p rfl rfl (p_ext rfl rfl) ?_
    refine l_p rfl rfl (p_assign rfl) ?_
    refine l_p rfl rfl (p_assign rfl) ?_
    refine l_nil ?_
    refine t_seq ?_
    refine t_region ?_
    refine l_p rfl rfl (p_move rfl) ?_
    refine l_p rfl rfl (p_ieq0 (by kernel_rfl) (by exact rfl)) ?_
    refine l_p rfl rfl (p_assign rfl) ?_
    refine l_nil ?_
    exact t_ret1 rfl rfl fun w hI => ⟨σ1, h1, by rw [hr], hI⟩
  · obtain ⟨dt, dv, rfl⟩ := hEr.iface hne
    refine l_p rfl rfl (p_move rfl) ?_
    refine l_p rfl rfl (p_ext rfl rfl) ?_
    refine l_p rfl rfl (p_ext rfl rfl) ?_
    refine l_p rfl rfl (p_assign rfl) ?_
    refine l_p rfl rfl (p_assign rfl) ?_
    refine l_nil ?_
    refine t_seq ?_
    refine t_region ?_
    refine l_p rfl rfl (p_move rfl) ?_
    refine l_p rfl rfl (p_ieq (by kernel_rfl) (by exact rfl)) ?_
    refine l_p rfl rfl (p_assign rfl) ?_
    refine l_nil ?_
    exact t_ret1 rfl rfl fun w hI => ⟨σ1, h1, by rw [hr], hI⟩
def PutAllR (σ : Stb) (v : Value) (ok : Bool) (b : List UInt8) : Prop := ∃ A c, (ok = true ∧ v = .tuple #[.slice A b.length c, i64 0] ∧ Sl σ 1 eu8 (.slice A b.length c) b) ∨ (ok = false ∧ v = .tuple #[.slice none 0 0, i64 1])
theorem exput {σ : Stb} {A : Option Addr} {c0 : Nat} (l : List HeldA) (hG : LaidE σ) (hS : OkHs σ (.slice A l.length c0) l) (ht : ∀ h ∈ l, h.1.2.2.1.length ≤ 1000000000) :
    Sp0 Tryd.prog 8 [.slice A l.length c0] σ fun v σ' => PutAllR σ' v (rightAll (l.map mH)) (sealB (allBytes (l.map mH))) := by
  refine sp0 Tryd.func8 rfl (by kernel_rfl) rfl fun F => ?_
  refine t_seq ?_
  refine t_region ?_
  refine l_p rfl rfl (p_assign rfl) ?_
  refine l_p rfl rfl (p_assign rfl) ?_
  refine l_nil ?_
  refine t_seq ?_
  refine t_region ?_
  refine l_p rfl rfl (p_move rfl) ?_
  refine l_call0 rfl rfl rfl (exall l hS ht) ?_
  rintro v σ1 h1 ⟨A5, c5, er, ⟨hr, rfl, hS5⟩ | ⟨n0, hr, rfl, hne, hEr⟩⟩
  · refine l_p rfl rfl (p_move rfl) ?_
    refine l_p rfl rfl (p_ext rfl rfl) ?_
    refine l_p rfl rfl (p_ext rfl rfl) ?_
    refine l_p rfl rfl (p_assign rfl) ?_
    refine l_p rfl rfl (p_assign rfl) ?_
    refine l_nil ?_
    refine t_seq ?_
    refine t_seq ?_
    refine t_region ?_
    refine l_p rfl rfl (p_move rfl) ?_
    refine l_call0 rfl rfl rfl (exwhy (hG.up h1) .nil) ?_
    rintro _ σ2 h2 rfl
    refine l_p rfl rfl (p_assign rfl) ?_
    refine l_nil ?_
    refine t_seq ?_
    refine t_region ?_
    refine l_p rfl rfl (p_move rfl) ?_
    refine l_p rfl rfl (p_ne rfl rfl) ?_
    refine l_nil ?_
    refine t_iff rfl ?_
    refine t_skip ?_
    refine t_seq ?_
    refine t_region ?_
    refine l_p rfl rfl (p_move rfl) ?_
    refine l_p rfl rfl (p_assign rfl) ?_
    refine l_p rfl rfl (p_assign rfl) ?_
    refine l_nil ?_
    exact t_ret2 rfl rfl rfl fun w hI => ⟨σ2, h1.trans h2, ⟨A5, c5, .inl ⟨hr, rfl, hS5.up h2⟩⟩, hI⟩
  · refine l_p rfl rfl (p_move rfl) ?_
    refine l_p rfl rfl (p_ext rfl rfl) ?_
    refine l_p rfl rfl (p_ext rfl rfl) ?_
    refine l_p rfl rfl (p_assign rfl) ?_
    refine l_p rfl rfl (p_assign rfl) ?_
    refine l_nil ?_
    refine t_seq ?_
    refine t_seq ?_
    refine t_region ?_
    refine l_p rfl rfl (p_move rfl) ?_
    refine l_call0 rfl rfl rfl (exwhy (hG.up h1) hEr) ?_
    rintro _ σ2 h2 rfl
    refine l_p rfl rfl (p_assign rfl) ?_
    refine l_nil ?_
    refine t_seq ?_
    refine t_region ?_
    refine l_p rfl rfl (p_move rfl) ?_
    refine l_p rfl rfl (p_ne rfl rfl) ?_
    refine l_nil ?_
    refine t_ift rfl ?_
    refine t_seq ?_
    refine t_region ?_
    refine l_p rfl rfl (p_move rfl) ?_
    refine l_p rfl rfl (p_assign rfl) ?_
    refine l_p rfl rfl (p_assign rfl) ?_
    refine l_nil ?_
    exact t_ret2 rfl rfl rfl fun w hI => ⟨σ2, h1.trans h2, ⟨none, 0, .inr ⟨hr, rfl⟩⟩, hI⟩
theorem exsize {σ : Stb} {A : Option Addr} {c0 : Nat} (l : List HeldA) (hG : LaidE σ) (hS : OkHs σ (.slice A l.length c0) l) (ht : ∀ h ∈ l, h.1.2.2.1.length ≤ 1000000000) :
    Sp0 Tryd.prog 13 [.slice A l.length c0] σ fun v _ => v = i64 (if rightAll (l.map mH) = true then (sealB (allBytes (l.map mH))).length else 0 : Nat) := by
  refine sp0 Tryd.func13 rfl (by kernel_rfl) rfl fun F => ?_
  refine t_seq ?_
  refine t_region ?_
  refine l_p rfl rfl (p_assign rfl) ?_
  refine l_nil ?_
  refine t_seq ?_
  refine t_region ?_
  refine l_p rfl rfl (p_move rfl) ?_
  refine l_call0 rfl rfl rfl (exput l hG hS ht) ?_
  rintro v σ1 h1 ⟨A5, c5, ⟨hr, rfl, hS5⟩ | ⟨hr, rfl⟩⟩
  · refine l_p rfl rfl (p_move rfl) ?_
    refine l_p rfl rfl (p_ext rfl rfl) ?_
    refine l_p rfl rfl (p_ext rfl rfl) ?_
    refine l_p rfl rfl (p_assign rfl) ?_
    refine l_p rfl rfl (p_assign rfl) ?_
    refine l_nil ?_
    refine t_seq ?_
    refine t_region ?_
    refine l_p rfl rfl (p_move rfl) ?_
    refine l_p rfl rfl (p_lensl (by exact rfl)) ?_
    refine l_p rfl rfl (p_assign rfl) ?_
    refine l_nil ?_
    exact t_ret1 rfl rfl fun w hI => ⟨σ1, h1, by rw [hr]; rfl, hI⟩
  · refine l_p rfl rfl (p_move rfl) ?_
    refine l_p rfl rfl (p_ext rfl rfl) ?_
    refine l_p rfl rfl (p_ext rfl rfl) ?_
    refine l_p rfl rfl (p_assign rfl) ?_
    refine l_p rfl rfl (p_assign rfl) ?_
    refine l_nil ?_
    refine t_seq ?_
    refine t_region ?_
    refine l_p rfl rfl (p_move rfl) ?_
    refine l_p rfl rfl (p_lensl (by exact rfl)) ?_
    refine l_p rfl rfl (p_assign rfl) ?_
    refine l_nil ?_
    exact t_ret1 rfl rfl fun w hI => ⟨σ1, h1, by rw [hr]; rfl, hI⟩
end Go.Proofs.YtbijponhndknlaaDoor
