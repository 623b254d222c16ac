/- Chapter 9: the document's answer; what is wanted, and how much: walks. -/
import Derived.Test.YtfglenbfbcckjaaGreatDoorWref9b
set_option linter.unusedVariables false
set_option linter.unusedSimpArgs false
set_option maxRecDepth 20000
namespace Go.Proofs.YtfglenbfbcckjaaGreatDoor
open Go.Sp
attribute [local irreducible] Go.Sp.Pr Go.Sp.Ws Go.Sp.Wl Go.Sp.Wq Go.Sp.Rds Go.Sp.Src
theorem rwants {σ : Stb} {A : Option Addr} {cc : Nat} {l : List N2} (status : Nat) (n : Int) (hn : n ≤ 9223372036854775807) (hS : Sl σ 2 esn (.slice A l.length cc) l) : Sp0 Tryz.prog 7 [i64 status, .slice A l.length cc, i64 n] σ fun v σ' => Sl σ' 2 esn v (wantsN status l n) := by
  refine sp0 Tryz.func7 rfl (by kernel_rfl) rfl fun F => ?_
  refine t_seq ?_
  refine t_region ?_
  refine l_p rfl rfl (p_assign rfl) ?_
  refine l_nil ?_
  refine t_seq ?_
  refine t_seq ?_
  refine t_region ?_
  refine l_p rfl rfl (p_move rfl) ?_
  refine l_p rfl rfl (p_eq rfl rfl) ?_
  refine l_nil ?_
  refine t_ifd rfl (fun h => ?_) (fun h => ?_)
  · refine t_seq ?_
    refine t_region ?_
    refine l_p rfl rfl (p_move rfl) ?_
    refine l_p rfl rfl (p_assign rfl) ?_
    refine l_nil ?_
    exact t_ret1 rfl rfl fun w hI => ⟨σ, .refl σ, by rw [wantsN, if_pos (by omega)]; exact hS, hI⟩
  refine t_skip ?_
  refine t_seq ?_
  refine t_seq ?_
  refine t_region ?_
  refine l_p rfl rfl (p_move rfl) ?_
  refine l_p rfl rfl (p_eq rfl rfl) ?_
  refine l_p rfl rfl (p_move rfl) ?_
  have hf : wantsN status l n = if status = 200 ∧ 0 < n then [(0, n.toNat)] else [] := by rw [wantsN, if_neg (by omega)]
  refine l_split 12 rfl (fun h2 => ?_) (fun h2 => ?_)
  · refine l_p rfl rfl (p_move rfl) ?_
    refine l_p rfl rfl (p_gt rfl rfl) ?_
    refine l_p rfl rfl (p_pickt rfl rfl) ?_
    refine l_nil ?_
    refine t_ifd rfl (fun h3 => ?_) (fun h3 => ?_)
    · obtain ⟨m, rfl⟩ : ∃ m : Nat, n = m := ⟨n.toNat, by omega⟩
      refine t_seq ?_
      refine t_region ?_
      refine l_p rfl rfl (p_move rfl) ?_
      refine l_p rfl rfl (p_build (by exact rfl) (by exact rfl) (by exact rfl) (by exact rfl)) ?_
      refine l_bsl (by exact rfl) (by exact rfl) (by exact rfl) (by exact rfl) (by exact rfl) (by exact rfl) (by exact rfl) ?_; intro _
      refine l_p rfl rfl (p_assign rfl) ?_
      refine l_nil ?_
      refine t_ownb 2 esn [((0, m) : N2)] 1 .z rfl (by exact rfl) (fun _ _ => rfl) (by simp) ?_
      refine t_fzo .z fun σ' hσ hS' => ?_
      exact t_ret1 rfl rfl fun w hI => ⟨σ', hσ, by rw [hf, if_pos ⟨by omega, h3⟩]; exact hS', hI⟩
    · refine t_skip ?_
      refine t_seq ?_
      refine t_region ?_
      refine l_p rfl rfl (p_assign rfl) ?_
      refine l_nil ?_
      exact t_ret1 rfl rfl fun w hI => ⟨σ, .refl σ, by rw [hf, if_neg (by omega)]; exact Sl.nil .., hI⟩
  · refine l_skip rfl rfl ?_
    refine l_skip rfl rfl ?_
    refine l_p rfl rfl (p_pickf rfl rfl) ?_
    refine l_nil ?_
    refine t_iff rfl ?_
    refine t_skip ?_
    refine t_seq ?_
    refine t_region ?_
    refine l_p rfl rfl (p_assign rfl) ?_
    refine l_nil ?_
    exact t_ret1 rfl rfl fun w hI => ⟨σ, .refl σ, by rw [hf, if_neg (by omega)]; exact Sl.nil .., hI⟩
theorem rspans {σ : Stb} {A B : Option Addr} {ca cb : Nat} {l m : List N2} (hA : Sl σ 2 esn (.slice A l.length ca) l) (hB : Sl σ 2 esn (.slice B m.length cb) m) (he : l = m) : SpV Tryz.prog 9 [.slice A l.length ca, .slice B m.length cb] σ (.bool true) := by
  subst he
  have hb := hA.bound
  refine spv Tryz.func9 rfl (by kernel_rfl) rfl fun F => ?_
  refine t_seq ?_
  refine t_region ?_
  refine l_p rfl rfl (p_assign rfl) ?_
  refine l_nil ?_
  refine t_seq ?_
  refine t_seq ?_
  refine t_region ?_
  refine l_p rfl rfl (p_move rfl) ?_
  refine l_p rfl rfl (p_lensl (by exact rfl)) ?_
  refine l_p rfl rfl (p_move rfl) ?_
  refine l_p rfl rfl (p_lensl (by exact rfl)) ?_
  refine l_p rfl rfl (p_ne rfl rfl) ?_
  refine l_nil ?_
  refine t_ifd rfl (fun h => by omega) (fun _ => ?_)
  refine t_skip ?_
  refine t_seq ?_
  refine t_seq ?_
  refine t_region ?_
  refine l_p rfl rfl (p_move rfl) ?_
  refine l_p rfl rfl (p_lensl (by exact rfl)) ?_
  refine l_p rfl rfl (p_move rfl) ?_
  refine l_nil ?_
  refine t_block ?_
  refine t_loop (ι := Nat) { E := fun i => [(0, .slice A l.length ca), (1, .slice B l.length cb), (12, i64 l.length), (13, i64 i)], S := fun _ => σ, M := fun _ => F, Φ := fun i => i ≤ l.length } (fun i => l.length - i) 0
    (by exact ⟨rfl, rfl, rfl, rfl, trivial⟩) (Nat.zero_le _) (fun w hI => hI) ?_
  rintro i h1
  dsimp only at h1 ⊢
  refine t_seq ?_
  refine t_region ?_
  refine l_p rfl rfl (p_lt rfl rfl) ?_
  refine l_nil ?_
  refine t_seq ?_
  refine t_ifd rfl (fun h5 => ?_) (fun h5 => ?_)
  · have hi : i < l.length := by omega
    have hra : ∀ L, Rds σ L (ixp (.slice A l.length ca) 2 i) (esn l[i]) := fun L => Rds.ix hA hi
    have hrb : ∀ L, Rds σ L (ixp (.slice B l.length cb) 2 i) (esn l[i]) := fun L => Rds.ix hB hi
    refine t_skip ?_
    refine t_seq ?_
    refine t_block ?_
    refine t_seq ?_
    refine t_region ?_
    refine l_p rfl rfl (p_move rfl) ?_
    refine l_p rfl rfl (p_assign rfl) ?_
    refine l_nil ?_
    refine t_seq ?_
    refine t_draw (by kernel_rfl) ?_
    refine q_p rfl rfl (p_move rfl) ?_
    refine q_p rfl rfl (p_move rfl) ?_
    refine q_p rfl rfl (p_ix _ (by exact rfl) (by exact rfl) (by exact rfl) (by omega) (Rds.ix (by assumption) (by omega))) ?_
    refine q_p rfl rfl (p_ldn (by exact rfl) (Rds.ix (by assumption) (by omega)) (by exact rfl) (by exact rfl)) ?_
    refine q_p rfl rfl (p_move rfl) ?_
    refine q_p rfl rfl (p_move rfl) ?_
    refine q_p rfl rfl (p_ix _ (by exact rfl) (by exact rfl) (by exact rfl) (by omega) (Rds.ix (by assumption) (by omega))) ?_
    refine q_p rfl rfl (p_ldn (by exact rfl) (Rds.ix (by assumption) (by omega)) (by exact rfl) (by exact rfl)) ?_
    refine q_p rfl rfl (p_nes rfl rfl (by exact rfl)) ?_
    refine q_nil ?_
    refine t_if rfl (fun h => absurd h (by simp)) (fun _ => ?_)
    refine t_skip ?_
    refine t_blk ?_
    refine t_region ?_
    refine l_p rfl rfl (p_add rfl rfl (by omega)) ?_
    refine l_p rfl rfl (p_move rfl) ?_
    refine l_nil ?_
    exact t_round (i + 1) ⟨rfl, rfl, rfl, gi rfl (by omega), trivial⟩ (by omega) (by show l.length - (i + 1) < l.length - i; omega) (fun w hI => hI)
  · refine t_exit rfl ?_
    refine t_seq ?_
    refine t_region ?_
    refine l_p rfl rfl (p_assign rfl) ?_
    refine l_nil ?_
    exact t_ret1 rfl rfl fun w hI => ⟨rfl, hI⟩
theorem rchoose (σ : Stb) (header cond tag : List UInt8) (n : Int) (hh : header.length ≤ 1000000) (hc : cond.length ≤ 1000000) (hn : -9223372036854775808 ≤ n ∧ n ≤ 9223372036854775807) :
    Sp0 Tryz.prog 6 [st header, st cond, st tag, i64 n] σ fun v σ' => ∃ sv, v = .tuple #[i64 (refSpans header cond tag n).1, sv] ∧ Sl σ' 2 esn sv (refSpans header cond tag n).2 := by
  refine sp0 Tryz.func6 rfl (by kernel_rfl) rfl fun F => ?_
  have hsl := specs_len header
  have hrl := resolve_len (specs header).1 n
  have hrr := resolve_right (specs header).1 n
  have hF : refSpans header cond tag n = if (specs header).1 = [] ∨ useP cond tag = false then (200, []) else if resolveI (specs header).1 n = [] then (416, []) else if clashB [] (resolveI (specs header).1 n) = true then (206, refMerge (resolveI (specs header).1 n)) else (206, resolveI (specs header).1 n) := rfl
  generalize refSpans header cond tag n = tot at *
  refine t_seq ?_
  refine t_region ?_
  refine l_p rfl rfl (p_assign rfl) ?_
  refine l_p rfl rfl (p_assign rfl) ?_
  refine l_nil ?_
  refine t_seq ?_
  refine t_region ?_
  refine l_p rfl rfl (p_move rfl) ?_
  refine l_call0 rfl rfl rfl (rspecs σ header hh) ?_
  rintro _ σ1 hσ1 ⟨sv, rfl, hS⟩
  obtain ⟨A, cc, rfl⟩ : ∃ A c, sv = .slice A (specs header).1.length c := by obtain ⟨⟨A, c, h, _⟩, _⟩ := hS; exact ⟨A, c, h⟩
  generalize (specs header).2 = er
  generalize (specs header).1 = l at *
  have hnil : ∀ w, Inv σ1 F w → tot = (200, []) → ∃ σ', σ.le σ' ∧ (∃ sv, Value.tuple #[i64 200, .slice none 0 0] = .tuple #[i64 tot.1, sv] ∧ Sl σ' 2 esn sv tot.2) ∧ Inv σ' F w := fun w hI h => ⟨σ1, hσ1, ⟨.slice none 0 0, by rw [h]; rfl, by rw [h]; exact Sl.nil ..⟩, hI⟩
  refine l_p rfl rfl (p_move rfl) ?_
  refine l_p rfl rfl (p_ext rfl rfl) ?_
  refine l_p rfl rfl (p_ext rfl rfl) ?_
  refine l_p rfl rfl (p_assign rfl) ?_
  refine l_p rfl rfl (p_assign rfl) ?_
  refine l_nil ?_
  refine t_seq ?_
  refine t_seq ?_
  refine t_region ?_
  refine l_p rfl rfl (p_move rfl) ?_
  refine l_p rfl rfl (p_lensl (by exact rfl)) ?_
  refine l_p rfl rfl (p_eq rfl rfl) ?_
  refine l_p rfl rfl (p_move rfl) ?_
  refine l_split 23 rfl (fun h => ?_) (fun h => ?_)
  · have hl : l = [] := List.length_eq_zero_iff.1 (by omega)
    refine l_skip rfl rfl ?_
    refine l_skip rfl rfl ?_
    refine l_skip rfl rfl ?_
    refine l_skip rfl rfl ?_
    refine l_p rfl rfl (p_pickt rfl rfl) ?_
    refine l_nil ?_
    refine t_ift rfl ?_
    refine t_seq ?_
    refine t_region ?_
    refine l_p rfl rfl (p_assign rfl) ?_
    refine l_p rfl rfl (p_assign rfl) ?_
    refine l_nil ?_
    exact t_ret2 rfl rfl rfl fun w hI => hnil w hI (by rw [hF, if_pos (.inl hl)])
  have hl : l ≠ [] := fun e => h (by rw [e]; rfl)
  refine l_p rfl rfl (p_move rfl) ?_
  refine l_p rfl rfl (p_move rfl) ?_
  refine l_callv rfl rfl rfl (ruse σ1 cond tag (by omega)) ?_
  refine l_p rfl rfl (p_not rfl) ?_
  refine l_p rfl rfl (p_pickf rfl rfl) ?_
  refine l_nil ?_
  refine t_if rfl (fun h2 => ?_) (fun h2 => ?_)
  · have h2' : useP cond tag = false := by simpa using h2
    refine t_seq ?_
    refine t_region ?_
    refine l_p rfl rfl (p_assign rfl) ?_
    refine l_p rfl rfl (p_assign rfl) ?_
    refine l_nil ?_
    exact t_ret2 rfl rfl rfl fun w hI => hnil w hI (by rw [hF, if_pos (.inr h2')])
  have h2' : useP cond tag = true := by simpa using h2
  rw [if_neg (by rintro (e | e); exact hl e; rw [h2'] at e; cases e)] at hF
  clear hnil
  refine t_skip ?_
  refine t_seq ?_
  refine t_region ?_
  refine l_p rfl rfl (p_move rfl) ?_
  refine l_p rfl rfl (p_move rfl) ?_
  refine l_call0 rfl rfl rfl (rresolve n hn hS (by omega)) ?_
  intro v2 σ2 hσ2 hS2
  obtain ⟨B, cb, rfl⟩ : ∃ A c, v2 = .slice A (resolveI l n).length c := by obtain ⟨⟨A, c, h, _⟩, _⟩ := hS2; exact ⟨A, c, h⟩
  generalize resolveI l n = s at *
  refine l_p rfl rfl (p_assign rfl) ?_
  refine l_nil ?_
  refine t_seq ?_
  refine t_seq ?_
  refine t_region ?_
  refine l_p rfl rfl (p_move rfl) ?_
  refine l_p rfl rfl (p_lensl (by exact rfl)) ?_
  refine l_p rfl rfl (p_eq rfl rfl) ?_
  refine l_nil ?_
  refine t_ifd rfl (fun h3 => ?_) (fun h3 => ?_)
  · have hs : s = [] := List.length_eq_zero_iff.1 (by omega)
    rw [if_pos hs] at hF
    refine t_seq ?_
    refine t_region ?_
    refine l_p rfl rfl (p_assign rfl) ?_
    refine l_p rfl rfl (p_assign rfl) ?_
    refine l_nil ?_
    exact t_ret2 rfl rfl rfl fun w hI => ⟨σ2, hσ1.trans hσ2, ⟨.slice none 0 0, by rw [hF]; rfl, by rw [hF]; exact Sl.nil ..⟩, hI⟩
  have hs : s ≠ [] := fun e => h3 (by rw [e]; rfl)
  rw [if_neg hs] at hF
  refine t_skip ?_
  refine t_seq ?_
  refine t_seq ?_
  refine t_region ?_
  refine l_p rfl rfl (p_move rfl) ?_
  refine l_p rfl rfl (p_lensl (by exact rfl)) ?_
  refine l_p rfl rfl (p_move rfl) ?_
  refine l_nil ?_
  refine t_block ?_
  refine t_loop (ι := Nat) { E := fun i => [(12, .slice B s.length cb), (36, i64 s.length), (37, i64 i)], S := fun _ => σ2, M := fun _ => F, Φ := fun i => i ≤ s.length ∧ clashB (s.take i) (s.drop i) = clashB [] s } (fun i => s.length - i) 0
    (by exact ⟨rfl, rfl, rfl, trivial⟩) ⟨Nat.zero_le _, rfl⟩ (fun w hI => hI) ?_
  rintro i ⟨h1, hcl⟩
  dsimp only at h1 hcl ⊢
  refine t_seq ?_
  refine t_region ?_
  refine l_p rfl rfl (p_lt rfl rfl) ?_
  refine l_nil ?_
  refine t_seq ?_
  refine t_ifd rfl (fun h5 => ?_) (fun h5 => ?_)
  · have hi : i < s.length := by omega
    rw [drop_cons s i hi, clashB, ← take_succ s i hi] at hcl
    refine t_skip ?_
    refine t_seq ?_
    refine t_block ?_
    refine t_seq ?_
    refine t_region ?_
    refine l_p rfl rfl (p_move rfl) ?_
    refine l_p rfl rfl (p_assign rfl) ?_
    refine l_nil ?_
    refine t_seq ?_
    refine t_region ?_
    refine l_p rfl rfl (p_assign rfl) ?_
    refine l_nil ?_
    refine t_block ?_
    refine t_loop (ι := Nat) { E := fun j => [(12, .slice B s.length cb), (36, i64 s.length), (37, i64 i), (13, i64 i), (14, i64 j)], S := fun _ => σ2, M := fun _ => F, Φ := fun j => j ≤ i ∧ (s.take j).any (meetB s[i]) = false } (fun j => i - j) 0
      (by exact ⟨rfl, rfl, rfl, rfl, rfl, trivial⟩) ⟨Nat.zero_le _, rfl⟩ (fun w hI => hI) ?_
    rintro j ⟨hj, ha⟩
    dsimp only at hj ha ⊢
    refine t_seq ?_
    refine t_seq ?_
    refine t_region ?_
    refine l_p rfl rfl (p_move rfl) ?_
    refine l_p rfl rfl (p_move rfl) ?_
    refine l_p rfl rfl (p_lt rfl rfl) ?_
    refine l_nil ?_
    refine t_ifd rfl (fun h6 => ?_) (fun h6 => ?_)
    · have hji : j < i := by omega
      have hjs : j < s.length := by omega
      have hri : ∀ L, Rds σ2 L (ixp (.slice B s.length cb) 2 i) (esn s[i]) := fun L => Rds.ix hS2 hi
      have hrj : ∀ L, Rds σ2 L (ixp (.slice B s.length cb) 2 j) (esn s[j]) := fun L => Rds.ix hS2 hjs
      have hx := hrr s[i] (List.getElem_mem hi)
      have hy := hrr s[j] (List.getElem_mem hjs)
      simp only [rightN, Bool.and_eq_true, decide_eq_true_eq] at hx hy
      have hm : meetB s[i] s[j] = decide (s[i].1 < s[j].2 ∧ s[j].1 < s[i].2) := by
        rw [Bool.eq_iff_iff]; simp [meetB, rightN]; omega
      have hst : (s.take (j + 1)).any (meetB s[i]) = meetB s[i] s[j] := by rw [take_succ s j hjs, List.any_append, ha]; simp
      refine t_skip ?_
      refine t_seq ?_
      refine t_block ?_
      refine t_seq ?_
      refine t_draw (by kernel_rfl) ?_
      refine q_p rfl rfl (p_move rfl) ?_
      refine q_p rfl rfl (p_move rfl) ?_
      refine q_p rfl rfl (p_ix _ (by exact rfl) (by exact rfl) (by exact rfl) (by omega) (Rds.ix (by assumption) (by omega))) ?_
      refine q_p rfl rfl (p_fa (by exact rfl) (Rds.ix (by assumption) (by omega))) ?_
      refine q_p rfl rfl (p_ld1 (by exact rfl) (Rds.fld (Rds.ix (by assumption) (by omega)) (by exact rfl))) ?_
      refine q_p rfl rfl (p_move rfl) ?_
      refine q_p rfl rfl (p_move rfl) ?_
      refine q_p rfl rfl (p_ix _ (by exact rfl) (by exact rfl) (by exact rfl) (by omega) (Rds.ix (by assumption) (by omega))) ?_
      refine q_p rfl rfl (p_fa (by exact rfl) (Rds.ix (by assumption) (by omega))) ?_
      refine q_p rfl rfl (p_ld1 (by exact rfl) (Rds.fld (Rds.ix (by assumption) (by omega)) (by exact rfl))) ?_
      refine q_p rfl rfl (p_lt rfl rfl) ?_
      refine q_p rfl rfl (p_move rfl) ?_
      refine q_split 56 rfl (fun h7 => ?_) (fun h7 => ?_)
      · refine q_p rfl rfl (p_move rfl) ?_
        refine q_p rfl rfl (p_move rfl) ?_
        refine q_p rfl rfl (p_ix _ (by exact rfl) (by exact rfl) (by exact rfl) (by omega) (Rds.ix (by assumption) (by omega))) ?_
        refine q_p rfl rfl (p_fa (by exact rfl) (Rds.ix (by assumption) (by omega))) ?_
        refine q_p rfl rfl (p_ld1 (by exact rfl) (Rds.fld (Rds.ix (by assumption) (by omega)) (by exact rfl))) ?_
        refine q_p rfl rfl (p_move rfl) ?_
        refine q_p rfl rfl (p_move rfl) ?_
        refine q_p rfl rfl (p_ix _ (by exact rfl) (by exact rfl) (by exact rfl) (by omega) (Rds.ix (by assumption) (by omega))) ?_
        refine q_p rfl rfl (p_fa (by exact rfl) (Rds.ix (by assumption) (by omega))) ?_
        refine q_p rfl rfl (p_ld1 (by exact rfl) (Rds.fld (Rds.ix (by assumption) (by omega)) (by exact rfl))) ?_
        refine q_p rfl rfl (p_lt rfl rfl) ?_
        refine q_p rfl rfl (p_pickt rfl rfl) ?_
        refine q_nil ?_
        refine t_ifd rfl (fun h8 => ?_) (fun h8 => ?_)
        · have hcb : clashB [] s = true := by
            rw [← hcl, Bool.or_eq_true]
            refine .inl (List.any_eq_true.2 ⟨s[j], ?_, by rw [hm]; simp; omega⟩)
            rw [List.mem_take_iff_getElem]
            exact ⟨j, by omega, rfl⟩
          rw [if_pos hcb] at hF
          refine t_seq ?_
          refine t_region ?_
          refine l_p rfl rfl (p_move rfl) ?_
          refine l_call0 rfl rfl rfl (rmerge hS2 (by omega)) ?_
          intro v3 σ3 hσ3 hS3
          refine l_p rfl rfl (p_assign rfl) ?_
          refine l_p rfl rfl (p_assign rfl) ?_
          refine l_nil ?_
          exact t_ret2 rfl rfl rfl fun w hI => ⟨σ3, (hσ1.trans hσ2).trans hσ3, ⟨v3, by rw [hF]; rfl, by rw [hF]; exact hS3⟩, hI⟩
        · refine t_skip ?_
          refine t_blk ?_
          refine t_region ?_
          refine l_p rfl rfl (p_move rfl) ?_
          refine l_p rfl rfl (p_add rfl rfl (by omega)) ?_
          refine l_p rfl rfl (p_assign rfl) ?_
          refine l_nil ?_
          exact t_round (j + 1) ⟨rfl, rfl, rfl, rfl, gi rfl (by omega), trivial⟩ ⟨by omega, by rw [hst, hm]; simp; omega⟩ (by show i - (j + 1) < i - j; omega) (fun w hI => hI)
      · refine q_skip rfl rfl ?_
        refine q_skip rfl rfl ?_
        refine q_skip rfl rfl ?_
        refine q_skip rfl rfl ?_
        refine q_skip rfl rfl ?_
        refine q_skip rfl rfl ?_
        refine q_skip rfl rfl ?_
        refine q_skip rfl rfl ?_
        refine q_skip rfl rfl ?_
        refine q_skip rfl rfl ?_
        refine q_skip rfl rfl ?_
        refine q_p rfl rfl (p_pickf rfl rfl) ?_
        refine q_nil ?_
        refine t_iff rfl ?_
        refine t_skip ?_
        refine t_blk ?_
        refine t_region ?_
        refine l_p rfl rfl (p_move rfl) ?_
        refine l_p rfl rfl (p_add rfl rfl (by omega)) ?_
        refine l_p rfl rfl (p_assign rfl) ?_
        refine l_nil ?_
        exact t_round (j + 1) ⟨rfl, rfl, rfl, rfl, gi rfl (by omega), trivial⟩ ⟨by omega, by rw [hst, hm]; simp; omega⟩ (by show i - (j + 1) < i - j; omega) (fun w hI => hI)
    · have hj : j = i := by omega
      subst hj
      rw [ha, Bool.false_or] at hcl
      refine t_exit rfl ?_
      refine t_blk ?_
      refine t_region ?_
      refine l_p rfl rfl (p_add rfl rfl (by omega)) ?_
      refine l_p rfl rfl (p_move rfl) ?_
      refine l_nil ?_
      exact t_round (j + 1) ⟨rfl, rfl, gi rfl (by omega), trivial⟩ ⟨by omega, hcl⟩ (by show s.length - (j + 1) < s.length - j; omega) (fun w hI => hI)
  · have hi : i = s.length := by omega
    subst hi
    rw [List.drop_length, clashB] at hcl
    rw [← hcl] at hF
    refine t_exit rfl ?_
    refine t_seq ?_
    refine t_region ?_
    refine l_p rfl rfl (p_move rfl) ?_
    refine l_p rfl rfl (p_assign rfl) ?_
    refine l_p rfl rfl (p_assign rfl) ?_
    refine l_nil ?_
    exact t_ret2 rfl rfl rfl fun w hI => ⟨σ2, hσ1.trans hσ2, ⟨_, by rw [hF]; rfl, by rw [hF]; exact hS2⟩, hI⟩
theorem nadd (σ : Stb) (a b : Nat) (ha : a ≤ maxNum) (hb : b ≤ maxNum) : SpV Tryz.prog 48 [i64 a, i64 b] σ (.tuple #[i64 (if a + b ≤ maxNum then a + b else 0 : Nat), i64 (if a + b ≤ maxNum then 0 else 9 : Nat)]) := by
  refine spv Tryz.func48 rfl (by kernel_rfl) rfl fun F => ?_
  simp only [maxNum] at ha hb ⊢
  refine t_seq ?_
  refine t_region ?_
  refine l_p rfl rfl (p_assign rfl) ?_
  refine l_p rfl rfl (p_assign rfl) ?_
  refine l_nil ?_
  refine t_seq ?_
  refine t_block ?_
  refine t_seq ?_
  refine t_region ?_
  refine l_p rfl rfl (p_move rfl) ?_
  refine l_callv rfl rfl rfl (nfits σ a 0 4611686018427387903) ?_
  have e1 : decide ((0 : Int) ≤ a ∧ (a : Int) ≤ 4611686018427387903) = true := by simp; omega
  have e2 : decide ((0 : Int) ≤ b ∧ (b : Int) ≤ 4611686018427387903) = true := by simp; omega
  rw [e1]
  refine l_p rfl rfl (p_nott rfl) ?_
  refine l_p rfl rfl (p_move rfl) ?_
  refine l_p rfl rfl (p_move rfl) ?_
  refine l_callv rfl rfl rfl (nfits σ b 0 4611686018427387903) ?_
  rw [e2]
  refine l_p rfl rfl (p_nott rfl) ?_
  refine l_p rfl rfl (p_pickf rfl rfl) ?_
  refine l_p rfl rfl (p_assign rfl) ?_
  refine l_nil ?_
  refine t_iff rfl ?_
  refine t_seq ?_
  refine t_region ?_
  refine l_p rfl rfl (p_move rfl) ?_
  refine l_p rfl rfl (p_move rfl) ?_
  refine l_p rfl rfl (p_sub rfl rfl (by omega)) ?_
  refine l_p rfl rfl (p_gt rfl rfl) ?_
  refine l_p rfl rfl (p_assign rfl) ?_
  refine l_nil ?_
  refine t_ifd rfl (fun h => ?_) (fun h => ?_)
  · have h2 : ¬ a + b ≤ 4611686018427387903 := by omega
    refine t_seq ?_
    refine t_region ?_
    refine l_p rfl rfl (p_assign rfl) ?_
    refine l_p rfl rfl (p_assign rfl) ?_
    refine l_nil ?_
    exact t_ret2 rfl rfl rfl fun w hI => ⟨by simp [h2], hI⟩
  · have h2 : a + b ≤ 4611686018427387903 := by omega
    refine t_skip ?_
    refine t_blk ?_
    refine t_seq ?_
    refine t_region ?_
    refine l_p rfl rfl (p_move rfl) ?_
    refine l_p rfl rfl (p_move rfl) ?_
    refine l_p rfl rfl (p_add rfl rfl (by omega)) ?_
    refine l_p rfl rfl (p_assign rfl) ?_
    refine l_p rfl rfl (p_assign rfl) ?_
    refine l_nil ?_
    exact t_ret2 rfl rfl rfl fun w hI => ⟨by simp [h2], hI⟩
def lenN (x : N2) : Nat := if rightN x = true then x.2 - x.1 else 0
theorem slen (σ : Stb) (x : N2) : SpV Tryz.prog 49 [.agg #[i64 x.1, i64 x.2]] σ (i64 (lenN x)) := by
  refine spv Tryz.func49 rfl (by kernel_rfl) rfl fun F => ?_
  refine t_seq ?_
  refine t_region ?_
  refine l_box rfl rfl rfl rfl ?_; intro _
  refine l_p rfl rfl (p_assign rfl) ?_
  refine l_nil ?_
  refine t_seq ?_
  refine t_seq ?_
  refine t_region ?_
  refine l_p rfl rfl (p_ldn (by exact rfl) Rds.bxi (by exact rfl) (by exact rfl)) ?_
  refine l_callv rfl rfl rfl (spright σ x.1 x.2) ?_
  refine l_p rfl rfl (p_not rfl) ?_
  refine l_nil ?_
  refine t_if rfl (fun h => ?_) (fun h => ?_)
  · have h' : rightN x = false := by simpa using h
    refine t_seq ?_
    refine t_region ?_
    refine l_p rfl rfl (p_assign rfl) ?_
    refine l_nil ?_
    exact t_ret1 rfl rfl fun w hI => ⟨by rw [lenN, if_neg (by simp [h'])]; rfl, hI.tail⟩
  · have h' : rightN x = true := by simpa using h
    have h2 := h'
    simp only [rightN, Bool.and_eq_true, decide_eq_true_eq] at h2
    have e : (x.2 : Int) - x.1 = (lenN x : Nat) := by rw [lenN, if_pos h']; omega
    refine t_skip ?_
    refine t_seq ?_
    refine t_region ?_
    refine l_p rfl rfl (p_fa (by exact rfl) Rds.bxi) ?_
    refine l_p rfl rfl (p_ld1 (by exact rfl) (Rds.fld Rds.bxi (by exact rfl))) ?_
    refine l_p rfl rfl (p_fa (by exact rfl) Rds.bxi) ?_
    refine l_p rfl rfl (p_ld1 (by exact rfl) Rds.bxi) ?_
    refine l_p rfl rfl (p_sub rfl rfl (by omega)) ?_
    refine l_p rfl rfl (p_assign rfl) ?_
    refine l_nil ?_
    exact t_ret1 rfl rfl fun w hI => ⟨by rw [← e], hI.tail⟩
theorem lenN_le (x : N2) : lenN x ≤ maxNum := by
  unfold lenN; split
  · rename_i h; simp [rightN] at h; simp only [maxNum]; omega
  · simp
theorem stotal {σ : Stb} {A : Option Addr} {n0 cc : Nat} {l : List N2} (hS : Sl σ 2 esn (.slice A n0 cc) l) : SpV Tryz.prog 24 [.slice A n0 cc] σ (i64 (sumN l)) := by
  have hn0 := hS.len
  subst hn0
  have hb := hS.bound
  refine spv Tryz.func24 rfl (by kernel_rfl) rfl fun F => ?_
  refine t_seq ?_
  refine t_region ?_
  refine l_p rfl rfl (p_assign rfl) ?_
  refine l_nil ?_
  refine t_seq ?_
  refine t_region ?_
  refine l_p rfl rfl (p_assign rfl) ?_
  refine l_nil ?_
  refine t_seq ?_
  refine t_seq ?_
  refine t_region ?_
  refine l_p rfl rfl (p_move rfl) ?_
  refine l_p rfl rfl (p_lensl (by exact rfl)) ?_
  refine l_p rfl rfl (p_move rfl) ?_
  refine l_nil ?_
  refine t_block ?_
  refine t_loop (ι := Nat × List Res) { E := fun i => [(3, i64 (sumN (l.take i.1))), (8, .slice A l.length cc), (9, i64 l.length), (10, i64 i.1)], S := fun _ => σ, M := fun i => i.2 ++ F, Φ := fun i => i.1 ≤ l.length } (fun i => l.length - i.1) (0, [])
    (by exact ⟨rfl, rfl, rfl, rfl, trivial⟩) (Nat.zero_le _) (fun w hI => hI) ?_
  rintro ⟨i, R⟩ h1
  dsimp only at h1 ⊢
  refine t_seq ?_
  refine t_region ?_
  refine l_p rfl rfl (p_lt rfl rfl) ?_
  refine l_nil ?_
  refine t_seq ?_
  refine t_ifd rfl (fun h5 => ?_) (fun h5 => ?_)
  · have hi : i < l.length := by omega
    have hsum : sumN (l.take (i + 1)) = min maxNum (sumN (l.take i) + lenN l[i]) := by rw [take_succ l i hi, sumN_snoc]; rfl
    have hle := sumN_le (l.take i)
    have hll := lenN_le l[i]
    refine t_skip ?_
    refine t_seq ?_
    refine t_block ?_
    refine t_seq ?_
    refine t_region ?_
    refine l_p rfl rfl (p_ix _ (by exact rfl) (by exact rfl) (by exact rfl) (by omega) (Rds.ix (by assumption) (by omega))) ?_
    refine l_p rfl rfl (p_ldn (by exact rfl) (Rds.ix (by assumption) (by omega)) (by exact rfl) (by exact rfl)) ?_
    refine l_alloc (by exact rfl) (by exact rfl) (by exact rfl) ?_; intro _
    refine l_sti rfl rfl rfl rfl rfl (by exact rfl) (by exact rfl) (by exact rfl) (by exact ⟨rfl, rfl⟩) ?_
    refine l_nil ?_
    refine t_seq ?_
    refine t_region ?_
    refine l_p rfl rfl (p_move rfl) ?_
    refine l_p rfl rfl (p_ldn (by exact rfl) Rds.bxi (by exact rfl) (by exact rfl)) ?_
    refine l_callv rfl rfl rfl (slen σ l[i]) ?_
    skip
    refine l_callv rfl rfl rfl (nadd σ _ _ hle hll) ?_
    by_cases h : sumN (l.take i) + lenN l[i] ≤ maxNum
    · simp only [h, if_true]
      refine l_p rfl rfl (p_move rfl) ?_
      refine l_p rfl rfl (p_ext rfl rfl) ?_
      refine l_p rfl rfl (p_ext rfl rfl) ?_
      refine l_p rfl rfl (p_assign rfl) ?_
      refine l_p rfl rfl (p_assign rfl) ?_
      refine l_nil ?_
      refine t_seq ?_
      refine t_seq ?_
      refine t_region ?_
      refine l_p rfl rfl (p_move rfl) ?_
      refine l_p rfl rfl (p_ne rfl rfl) ?_
      refine l_nil ?_
      refine t_iff rfl ?_
      refine t_skip ?_
      refine t_region ?_
      refine l_p rfl rfl (p_move rfl) ?_
      refine l_p rfl rfl (p_assign rfl) ?_
      refine l_nil ?_
      refine t_blk ?_
      refine t_region ?_
      refine l_p rfl rfl (p_add rfl rfl (by omega)) ?_
      refine l_p rfl rfl (p_move rfl) ?_
      refine l_nil ?_
      exact t_round (i + 1, _ :: R) ⟨gi rfl (by rw [hsum, Nat.min_eq_right h]), rfl, rfl, gi rfl (by omega), trivial⟩ (by simp only; omega) (by show l.length - (i + 1) < l.length - i; omega) (fun w hI => hI)
    · simp only [h, if_false]
      refine l_p rfl rfl (p_move rfl) ?_
      refine l_p rfl rfl (p_ext rfl rfl) ?_
      refine l_p rfl rfl (p_ext rfl rfl) ?_
      refine l_p rfl rfl (p_assign rfl) ?_
      refine l_p rfl rfl (p_assign rfl) ?_
      refine l_nil ?_
      refine t_seq ?_
      refine t_seq ?_
      refine t_region ?_
      refine l_p rfl rfl (p_move rfl) ?_
      refine l_p rfl rfl (p_ne rfl rfl) ?_
      refine l_nil ?_
      refine t_ift rfl ?_
      refine t_seq ?_
      refine t_region ?_
      refine l_p rfl rfl (p_assign rfl) ?_
      refine l_nil ?_
      have hf : sumN l = maxNum := by
        have := sumN_full (l.drop (i + 1)) (l.take (i + 1)) (by rw [hsum]; omega)
        rwa [List.take_append_drop] at this
      exact t_ret1 rfl rfl fun w hI => ⟨by rw [hf]; rfl, Inv.dropN (_ :: R) hI⟩
  · have hn : i = l.length := by omega
    subst hn
    rw [List.take_length]
    refine t_exit rfl ?_
    refine t_seq ?_
    refine t_region ?_
    refine l_p rfl rfl (p_move rfl) ?_
    refine l_p rfl rfl (p_assign rfl) ?_
    refine l_nil ?_
    exact t_ret1 rfl rfl fun w hI => ⟨rfl, hI.dropN R⟩
abbrev vch (status : Nat) (A : Option Addr) (n c : Nat) : Value := .agg #[i64 status, .slice A n c]
theorem swants {σ : Stb} {A : Option Addr} {cc : Nat} {l : List N2} (status : Nat) (n : Int) (hn : n ≤ 9223372036854775807) (hl : l.length ≤ 1000000) (hS : Sl σ 2 esn (.slice A l.length cc) l) : Sp0 Tryz.prog 10 [vch status A l.length cc, i64 n] σ fun v σ' => Sl σ' 2 esn v (wantsN status l n) := by
  refine sp0 Tryz.func10 rfl (by kernel_rfl) rfl fun F => ?_
  refine t_seq ?_
  refine t_region ?_
  refine l_box rfl rfl rfl rfl ?_; intro _
  refine l_p rfl rfl (p_assign rfl) ?_
  refine l_nil ?_
  refine t_seq ?_
  refine t_block ?_
  refine t_seq ?_
  refine t_region ?_
  refine l_p rfl rfl (p_fa (by exact rfl) Rds.bxi) ?_
  refine l_p rfl rfl (p_ld1 (by exact rfl) Rds.bxi) ?_
  refine l_p rfl rfl (p_eq rfl rfl) ?_
  refine l_p rfl rfl (p_assign rfl) ?_
  refine l_nil ?_
  refine t_ifd rfl (fun h => ?_) (fun h => ?_)
  · refine t_seq ?_
    refine t_region ?_
    refine l_p rfl rfl (p_fa (by exact rfl) Rds.bxi) ?_
    refine l_p rfl rfl (p_ld1 (by exact rfl) (Rds.fld Rds.bxi (by exact rfl))) ?_
    refine l_call1 rfl rfl rfl (clone_sp hS hl) ?_
    rintro _ σ1 _ hσ1 ⟨A1, c1, rfl, rfl⟩
    refine l_p rfl rfl (p_assign rfl) ?_
    refine l_nil ?_
    refine t_fzo .z fun σ' hσ hS' => ?_
    exact t_ret1 rfl rfl fun w hI => ⟨σ', hσ1.trans hσ, by rw [wantsN, if_pos (by omega)]; exact hS', hI.tail⟩
  refine t_seq ?_
  refine t_region ?_
  refine l_p rfl rfl (p_fa (by exact rfl) Rds.bxi) ?_
  refine l_p rfl rfl (p_ld1 (by exact rfl) Rds.bxi) ?_
  refine l_p rfl rfl (p_eq rfl rfl) ?_
  refine l_p rfl rfl (p_move rfl) ?_
  have hf : wantsN status l n = if status = 200 ∧ 0 < n then [(0, n.toNat)] else [] := by rw [wantsN, if_neg (by omega)]
  refine l_split 16 rfl (fun h2 => ?_) (fun h2 => ?_)
  · refine l_p rfl rfl (p_move rfl) ?_
    refine l_p rfl rfl (p_gt rfl rfl) ?_
    refine l_p rfl rfl (p_pickt rfl rfl) ?_
    refine l_p rfl rfl (p_assign rfl) ?_
    refine l_nil ?_
    refine t_ifd rfl (fun h3 => ?_) (fun h3 => ?_)
    · obtain ⟨m, rfl⟩ : ∃ m : Nat, n = m := ⟨n.toNat, by omega⟩
      refine t_seq ?_
      refine t_region ?_
      refine l_p rfl rfl (p_move rfl) ?_
      refine l_p rfl rfl (p_build (by exact rfl) (by exact rfl) (by exact rfl) (by exact rfl)) ?_
      refine l_bsl (by exact rfl) (by exact rfl) (by exact rfl) (by exact rfl) (by exact rfl) (by exact rfl) (by exact rfl) ?_; intro _
      refine l_p rfl rfl (p_assign rfl) ?_
      refine l_nil ?_
      refine t_ownb 2 esn [((0, m) : N2)] 1 .z rfl (by exact rfl) (fun _ _ => rfl) (by simp) ?_
      refine t_fzo .z fun σ' hσ hS' => ?_
      exact t_ret1 rfl rfl fun w hI => ⟨σ', hσ, by rw [hf, if_pos ⟨by omega, h3⟩]; exact hS', hI.tail⟩
    · refine t_skip ?_
      refine t_blk ?_
      refine t_seq ?_
      refine t_region ?_
      refine l_p rfl rfl (p_assign rfl) ?_
      refine l_nil ?_
      exact t_ret1 rfl rfl fun w hI => ⟨σ, .refl σ, by rw [hf, if_neg (by omega)]; exact Sl.nil .., hI.tail⟩
  · refine l_skip rfl rfl ?_
    refine l_skip rfl rfl ?_
    refine l_p rfl rfl (p_pickf rfl rfl) ?_
    refine l_p rfl rfl (p_assign rfl) ?_
    refine l_nil ?_
    refine t_iff rfl ?_
    refine t_skip ?_
    refine t_blk ?_
    refine t_seq ?_
    refine t_region ?_
    refine l_p rfl rfl (p_assign rfl) ?_
    refine l_nil ?_
    exact t_ret1 rfl rfl fun w hI => ⟨σ, .refl σ, by rw [hf, if_neg (by omega)]; exact Sl.nil .., hI.tail⟩
theorem smany (σ : Stb) (A : Option Addr) (status n cc : Nat) : SpV Tryz.prog 11 [vch status A n cc] σ (.bool (decide (status = 206) && decide (1 < n))) := by
  refine spv Tryz.func11 rfl (by kernel_rfl) rfl fun F => ?_
  refine t_seq ?_
  refine t_region ?_
  refine l_box rfl rfl rfl rfl ?_; intro _
  refine l_p rfl rfl (p_assign rfl) ?_
  refine l_nil ?_
  refine t_seq ?_
  refine t_region ?_
  refine l_p rfl rfl (p_fa (by exact rfl) Rds.bxi) ?_
  refine l_p rfl rfl (p_ld1 (by exact rfl) Rds.bxi) ?_
  refine l_p rfl rfl (p_eq rfl rfl) ?_
  refine l_p rfl rfl (p_move rfl) ?_
  refine l_split 6 rfl (fun h => ?_) (fun h => ?_)
  · have h' : status = 206 := by omega
    refine l_p rfl rfl (p_fa (by exact rfl) Rds.bxi) ?_
    refine l_p rfl rfl (p_ld1 (by exact rfl) (Rds.fld Rds.bxi (by exact rfl))) ?_
    refine l_p rfl rfl (p_lensl (by exact rfl)) ?_
    refine l_p rfl rfl (p_gt rfl rfl) ?_
    refine l_p rfl rfl (p_pickt rfl rfl) ?_
    refine l_p rfl rfl (p_assign rfl) ?_
    refine l_nil ?_
    exact t_ret1 rfl rfl fun w hI => ⟨by rw [h', Value.bool.injEq, Bool.eq_iff_iff]; simp; omega, hI.tail⟩
  · have h' : ¬ status = 206 := by omega
    refine l_skip rfl rfl ?_
    refine l_skip rfl rfl ?_
    refine l_skip rfl rfl ?_
    refine l_skip rfl rfl ?_
    refine l_p rfl rfl (p_pickf rfl rfl) ?_
    refine l_p rfl rfl (p_assign rfl) ?_
    refine l_nil ?_
    exact t_ret1 rfl rfl fun w hI => ⟨by simp [h'], hI.tail⟩
theorem sbytes {σ : Stb} {A : Option Addr} {cc : Nat} {l : List N2} (status : Nat) (n : Int) (hn : n ≤ 9223372036854775807) (hl : l.length ≤ 1000000) (hS : Sl σ 2 esn (.slice A l.length cc) l) : SpV Tryz.prog 12 [vch status A l.length cc, i64 n] σ (i64 (sumN (wantsN status l n))) := by
  suffices h : Sp0 Tryz.prog 12 [vch status A l.length cc, i64 n] σ fun v _ => v = i64 (sumN (wantsN status l n)) from h
  refine sp0 Tryz.func12 rfl (by kernel_rfl) rfl fun F => ?_
  refine t_seq ?_
  refine t_region ?_
  refine l_box rfl rfl rfl rfl ?_; intro _
  refine l_p rfl rfl (p_assign rfl) ?_
  refine l_nil ?_
  refine t_seq ?_
  refine t_region ?_
  refine l_p rfl rfl (p_ldn (by exact rfl) Rds.bxi (by exact rfl) (by exact rfl)) ?_
  refine l_p rfl rfl (p_move rfl) ?_
  refine l_call0 rfl rfl rfl (swants status n hn hl hS) ?_
  intro v σ1 hσ1 hS1
  obtain ⟨B, cb, rfl⟩ : ∃ A c, v = .slice A (wantsN status l n).length c := by obtain ⟨⟨A, c, h, _⟩, _⟩ := hS1; exact ⟨A, c, h⟩
  skip
  refine l_callv rfl rfl rfl (stotal hS1) ?_
  refine l_p rfl rfl (p_assign rfl) ?_
  refine l_nil ?_
  exact t_ret1 rfl rfl fun w hI => ⟨σ1, hσ1, rfl, hI.tail⟩
end Go.Proofs.YtfglenbfbcckjaaGreatDoor
