/- Chapter 47: the laws' own functions; ExportReads: walk. -/
import Derived.Test.YtbijponhndknlaaDoorWget
import Derived.Test.YtbijponhndknlaaDoorWref17
set_option linter.unusedSimpArgs false
set_option linter.unusedVariables false
set_option maxRecDepth 20000
namespace Go.Proofs.YtbijponhndknlaaDoor
open Go.Sp
attribute [local irreducible] Go.Sp.Pr Go.Sp.Ws Go.Sp.Wl Go.Sp.Wq Go.Sp.Rds Go.Sp.Src
theorem lawake {σ : Stb} (hG : LaidE σ) : Sp0 Tryd.prog 5 [] σ fun v _ => v = .bool true := by
  refine sp0 Tryd.func5 rfl (by kernel_rfl) rfl fun F => ?_
  refine t_seq ?_
  refine t_region ?_
  refine l_p rfl rfl (p_assign rfl) ?_
  refine l_nil ?_
  refine t_seq ?_
  refine t_region ?_
  refine l_call0 rfl rfl rfl (exput (A := none) (c0 := 0) [] hG ⟨Sl.nil .., by simp⟩ (by simp)) ?_
  rintro v σ1 h1 ⟨A5, c5, ⟨hr, rfl, hS5⟩ | ⟨hr, rfl⟩⟩
  · have e : (sealB (allBytes (List.map mH []))).length = 5 := by rw [seal_len]; rfl
    refine l_p rfl rfl (p_move rfl) ?_
    refine l_p rfl rfl (p_ext rfl rfl) ?_
    refine l_p rfl rfl (p_ext rfl rfl) ?_
    refine l_p rfl rfl (p_assign rfl) ?_
    refine l_p rfl rfl (p_assign rfl) ?_
    refine l_nil ?_
    refine t_seq ?_
    refine t_region ?_
    refine l_p rfl rfl (p_move rfl) ?_
    refine l_p rfl rfl (p_eq rfl rfl) ?_
    refine l_p rfl rfl (p_move rfl) ?_
    refine l_p rfl rfl (p_move rfl) ?_
    refine l_p rfl rfl (p_lensl (by exact rfl)) ?_
    refine l_p rfl rfl (p_eq rfl rfl) ?_
    refine l_p rfl rfl (p_pickt rfl rfl) ?_
    refine l_p rfl rfl (p_assign rfl) ?_
    refine l_nil ?_
    rw [e]
    skip
    exact t_ret1 rfl rfl fun w hI => ⟨σ1, h1, rfl, hI⟩
  · cases hr
theorem lfew {σ : Stb} {A : Option Addr} {c0 : Nat} (l : List HeldA) (hS : OkHs σ (.slice A l.length c0) l) :
    Sp0 Tryd.prog 6 [.slice A l.length c0] σ fun v _ => v = .bool false ∨ (v = .bool true ∧ ∀ h ∈ l, h.1.2.2.1.length ≤ 100) := by
  obtain ⟨hSl, hHp⟩ := hS
  have hbl := hSl.bound
  refine sp0 Tryd.func6 rfl (by kernel_rfl) rfl fun F => ?_
  refine t_seq ?_
  refine t_region ?_
  refine l_p rfl rfl (p_assign rfl) ?_
  refine l_nil ?_
  refine t_seq ?_
  refine t_seq ?_
  refine t_region ?_
  refine l_p rfl rfl (p_move rfl) ?_
  refine l_p rfl rfl (p_lensl (by exact rfl)) ?_
  refine l_p rfl rfl (p_move rfl) ?_
  refine l_nil ?_
  refine t_block ?_
  refine t_loop (ι := Nat) { E := fun j => [(0, .slice A l.length c0), (7, .slice A l.length c0), (8, i64 l.length), (9, i64 j)], S := fun _ => σ, M := fun _ => F, Φ := fun j => j ≤ l.length ∧ ∀ h ∈ l.take j, h.1.2.2.1.length ≤ 100 } (fun j => l.length - j) 0
    (by exact ⟨rfl, rfl, rfl, rfl, trivial⟩) ⟨Nat.zero_le _, by simp⟩ (fun w hI => hI) ?_
  rintro j ⟨m1, m2⟩
  dsimp only at m1 m2 ⊢
  refine t_seq ?_
  refine t_region ?_
  refine l_p rfl rfl (p_lt rfl rfl) ?_
  refine l_nil ?_
  refine t_seq ?_
  refine t_ifd rfl (fun h5 => ?_) (fun h5 => ?_)
  · have hj : j < l.length := by omega
    have hHj := hHp l[j] (List.getElem_mem hj)
    obtain ⟨Ah, ch, hhv, _⟩ := hHj.1.shape
    have hbp := hHj.1.bound
    have hpl := hHj.1
    rw [hhv] at hpl
    have hpc : eHd l[j] = [i64 l[j].1.1, i64 l[j].1.2.1, st l[j].1.2.2.1, i64 l[j].1.2.2.2.1, i64 l[j].1.2.2.2.2, .slice Ah l[j].2.2.length ch] := by simp only [eHd, hhv]
    refine t_skip ?_
    refine t_seq ?_
    refine t_block ?_
    refine t_seq ?_
    refine t_region ?_
    refine l_p rfl rfl (p_ix _ (by exact rfl) (by exact rfl) (by exact rfl) (by omega) (Rds.ix (by assumption) (by omega))) ?_
    refine l_p rfl rfl (p_ldn (by exact rfl) (Rds.ix (by assumption) (by omega)) (by exact rfl) (by exact rfl)) ?_
    refine l_alloc (by exact rfl) (by exact rfl) (by exact rfl) ?_; intro _
    rw [hpc]
    refine l_sti rfl rfl rfl rfl rfl (by exact rfl) (by exact rfl) (by exact rfl) (by exact ⟨rfl, rfl⟩) ?_
    refine l_nil ?_
    refine t_seq ?_
    refine t_seq ?_
    refine t_region ?_
    refine l_p rfl rfl (p_fa (by exact rfl) Rds.bxi) ?_
    refine l_p rfl rfl (p_ld1 (by exact rfl) (Rds.fld Rds.bxi (by exact rfl))) ?_
    refine l_p rfl rfl (p_lensl (by exact rfl)) ?_
    refine l_p rfl rfl (p_gt rfl rfl) ?_
    refine l_p rfl rfl (p_move rfl) ?_
    rename_i g4
    refine l_split 17 rfl (fun h6 => ?_) (fun h6 => ?_)
    · refine l_skip rfl rfl ?_
      refine l_skip rfl rfl ?_
      refine l_skip rfl rfl ?_
      refine l_skip rfl rfl ?_
      refine l_skip rfl rfl ?_
      refine l_p rfl rfl (p_pickt rfl rfl) ?_
      refine l_nil ?_
      refine t_ift rfl ?_
      refine t_seq ?_
      refine t_region ?_
      refine l_p rfl rfl (p_assign rfl) ?_
      refine l_nil ?_
      exact t_ret1 rfl rfl fun w hI => ⟨σ, .refl σ, .inl rfl, hI.tail⟩
    refine l_p rfl rfl (p_fa (by exact rfl) Rds.bxi) ?_
    refine l_p rfl rfl (p_fa (by exact rfl) Rds.bxi) ?_
    refine l_p rfl rfl (p_ld1 (by exact rfl) (Rds.fld Rds.bxi (by exact rfl))) ?_
    refine l_p rfl rfl (p_lens (by exact rfl)) ?_
    refine l_p rfl rfl (p_gt rfl rfl) ?_
    refine l_p rfl rfl (p_pickf rfl rfl) ?_
    refine l_nil ?_
    refine t_ifd rfl (fun h7 => ?_) (fun h7 => ?_)
    · refine t_seq ?_
      refine t_region ?_
      refine l_p rfl rfl (p_assign rfl) ?_
      refine l_nil ?_
      exact t_ret1 rfl rfl fun w hI => ⟨σ, .refl σ, .inl rfl, hI.tail⟩
    refine t_skip ?_
    refine t_seq ?_
    refine t_region ?_
    refine l_p rfl rfl (p_fa (by exact rfl) Rds.bxi) ?_
    refine l_p rfl rfl (p_ld1 (by exact rfl) (Rds.fld Rds.bxi (by exact rfl))) ?_
    refine l_p rfl rfl (p_lensl (by exact rfl)) ?_
    refine l_p rfl rfl (p_move rfl) ?_
    refine l_nil ?_
    refine t_block ?_
    generalize hps : l[j].2.2 = ps at *
    refine t_loop (ι := Nat) { E := fun k => [(0, .slice A l.length c0), (7, .slice A l.length c0), (8, i64 l.length), (9, i64 j), (25, .slice Ah ps.length ch), (26, i64 ps.length), (27, i64 k)], S := fun _ => σ, M := fun _ => F, Φ := fun k => k ≤ ps.length } (fun k => ps.length - k) 0
      (by exact ⟨rfl, rfl, rfl, rfl, rfl, rfl, rfl, trivial⟩) (Nat.zero_le _) (fun w hI => hI.tail) ?_
    intro k hk
    dsimp only at hk ⊢
    refine t_seq ?_
    refine t_region ?_
    refine l_p rfl rfl (p_lt rfl rfl) ?_
    refine l_nil ?_
    refine t_seq ?_
    refine t_ifd rfl (fun h8 => ?_) (fun h8 => ?_)
    · have hk2 : k < ps.length := by omega
      have hpk : OkP σ ps[k] := hHj.2 _ (by rw [hps]; exact List.getElem_mem hk2)
      obtain ⟨Ap, cp, hpv, _⟩ := Sl.shape hpk
      have hpc2 : ePc ps[k] = [i64 ps[k].1, i64 ps[k].2.1, i64 ps[k].2.2.1, .slice Ap ps[k].2.2.2.2.length cp] := by simp only [ePc, hpv]
      refine t_skip ?_
      refine t_seq ?_
      refine t_block ?_
      refine t_seq ?_
      refine t_region ?_
      refine l_p rfl rfl (p_ix _ (by exact rfl) (by exact rfl) (by exact rfl) (by omega) (Rds.ix (by assumption) (by omega))) ?_
      refine l_p rfl rfl (p_ldn (by exact rfl) (Rds.ix (by assumption) (by omega)) (by exact rfl) (by exact rfl)) ?_
      refine l_alloc (by exact rfl) (by exact rfl) (by exact rfl) ?_; intro _
      rw [hpc2]
      refine l_sti rfl rfl rfl rfl rfl (by exact rfl) (by exact rfl) (by exact rfl) (by exact ⟨rfl, rfl⟩) ?_
      refine l_nil ?_
      refine t_seq ?_
      refine t_region ?_
      refine l_p rfl rfl (p_fa (by exact rfl) Rds.bxi) ?_
      refine l_p rfl rfl (p_ld1 (by exact rfl) (Rds.fld Rds.bxi (by exact rfl))) ?_
      refine l_p rfl rfl (p_lensl (by exact rfl)) ?_
      refine l_p rfl rfl (p_gt rfl rfl) ?_
      refine l_nil ?_
      refine t_ifd rfl (fun h9 => ?_) (fun h9 => ?_)
      · refine t_seq ?_
        refine t_region ?_
        refine l_p rfl rfl (p_assign rfl) ?_
        refine l_nil ?_
        exact t_ret1 rfl rfl fun w hI => ⟨σ, .refl σ, .inl rfl, hI.tail⟩
      · refine t_skip ?_
        refine t_blk ?_
        refine t_region ?_
        refine l_p rfl rfl (p_add rfl rfl (by omega)) ?_
        refine l_p rfl rfl (p_move rfl) ?_
        refine l_nil ?_
        exact t_round (k + 1) ⟨rfl, rfl, rfl, rfl, rfl, rfl, gi rfl (by omega), trivial⟩ (by omega) (by show ps.length - (k + 1) < ps.length - k; omega) (fun w hI => hI.tail)
    · refine t_exit rfl ?_
      refine t_blk ?_
      refine t_region ?_
      refine l_p rfl rfl (p_add rfl rfl (by omega)) ?_
      refine l_p rfl rfl (p_move rfl) ?_
      refine l_nil ?_
      refine t_round (j + 1) ⟨rfl, rfl, rfl, gi rfl (by omega), trivial⟩ ⟨by omega, fun h hh => ?_⟩ (by show l.length - (j + 1) < l.length - j; omega) (fun w hI => hI)
      rw [take_succ l j hj] at hh
      rcases List.mem_append.1 hh with hh | hh
      · exact m2 h hh
      · rw [List.mem_singleton] at hh; subst hh; omega
  · have hj : j = l.length := by omega
    subst hj
    rw [List.take_length] at m2
    refine t_exit rfl ?_
    refine t_seq ?_
    refine t_region ?_
    refine l_p rfl rfl (p_move rfl) ?_
    refine l_p rfl rfl (p_lensl (by exact rfl)) ?_
    refine l_p rfl rfl (p_le rfl rfl) ?_
    refine l_p rfl rfl (p_assign rfl) ?_
    refine l_nil ?_
    exact t_ret1 rfl rfl fun w hI => ⟨σ, .refl σ, by by_cases hq : (l.length : Int) ≤ 20; exact .inr ⟨by rw [decide_eq_true hq], m2⟩; exact .inl (by rw [decide_eq_false hq]), hI⟩
theorem getAll_bad {b : List UInt8} (h : openB b = ([], 4)) : (getAll b).2 = 4 := by unfold getAll; rw [h]; rfl
theorem getAll_seal (b : List UInt8) : (getAll (sealB b)).2 = 0 ∨ (getAll (sealB b)).2 = 3 := by
  have e : openB (sealB b) = (b, 0) := open_seal b
  unfold getAll
  rw [e, if_neg (by simp)]
  dsimp only
  split
  · exact .inr rfl
  · exact .inl rfl
theorem law_reads {σ : Stb} (hG : LaidE σ) {A B : Option Addr} {c0 c1 : Nat} {b : List UInt8} {l : List HeldA} (hS : Sl σ 1 eu8 (.slice A b.length c0) b) (hH : OkHs σ (.slice B l.length c1) l) (i : Int) (x : UInt8) :
    Sp0 Tryd.prog 3 [.slice A b.length c0, .slice B l.length c1, i64 i, u8 x] σ fun v _ => v = .bool true := by
  have hbl := hS.bound
  refine sp0 Tryd.func3 rfl (by kernel_rfl) rfl fun F => ?_
  refine t_seq ?_
  refine t_region ?_
  refine l_p rfl rfl (p_assign rfl) ?_
  refine l_nil ?_
  refine t_seq ?_
  refine t_seq ?_
  refine t_region ?_
  refine l_call0 rfl rfl rfl (lawake hG) ?_
  rintro _ σ1 h1 rfl
  refine l_p rfl rfl (p_nott rfl) ?_
  refine l_nil ?_
  refine t_iff rfl ?_
  refine t_skip ?_
  refine t_seq ?_
  refine t_seq ?_
  refine t_region ?_
  refine l_p rfl rfl (p_move rfl) ?_
  refine l_p rfl rfl (p_lensl (by exact rfl)) ?_
  refine l_p rfl rfl (p_gt rfl rfl) ?_
  refine l_p rfl rfl (p_move rfl) ?_
  refine l_split 26 rfl (fun h2 => ?_) (fun h2 => ?_)
  · refine l_skip rfl rfl ?_
    refine l_skip rfl rfl ?_
    refine l_skip rfl rfl ?_
    refine l_p rfl rfl (p_pickt rfl rfl) ?_
    refine l_nil ?_
    refine t_ift rfl ?_
    refine t_seq ?_
    refine t_region ?_
    refine l_p rfl rfl (p_assign rfl) ?_
    refine l_nil ?_
    exact t_ret1 rfl rfl fun w hI => ⟨σ1, h1, rfl, hI⟩
  refine l_p rfl rfl (p_move rfl) ?_
  refine l_call0 rfl rfl rfl (lfew l (hH.up h1)) ?_
  rintro _ σ2 h3 (rfl | ⟨rfl, ht⟩)
  · refine l_p rfl rfl (p_notf rfl) ?_
    refine l_p rfl rfl (p_pickf rfl rfl) ?_
    refine l_nil ?_
    refine t_ift rfl ?_
    refine t_seq ?_
    refine t_region ?_
    refine l_p rfl rfl (p_assign rfl) ?_
    refine l_nil ?_
    exact t_ret1 rfl rfl fun w hI => ⟨σ2, h1.trans h3, rfl, hI⟩
  have hle := h1.trans h3
  refine l_p rfl rfl (p_nott rfl) ?_
  refine l_p rfl rfl (p_pickf rfl rfl) ?_
  refine l_nil ?_
  refine t_iff rfl ?_
  refine t_skip ?_
  refine t_seq ?_
  refine t_region ?_
  refine l_p rfl rfl (p_move rfl) ?_
  refine l_call0 rfl rfl rfl (exget (hS.up hle) (by omega)) ?_
  rintro _ σ3 h4 ⟨l1, A1, c1', rfl, hl1, hl1e, ht1⟩
  have hspec := @getAll_spec b
  have herr := getAll_err b
  generalize getAll b = q at *
  obtain ⟨gl, ge⟩ := q
  dsimp only at hl1e herr ⊢
  refine l_p rfl rfl (p_move rfl) ?_
  refine l_p rfl rfl (p_ext rfl rfl) ?_
  refine l_p rfl rfl (p_ext rfl rfl) ?_
  refine l_p rfl rfl (p_assign rfl) ?_
  refine l_p rfl rfl (p_assign rfl) ?_
  refine l_nil ?_
  refine t_seq ?_
  refine t_cut (ι := Stb) { E := fun _ => [(0, .slice A b.length c0), (1, .slice B l.length c1), (2, i64 i), (3, u8 x)], S := fun s => s, M := fun _ => F, Φ := fun s => σ.le s } ?_ ?_
  · refine t_seq ?_
    refine t_region ?_
    refine l_p rfl rfl (p_move rfl) ?_
    refine l_p rfl rfl (p_eq rfl rfl) ?_
    refine l_nil ?_
    refine t_ifd rfl (fun h5 => ?_) (fun h5 => ?_)
    · have hge0 : ge = 0 := by omega
      subst hge0
      obtain ⟨hra, hbe⟩ := hspec rfl
      refine t_seq ?_
      refine t_region ?_
      refine l_p rfl rfl (p_move rfl) ?_
      refine l_call0 rfl rfl rfl (exput l1 (hG.up (hle.trans h4)) hl1 ht1) ?_
      rintro _ σ4 h6 ⟨A6, c6, ⟨hr, rfl, hS6⟩ | ⟨hr, rfl⟩⟩
      · rw [hl1e, ← hbe] at hS6 ⊢
        refine l_p rfl rfl (p_move rfl) ?_
        refine l_p rfl rfl (p_ext rfl rfl) ?_
        refine l_p rfl rfl (p_ext rfl rfl) ?_
        refine l_p rfl rfl (p_assign rfl) ?_
        refine l_p rfl rfl (p_assign rfl) ?_
        refine l_nil ?_
        refine t_seq ?_
        refine t_region ?_
        refine l_p rfl rfl (p_move rfl) ?_
        refine l_p rfl rfl (p_ne rfl rfl) ?_
        refine l_p rfl rfl (p_move rfl) ?_
        refine l_p rfl rfl (p_move rfl) ?_
        refine l_p rfl rfl (p_move rfl) ?_
        refine l_split 45 rfl (fun h => by omega) (fun _ => ?_)
        refine l_callv rfl rfl rfl (rbytes hS6 (hS.up ((hle.trans h4).trans h6))) ?_
        rw [decide_eq_true (rfl : b = b)]
        refine l_p rfl rfl (p_nott rfl) ?_
        refine l_p rfl rfl (p_pickf rfl rfl) ?_
        refine l_nil ?_
        refine t_iff rfl ?_
        refine t_skip ?_
        exact t_back σ4 ⟨rfl, rfl, rfl, rfl, trivial⟩ ((hle.trans h4).trans h6) (fun w hI => hI)
      · rw [hl1e, hra] at hr; cases hr
    · rcases herr with he | ⟨hgl, he⟩
      · omega
      · subst hgl
        have hl0 : l1 = [] := List.map_eq_nil_iff.1 hl1e
        subst hl0
        rcases he with rfl | rfl
        · refine t_seq ?_
          refine t_region ?_
          refine l_p rfl rfl (p_move rfl) ?_
          refine l_p rfl rfl (p_lensl (by exact rfl)) ?_
          refine l_p rfl rfl (p_ne rfl rfl) ?_
          refine l_p rfl rfl (p_move rfl) ?_
          refine l_p rfl rfl (p_move rfl) ?_
          refine l_p rfl rfl (p_ne rfl rfl) ?_
          refine l_p rfl rfl (p_move rfl) ?_
          refine l_skip rfl rfl ?_
          refine l_skip rfl rfl ?_
          refine l_p rfl rfl (p_pickf rfl rfl) ?_
          refine l_p rfl rfl (p_pickf rfl rfl) ?_
          refine l_nil ?_
          refine t_iff rfl ?_
          refine t_skip ?_
          exact t_back σ3 ⟨rfl, rfl, rfl, rfl, trivial⟩ (hle.trans h4) (fun w hI => hI)
        · refine t_seq ?_
          refine t_region ?_
          refine l_p rfl rfl (p_move rfl) ?_
          refine l_p rfl rfl (p_lensl (by exact rfl)) ?_
          refine l_p rfl rfl (p_ne rfl rfl) ?_
          refine l_p rfl rfl (p_move rfl) ?_
          refine l_p rfl rfl (p_move rfl) ?_
          refine l_p rfl rfl (p_ne rfl rfl) ?_
          refine l_p rfl rfl (p_move rfl) ?_
          refine l_p rfl rfl (p_move rfl) ?_
          refine l_p rfl rfl (p_ne rfl rfl) ?_
          refine l_p rfl rfl (p_pickt rfl rfl) ?_
          refine l_p rfl rfl (p_pickf rfl rfl) ?_
          refine l_nil ?_
          refine t_iff rfl ?_
          refine t_skip ?_
          exact t_back σ3 ⟨rfl, rfl, rfl, rfl, trivial⟩ (hle.trans h4) (fun w hI => hI)
  intro s hs
  dsimp only at hs ⊢
  refine t_seq ?_
  refine t_region ?_
  refine l_p rfl rfl (p_move rfl) ?_
  refine l_call0 rfl rfl rfl (rseal (hS.up hs) (by omega)) ?_
  intro v σ6 h6 hS6
  obtain ⟨A6, c6, rfl, _⟩ := hS6.shape
  refine l_p rfl rfl (p_assign rfl) ?_
  refine l_nil ?_
  refine t_seq ?_
  refine t_region ?_
  refine l_p rfl rfl (p_move rfl) ?_
  refine l_call0 rfl rfl rfl (exget hS6 (by rw [seal_len]; omega)) ?_
  rintro _ σ7 h7 ⟨l2, A7, c7, rfl, _, _, _⟩
  have hg3 := getAll_seal b
  generalize (getAll (sealB b)).2 = g2 at *
  refine l_p rfl rfl (p_move rfl) ?_
  refine l_p rfl rfl (p_ext rfl rfl) ?_
  refine l_p rfl rfl (p_ext rfl rfl) ?_
  refine l_p rfl rfl (p_assign rfl) ?_
  refine l_p rfl rfl (p_assign rfl) ?_
  refine l_nil ?_
  refine t_seq ?_
  refine t_cut (ι := Stb) { E := fun _ => [(0, .slice A b.length c0), (1, .slice B l.length c1), (2, i64 i), (3, u8 x)], S := fun s => s, M := fun _ => F, Φ := fun s => σ.le s } ?_ ?_
  · rcases hg3 with rfl | rfl
    · refine t_seq ?_
      refine t_region ?_
      refine l_p rfl rfl (p_move rfl) ?_
      refine l_p rfl rfl (p_ne rfl rfl) ?_
      refine l_p rfl rfl (p_move rfl) ?_
      refine l_skip rfl rfl ?_
      refine l_skip rfl rfl ?_
      refine l_p rfl rfl (p_pickf rfl rfl) ?_
      refine l_nil ?_
      refine t_iff rfl ?_
      refine t_skip ?_
      exact t_back σ7 ⟨rfl, rfl, rfl, rfl, trivial⟩ ((hs.trans h6).trans h7) (fun w hI => hI)
    · refine t_seq ?_
      refine t_region ?_
      refine l_p rfl rfl (p_move rfl) ?_
      refine l_p rfl rfl (p_ne rfl rfl) ?_
      refine l_p rfl rfl (p_move rfl) ?_
      refine l_p rfl rfl (p_move rfl) ?_
      refine l_p rfl rfl (p_ne rfl rfl) ?_
      refine l_p rfl rfl (p_pickt rfl rfl) ?_
      refine l_nil ?_
      refine t_iff rfl ?_
      refine t_skip ?_
      exact t_back σ7 ⟨rfl, rfl, rfl, rfl, trivial⟩ ((hs.trans h6).trans h7) (fun w hI => hI)
  clear hS6 h6 h7 hg3
  intro s2 hs2
  dsimp only at hs2 ⊢
  refine t_seq ?_
  refine t_region ?_
  refine l_p rfl rfl (p_move rfl) ?_
  refine l_call0 rfl rfl rfl (exput l (hG.up hs2) (hH.up hs2) (fun h hh => by have := ht h hh; omega)) ?_
  rintro _ σ8 h8 ⟨A8, c8, ⟨hr, rfl, hS8⟩ | ⟨hr, rfl⟩⟩
  rotate_left
  · refine l_p rfl rfl (p_move rfl) ?_
    refine l_p rfl rfl (p_ext rfl rfl) ?_
    refine l_p rfl rfl (p_ext rfl rfl) ?_
    refine l_p rfl rfl (p_assign rfl) ?_
    refine l_p rfl rfl (p_assign rfl) ?_
    refine l_nil ?_
    refine t_seq ?_
    refine t_seq ?_
    refine t_region ?_
    refine l_p rfl rfl (p_move rfl) ?_
    refine l_p rfl rfl (p_ne rfl rfl) ?_
    refine l_p rfl rfl (p_move rfl) ?_
    refine l_skip rfl rfl ?_
    refine l_skip rfl rfl ?_
    refine l_p rfl rfl (p_pickt rfl rfl) ?_
    refine l_p rfl rfl (p_move rfl) ?_
    refine l_skip rfl rfl ?_
    refine l_skip rfl rfl ?_
    refine l_skip rfl rfl ?_
    refine l_skip rfl rfl ?_
    refine l_p rfl rfl (p_pickt rfl rfl) ?_
    refine l_p rfl rfl (p_move rfl) ?_
    refine l_skip rfl rfl ?_
    refine l_skip rfl rfl ?_
    refine l_skip rfl rfl ?_
    refine l_skip rfl rfl ?_
    refine l_skip rfl rfl ?_
    refine l_skip rfl rfl ?_
    refine l_p rfl rfl (p_pickt rfl rfl) ?_
    refine l_nil ?_
    refine t_ift rfl ?_
    refine t_seq ?_
    refine t_region ?_
    refine l_p rfl rfl (p_assign rfl) ?_
    refine l_nil ?_
    exact t_ret1 rfl rfl fun w hI => ⟨σ8, hs2.trans h8, rfl, hI⟩
  have hlen8 : (sealB (allBytes (l.map mH))).length ≤ 5000004 := by rw [seal_len]; have := allBytes_len hr; omega
  generalize hbl8 : allBytes (l.map mH) = ab at *
  refine l_p rfl rfl (p_move rfl) ?_
  refine l_p rfl rfl (p_ext rfl rfl) ?_
  refine l_p rfl rfl (p_ext rfl rfl) ?_
  refine l_p rfl rfl (p_assign rfl) ?_
  refine l_p rfl rfl (p_assign rfl) ?_
  refine l_nil ?_
  refine t_seq ?_
  refine t_seq ?_
  refine t_region ?_
  refine l_p rfl rfl (p_move rfl) ?_
  refine l_p rfl rfl (p_ne rfl rfl) ?_
  refine l_p rfl rfl (p_move rfl) ?_
  refine l_p rfl rfl (p_move rfl) ?_
  refine l_p rfl rfl (p_lt rfl rfl) ?_
  refine l_p rfl rfl (p_pickf rfl rfl) ?_
  refine l_p rfl rfl (p_move rfl) ?_
  refine l_split 86 rfl (fun h9 => ?_) (fun h9 => ?_)
  · refine l_skip rfl rfl ?_
    refine l_skip rfl rfl ?_
    refine l_skip rfl rfl ?_
    refine l_skip rfl rfl ?_
    refine l_p rfl rfl (p_pickt rfl rfl) ?_
    refine l_p rfl rfl (p_move rfl) ?_
    refine l_skip rfl rfl ?_
    refine l_skip rfl rfl ?_
    refine l_skip rfl rfl ?_
    refine l_skip rfl rfl ?_
    refine l_skip rfl rfl ?_
    refine l_skip rfl rfl ?_
    refine l_p rfl rfl (p_pickt rfl rfl) ?_
    refine l_nil ?_
    refine t_ift rfl ?_
    refine t_seq ?_
    refine t_region ?_
    refine l_p rfl rfl (p_assign rfl) ?_
    refine l_nil ?_
    exact t_ret1 rfl rfl fun w hI => ⟨σ8, hs2.trans h8, rfl, hI⟩
  obtain ⟨n, rfl⟩ := Int.eq_ofNat_of_zero_le (show 0 ≤ i by omega)
  refine l_p rfl rfl (p_move rfl) ?_
  refine l_p rfl rfl (p_move rfl) ?_
  refine l_p rfl rfl (p_lensl (by exact rfl)) ?_
  refine l_p rfl rfl (p_ge rfl rfl) ?_
  refine l_p rfl rfl (p_pickf rfl rfl) ?_
  refine l_p rfl rfl (p_move rfl) ?_
  refine l_split 92 rfl (fun h10 => ?_) (fun h10 => ?_)
  · refine l_skip rfl rfl ?_
    refine l_skip rfl rfl ?_
    refine l_skip rfl rfl ?_
    refine l_skip rfl rfl ?_
    refine l_skip rfl rfl ?_
    refine l_skip rfl rfl ?_
    refine l_p rfl rfl (p_pickt rfl rfl) ?_
    refine l_nil ?_
    refine t_ift rfl ?_
    refine t_seq ?_
    refine t_region ?_
    refine l_p rfl rfl (p_assign rfl) ?_
    refine l_nil ?_
    exact t_ret1 rfl rfl fun w hI => ⟨σ8, hs2.trans h8, rfl, hI⟩
  have hn : n < (sealB ab).length := by omega
  refine l_p rfl rfl (p_move rfl) ?_
  refine l_p rfl rfl (p_move rfl) ?_
  refine l_p rfl rfl (p_ix _ (by exact rfl) (by exact rfl) (by exact rfl) (by omega) (Rds.ix (by assumption) (by omega))) ?_
  refine l_p rfl rfl (p_ld1 (by exact rfl) (Rds.of (Rds.ix (by assumption) (by omega)) (by exact rfl))) ?_
  refine l_p rfl rfl (p_move rfl) ?_
  refine l_p rfl rfl (p_eq rfl rfl) ?_
  refine l_p rfl rfl (p_pickf rfl rfl) ?_
  refine l_nil ?_
  refine t_ifd rfl (fun h11 => ?_) (fun h11 => ?_)
  · refine t_seq ?_
    refine t_region ?_
    refine l_p rfl rfl (p_assign rfl) ?_
    refine l_nil ?_
    exact t_ret1 rfl rfl fun w hI => ⟨σ8, hs2.trans h8, rfl, hI⟩
  refine t_skip ?_
  refine t_seq ?_
  refine t_region ?_
  refine l_p rfl rfl (p_move rfl) ?_
  refine l_own0 (α := UInt8) 1 eu8 5 ?_
  refine l_appu (xs := ([] : List UInt8)) (sealB ab) rfl rfl rfl rfl .z (Src.slu hS8) rfl (by simp; omega) fun A9 c9 => ?_
  simp only [List.length_nil, Nat.zero_add, List.nil_append]
  refine l_p rfl rfl (p_assign rfl) ?_
  refine l_nil ?_
  refine t_seq ?_
  refine t_region ?_
  refine l_p rfl rfl (p_move rfl) ?_
  refine l_p rfl rfl (p_move rfl) ?_
  refine l_p rfl rfl (p_move rfl) ?_
  refine l_p rfl rfl (p_ix _ (by exact rfl) (by exact rfl) (by exact rfl) (by omega) (Rds.ixo .z (by omega))) ?_
  refine l_sto (enc := eu8) n 0 x rfl rfl (padd0 _) rfl rfl rfl (by exact rfl) hn (by exact rfl) .z ?_
  refine l_nil ?_
  refine t_seq ?_
  refine t_region ?_
  refine l_p rfl rfl (p_move rfl) ?_
  refine l_fzo .z fun σ9 h12 hS9 => ?_
  have hS10 : Sl σ9 1 eu8 (.slice A9 ((sealB ab).set n x).length c9) ((sealB ab).set n x) := by rw [List.length_set]; exact hS9
  rw [show (sealB ab).length = ((sealB ab).set n x).length by rw [List.length_set]]
  refine l_call0 rfl rfl rfl (exget hS10 (by rw [List.length_set]; omega)) ?_
  rintro _ σ10 h13 ⟨l3, A10, c10, rfl, _, _, _⟩
  have hone := open_one (l := ab) hn (x := x) (fun e => h11 (by rw [e]))
  rw [getAll_bad hone]
  refine l_p rfl rfl (p_move rfl) ?_
  refine l_p rfl rfl (p_ext rfl rfl) ?_
  refine l_p rfl rfl (p_ext rfl rfl) ?_
  refine l_p rfl rfl (p_assign rfl) ?_
  refine l_p rfl rfl (p_assign rfl) ?_
  refine l_nil ?_
  refine t_seq ?_
  refine t_region ?_
  refine l_p rfl rfl (p_move rfl) ?_
  refine l_p rfl rfl (p_eq rfl rfl) ?_
  refine l_p rfl rfl (p_assign rfl) ?_
  refine l_nil ?_
  exact t_ret1 rfl rfl fun w hI => ⟨σ10, ((hs2.trans h8).trans h12).trans h13, rfl, hI⟩
end Go.Proofs.YtbijponhndknlaaDoor
