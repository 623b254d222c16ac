/- What is held, read from bytes: walk. -/
import Derived.Test.YtbijponhndknlaaDoorWput
set_option linter.unusedSimpArgs false
set_option linter.unusedVariables false
set_option maxRecDepth 20000
namespace Go.Proofs.YtbijponhndknlaaDoor
open Go.Sp
attribute [local irreducible] Go.Sp.Pr Go.Sp.Ws Go.Sp.Wl Go.Sp.Wq Go.Sp.Rds Go.Sp.Src
theorem getBind_tag (b : List UInt8) : (getBind b).1.2.2.1.length ≤ b.length := by
  unfold getBind
  split
  · simp
  · simp [rawBind]
theorem rdHeld_tag (r : Rd) : (rdHeld r).1.1.2.2.1.length ≤ r.1.length := by
  have h := rdPart_len r
  have h2 := getBind_tag (rdPart r).1
  have e : (rdHeld r).1.1 = (getBind (rdPart r).1).1 := rfl
  rw [e]; omega
theorem rdAll_stop (n : Nat) (b : List UInt8) (out : List HeldM) : rdAll n (b, false) out = (out, b, false) := by
  cases n with
  | zero => rfl
  | succ n => rw [rdAll, if_neg (by simp)]
structure GetI where
  j : Nat
  l : List HeldA
  Al : Option Addr
  cl : Nat
  b : List UInt8
  ok : Bool
  A : Option Addr
  c : Nat
  s : Stb
def GetR (σ : Stb) (v : Value) (q : List HeldM × Nat) : Prop := ∃ (l : List HeldA) (A : Option Addr) (c : Nat), v = .tuple #[.slice A l.length c, i64 q.2] ∧ OkHs σ (.slice A l.length c) l ∧ l.map mH = q.1 ∧ ∀ h ∈ l, h.1.2.2.1.length ≤ 1000000000
theorem exget {σ : Stb} {A : Option Addr} {c0 : Nat} {b : List UInt8} (hS : Sl σ 1 eu8 (.slice A b.length c0) b) (hl : b.length ≤ 1000000000) :
    Sp0 Tryd.prog 7 [.slice A b.length c0] σ fun v σ' => GetR σ' v (getAll b) := by
  refine sp0 Tryd.func7 rfl (by kernel_rfl) rfl fun F => ?_
  refine t_seq ?_
  refine t_region ?_
  refine l_p rfl rfl (p_assign rfl) ?_
  refine l_p rfl rfl (p_assign rfl) ?_
  refine l_nil ?_
  refine t_seq ?_
  refine t_region ?_
  refine l_p rfl rfl (p_move rfl) ?_
  refine l_call0 rfl rfl rfl (crcopen hS (by omega)) ?_
  rintro v σ1 h1 ⟨sv, rfl, hS1⟩
  obtain ⟨A1, c1, rfl, _⟩ := hS1.shape
  have hge : getAll b = if (openB b).2 ≠ 0 then ([], (openB b).2) else
    if (rdAll (rdNum 1 ((openB b).1, true)).1 (rdNum 1 ((openB b).1, true)).2 []).2.2 = false ∨ (rdAll (rdNum 1 ((openB b).1, true)).1 (rdNum 1 ((openB b).1, true)).2 []).2.1 ≠ [] ∨ rightAll (rdAll (rdNum 1 ((openB b).1, true)).1 (rdNum 1 ((openB b).1, true)).2 []).1 = false then ([], 3) else ((rdAll (rdNum 1 ((openB b).1, true)).1 (rdNum 1 ((openB b).1, true)).2 []).1, 0) := rfl
  have hol : (openB b).1.length ≤ b.length := by
    unfold openB; split
    · simp
    split
    · simp
    · simp
  generalize openB b = q at *
  obtain ⟨ob, oe⟩ := q
  dsimp only at hS1 hge hol ⊢
  refine l_p rfl rfl (p_move rfl) ?_
  refine l_p rfl rfl (p_ext rfl rfl) ?_
  refine l_p rfl rfl (p_ext rfl rfl) ?_
  refine l_p rfl rfl (p_assign rfl) ?_
  refine l_p rfl rfl (p_assign rfl) ?_
  refine l_nil ?_
  refine t_seq ?_
  refine t_seq ?_
  refine t_region ?_
  refine l_p rfl rfl (p_move rfl) ?_
  refine l_p rfl rfl (p_ne rfl rfl) ?_
  refine l_nil ?_
  refine t_ifd rfl (fun h2 => ?_) (fun h2 => ?_)
  · rw [if_pos (by omega)] at hge
    rw [hge]
    refine t_seq ?_
    refine t_region ?_
    refine l_p rfl rfl (p_move rfl) ?_
    refine l_p rfl rfl (p_assign rfl) ?_
    refine l_p rfl rfl (p_assign rfl) ?_
    refine l_nil ?_
    exact t_ret2 rfl rfl rfl fun w hI => ⟨σ1, h1, ⟨[], none, 0, rfl, ⟨Sl.nil .., by simp⟩, rfl, by simp⟩, hI⟩
  rw [if_neg (by omega)] at hge
  refine t_skip ?_
  refine t_seq ?_
  refine t_region ?_
  refine l_p rfl rfl (p_move rfl) ?_
  refine l_p rfl rfl (p_build (by exact rfl) (by exact rfl) (by exact rfl) (by exact rfl)) ?_
  refine l_box rfl rfl rfl rfl ?_; intro _
  refine l_p rfl rfl (p_assign rfl) ?_
  refine l_nil ?_
  refine t_seq ?_
  refine t_region ?_
  refine l_p rfl rfl (p_assign rfl) ?_
  refine l_nil ?_
  refine t_seq ?_
  refine t_region ?_
  refine l_p rfl rfl (p_move rfl) ?_
  refine l_callq1 rfl rfl rfl .z (enumber (ok := true) 1 (by decide) hS1 (by omega)) ?_
  rintro _ _ _ - ⟨rfl, n, b1, ok1, A2, c2, h3, rfl, rfl, hS2⟩
  have l3 := rdNum_len 1 (ob, true)
  rw [h3] at l3 hge
  dsimp only at l3 hge
  have hn := rdNum1_lt h3
  rw [toI_small (by omega)]
  refine l_p rfl rfl (p_assign rfl) ?_
  refine l_nil ?_
  refine t_seq ?_
  refine t_seq ?_
  refine t_region ?_
  refine l_p rfl rfl (p_assign rfl) ?_
  refine l_nil ?_
  refine t_block ?_
  rename_i gr
  refine t_loop (ι := GetI) { E := fun i => [(6, .pointer (some ⟨gr, 0, none⟩)), (8, i64 n), (9, i64 i.j), (7, .slice i.Al i.l.length i.cl)], S := fun i => i.s, M := fun i => own 6 eHd 39 (.slice i.Al i.l.length i.cl) i.l :: Bx gr [.slice i.A i.b.length i.c, .bool i.ok] 49 :: F, Φ := fun i => i.j ≤ n ∧ σ.le i.s ∧ Sl i.s 1 eu8 (.slice i.A i.b.length i.c) i.b ∧ (∀ h ∈ i.l, OkH i.s h ∧ h.1.2.2.1.length ≤ 1000000000) ∧ i.b.length ≤ b.length ∧ i.l.length ≤ i.j ∧ rdAll (n - i.j) (i.b, i.ok) (i.l.map mH) = rdAll n (b1, ok1) [] } (fun i => n - i.j) ⟨0, [], none, 0, b1, ok1, A2, c2, σ1⟩
    (by exact ⟨rfl, rfl, rfl, rfl, trivial⟩) ⟨Nat.zero_le _, h1, hS2, by simp, by dsimp only; omega, by simp, rfl⟩ (fun w hI => hI.own0 ..) ?_
  rintro ⟨j, l, Al, cl', b4, ok4, A4, c4, σ4⟩ ⟨m1, m2, m3, m4, m5, m6, m7⟩
  dsimp only at m1 m2 m3 m4 m5 m6 m7 ⊢
  refine t_seq ?_
  refine t_seq ?_
  refine t_region ?_
  refine l_p rfl rfl (p_move rfl) ?_
  refine l_p rfl rfl (p_move rfl) ?_
  refine l_p rfl rfl (p_lt rfl rfl) ?_
  refine l_p rfl rfl (p_move rfl) ?_
  refine l_split 26 rfl (fun h => ?_) (fun h => ?_)
  · obtain ⟨m, hm⟩ : ∃ m, n - j = m + 1 := ⟨n - j - 1, by omega⟩
    rw [hm] at m7
    cases ok4 with
    | false =>
      rw [rdAll_stop] at m7
      rw [← m7] at hge
      rw [if_pos (.inl rfl)] at hge
      rw [hge]
      refine l_p rfl rfl (p_move rfl) ?_
      refine l_p rfl rfl (p_ncp rfl) ?_
      refine l_p rfl rfl (p_fa (by exact rfl) Rds.bxi) ?_
      refine l_p rfl rfl (p_ld1 (by exact rfl) (Rds.fld Rds.bxi (by exact rfl))) ?_
      refine l_p rfl rfl (p_pickt rfl rfl) ?_
      refine l_nil ?_
      refine t_iff rfl ?_
      refine t_exit rfl ?_
      refine t_seq ?_
      refine t_seq ?_
      refine t_region ?_
      refine l_p rfl rfl (p_move rfl) ?_
      refine l_p rfl rfl (p_ncp rfl) ?_
      refine l_p rfl rfl (p_fa (by exact rfl) Rds.bxi) ?_
      refine l_p rfl rfl (p_ld1 (by exact rfl) (Rds.fld Rds.bxi (by exact rfl))) ?_
      refine l_p rfl rfl (p_notf rfl) ?_
      refine l_p rfl rfl (p_move rfl) ?_
      refine l_skip rfl rfl ?_
      refine l_skip rfl rfl ?_
      refine l_skip rfl rfl ?_
      refine l_skip rfl rfl ?_
      refine l_skip rfl rfl ?_
      refine l_skip rfl rfl ?_
      refine l_p rfl rfl (p_pickt rfl rfl) ?_
      refine l_p rfl rfl (p_move rfl) ?_
      refine l_skip rfl rfl ?_
      refine l_skip rfl rfl ?_
      refine l_skip rfl rfl ?_
      refine l_p rfl rfl (p_pickt rfl rfl) ?_
      refine l_nil ?_
      refine t_ift rfl ?_
      refine t_seq ?_
      refine t_region ?_
      refine l_p rfl rfl (p_assign rfl) ?_
      refine l_p rfl rfl (p_assign rfl) ?_
      refine l_nil ?_
      exact t_ret2 rfl rfl rfl fun w hI => ⟨σ4, m2, ⟨[], none, 0, rfl, ⟨Sl.nil .., by simp⟩, rfl, by simp⟩, hI.tail.tail⟩
    | true =>
      have l6 := rdHeld_len (b4, true)
      have l7 := rdHeld_tag (b4, true)
      have hst : rdAll (m + 1) (b4, true) (l.map mH) = rdAll m (rdHeld (b4, true)).2 (l.map mH ++ [(rdHeld (b4, true)).1]) := by rw [rdAll, if_pos rfl]
      rw [hst] at m7
      refine l_p rfl rfl (p_move rfl) ?_
      refine l_p rfl rfl (p_ncp rfl) ?_
      refine l_p rfl rfl (p_fa (by exact rfl) Rds.bxi) ?_
      refine l_p rfl rfl (p_ld1 (by exact rfl) (Rds.fld Rds.bxi (by exact rfl))) ?_
      refine l_p rfl rfl (p_pickt rfl rfl) ?_
      refine l_nil ?_
      refine t_ift rfl ?_
      refine t_skip ?_
      refine t_seq ?_
      refine t_block ?_
      refine t_region ?_
      refine l_p rfl rfl (p_move rfl) ?_
      refine l_p rfl rfl (p_move rfl) ?_
      refine l_callq1 rfl rfl rfl (.s .z) (eheld m3 (by omega)) ?_
      rintro _ σ5 _ h5 ⟨hd, b5, ok5, A5, c5, h6, rfl, hH, rfl, hS5⟩
      rw [h6] at l6 l7 m7
      dsimp only at l6 l7 m7
      obtain ⟨x, hv, ps⟩ := hd
      obtain ⟨Ah, ch, hhv, _⟩ := hH.1.shape
      dsimp only at hhv
      subst hhv
      refine l_bsl (by exact rfl) (by exact rfl) (by exact rfl) (by exact rfl) (by exact rfl) (by exact rfl) (by exact rfl) ?_; intro _
      refine l_app1 (enc := eHd) (x, (.slice Ah ps.length ch, ps)) rfl rfl rfl rfl (.s (.s .z)) .z (by exact rfl) rfl (by exact rfl) (by exact rfl) (by omega) (by omega) fun A8 c8 => ?_
      refine l_p rfl rfl (p_assign rfl) ?_
      refine l_nil ?_
      refine t_blk ?_
      refine t_region ?_
      refine l_p rfl rfl (p_move rfl) ?_
      refine l_p rfl rfl (p_add rfl rfl (by omega)) ?_
      refine l_p rfl rfl (p_assign rfl) ?_
      refine l_nil ?_
      refine t_round ⟨j + 1, l ++ [(x, (.slice Ah ps.length ch, ps))], A8, c8, b5, ok5, A5, c5, σ5⟩ ⟨rfl, rfl, gi rfl (by dsimp only; omega), gs rfl (by simp), trivial⟩ ⟨by dsimp only; omega, m2.trans h5, hS5, fun p hp => ?_, by dsimp only; omega, by simp; omega, ?_⟩ (by show n - (j + 1) < n - j; omega) (fun w hI => by dsimp only; rw [List.length_append]; exact hI.prs (.cons .z (.drop .refl)))
      · rcases List.mem_append.1 hp with hp | hp
        · exact ⟨(m4 p hp).1.up h5, (m4 p hp).2⟩
        · rw [List.mem_singleton] at hp; subst hp
          exact ⟨hH, by dsimp only at l7 ⊢; simp only [mH] at l7; omega⟩
      · dsimp only; rw [show n - (j + 1) = m by omega, List.map_append]; exact m7
  · have hj : j = n := by omega
    subst hj
    rw [Nat.sub_self] at m7
    have m8 : rdAll j (b1, ok1) [] = (l.map mH, b4, ok4) := m7.symm
    rw [m8] at hge
    dsimp only at hge
    cases ok4 with
    | false =>
      rw [if_pos (.inl rfl)] at hge
      rw [hge]
      refine l_skip rfl rfl ?_
      refine l_skip rfl rfl ?_
      refine l_skip rfl rfl ?_
      refine l_skip rfl rfl ?_
      refine l_p rfl rfl (p_pickf rfl rfl) ?_
      refine l_nil ?_
      refine t_iff rfl ?_
      refine t_exit rfl ?_
      refine t_seq ?_
      refine t_seq ?_
      refine t_region ?_
      refine l_p rfl rfl (p_move rfl) ?_
      refine l_p rfl rfl (p_ncp rfl) ?_
      refine l_p rfl rfl (p_fa (by exact rfl) Rds.bxi) ?_
      refine l_p rfl rfl (p_ld1 (by exact rfl) (Rds.fld Rds.bxi (by exact rfl))) ?_
      refine l_p rfl rfl (p_notf rfl) ?_
      refine l_p rfl rfl (p_move rfl) ?_
      refine l_skip rfl rfl ?_
      refine l_skip rfl rfl ?_
      refine l_skip rfl rfl ?_
      refine l_skip rfl rfl ?_
      refine l_skip rfl rfl ?_
      refine l_skip rfl rfl ?_
      refine l_p rfl rfl (p_pickt rfl rfl) ?_
      refine l_p rfl rfl (p_move rfl) ?_
      refine l_skip rfl rfl ?_
      refine l_skip rfl rfl ?_
      refine l_skip rfl rfl ?_
      refine l_p rfl rfl (p_pickt rfl rfl) ?_
      refine l_nil ?_
      refine t_ift rfl ?_
      refine t_seq ?_
      refine t_region ?_
      refine l_p rfl rfl (p_assign rfl) ?_
      refine l_p rfl rfl (p_assign rfl) ?_
      refine l_nil ?_
      exact t_ret2 rfl rfl rfl fun w hI => ⟨σ4, m2, ⟨[], none, 0, rfl, ⟨Sl.nil .., by simp⟩, rfl, by simp⟩, hI.tail.tail⟩
    | true =>
      refine l_skip rfl rfl ?_
      refine l_skip rfl rfl ?_
      refine l_skip rfl rfl ?_
      refine l_skip rfl rfl ?_
      refine l_p rfl rfl (p_pickf rfl rfl) ?_
      refine l_nil ?_
      refine t_iff rfl ?_
      refine t_exit rfl ?_
      refine t_seq ?_
      refine t_seq ?_
      refine t_region ?_
      refine l_p rfl rfl (p_move rfl) ?_
      refine l_p rfl rfl (p_ncp rfl) ?_
      refine l_p rfl rfl (p_fa (by exact rfl) Rds.bxi) ?_
      refine l_p rfl rfl (p_ld1 (by exact rfl) (Rds.fld Rds.bxi (by exact rfl))) ?_
      refine l_p rfl rfl (p_nott rfl) ?_
      refine l_p rfl rfl (p_move rfl) ?_
      refine l_p rfl rfl (p_move rfl) ?_
      refine l_p rfl rfl (p_ncp rfl) ?_
      refine l_p rfl rfl (p_fa (by exact rfl) Rds.bxi) ?_
      refine l_p rfl rfl (p_ld1 (by exact rfl) Rds.bxi) ?_
      refine l_p rfl rfl (p_lensl (by exact rfl)) ?_
      refine l_p rfl rfl (p_gt rfl rfl) ?_
      refine l_p rfl rfl (p_pickf rfl rfl) ?_
      refine l_p rfl rfl (p_move rfl) ?_
      refine l_split 52 rfl (fun h7 => ?_) (fun h7 => ?_)
      · have hne : b4 ≠ [] := fun e => by subst e; simp at h7
        rw [if_pos (.inr (.inl hne))] at hge
        rw [hge]
        refine l_skip rfl rfl ?_
        refine l_skip rfl rfl ?_
        refine l_skip rfl rfl ?_
        refine l_p rfl rfl (p_pickt rfl rfl) ?_
        refine l_nil ?_
        refine t_ift rfl ?_
        refine t_seq ?_
        refine t_region ?_
        refine l_p rfl rfl (p_assign rfl) ?_
        refine l_p rfl rfl (p_assign rfl) ?_
        refine l_nil ?_
        exact t_ret2 rfl rfl rfl fun w hI => ⟨σ4, m2, ⟨[], none, 0, rfl, ⟨Sl.nil .., by simp⟩, rfl, by simp⟩, hI.tail.tail⟩
      · have he : b4 = [] := List.length_eq_zero_iff.1 (by omega)
        refine l_p rfl rfl (p_move rfl) ?_
        refine l_fzo .z fun σ5 h8 hS8 => ?_
        have hOk : OkHs σ5 (.slice Al l.length cl') l := ⟨hS8, fun p hp => (m4 p hp).1.up h8⟩
        refine l_call0 rfl rfl rfl (exright l hOk fun p hp => (m4 p hp).2) ?_
        rintro _ σ6 h9 rfl
        refine l_p rfl rfl (p_not rfl) ?_
        refine l_p rfl rfl (p_pickf rfl rfl) ?_
        refine l_nil ?_
        cases hr : rightAll (l.map mH) with
        | false =>
          rw [if_pos (.inr (.inr hr))] at hge
          rw [hge]
          refine t_ift rfl ?_
          refine t_seq ?_
          refine t_region ?_
          refine l_p rfl rfl (p_assign rfl) ?_
          refine l_p rfl rfl (p_assign rfl) ?_
          refine l_nil ?_
          exact t_ret2 rfl rfl rfl fun w hI => ⟨σ6, (m2.trans h8).trans h9, ⟨[], none, 0, rfl, ⟨Sl.nil .., by simp⟩, rfl, by simp⟩, hI.tail⟩
        | true =>
          rw [if_neg (by simp [he, hr])] at hge
          rw [hge]
          refine t_iff rfl ?_
          refine t_skip ?_
          refine t_seq ?_
          refine t_region ?_
          refine l_p rfl rfl (p_move rfl) ?_
          refine l_p rfl rfl (p_assign rfl) ?_
          refine l_p rfl rfl (p_assign rfl) ?_
          refine l_nil ?_
          exact t_ret2 rfl rfl rfl fun w hI => ⟨σ6, (m2.trans h8).trans h9, ⟨l, Al, cl', rfl, hOk.up h9, rfl, fun p hp => (m4 p hp).2⟩, hI.tail⟩
end Go.Proofs.YtbijponhndknlaaDoor
