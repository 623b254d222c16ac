/- The reader of what is held: walks. -/
import Derived.Test.YtbijponhndknlaaDoorWcodec
import Derived.Test.YtbijponhndknlaaDoorX12
set_option linter.unusedSimpArgs false
set_option linter.unusedVariables false
set_option maxRecDepth 20000
namespace Go.Proofs.YtbijponhndknlaaDoor
open Go.Sp
attribute [local irreducible] Go.Sp.Pr Go.Sp.Ws Go.Sp.Wl Go.Sp.Wq Go.Sp.Rds Go.Sp.Src
theorem enumber {σ : Stb} {A : Option Addr} {c0 gb : Nat} {b : List UInt8} {ok : Bool} (k : Nat) (hk : 1 ≤ k ∧ k ≤ 8) (hS : Sl σ 1 eu8 (.slice A b.length c0) b) (hl : b.length ≤ 1000000000000) :
    Sq1 Tryd.prog 19 [.pointer (some ⟨gb, 0, none⟩), i64 k] σ (Bx gb [.slice A b.length c0, .bool ok] 49) fun v σ' r =>
      σ = σ' ∧ ∃ n b' ok' A' c', rdNum k (b, ok) = (n, b', ok') ∧ v = i64 (toI n) ∧ r = Bx gb [.slice A' b'.length c', .bool ok'] 49 ∧ Sl σ 1 eu8 (.slice A' b'.length c') b' := by
  obtain ⟨_, _, e, hcap⟩ := hS.shape
  cases e
  refine sq1 Tryd.func19 rfl (by kernel_rfl) rfl fun F => ?_
  refine t_seq ?_
  refine t_region ?_
  refine l_p rfl rfl (p_assign rfl) ?_
  refine l_nil ?_
  refine t_seq ?_
  refine t_region ?_
  refine l_p rfl rfl (p_move rfl) ?_
  refine l_p rfl rfl (p_ncp rfl) ?_
  refine l_p rfl rfl (p_fa (by exact rfl) Rds.bxi) ?_
  refine l_p rfl rfl (p_ld1 (by exact rfl) Rds.bxi) ?_
  refine l_p rfl rfl (p_move rfl) ?_
  refine l_callv rfl rfl rfl (nget 0 k hk.2 (by omega) hS (by omega)) ?_
  by_cases hc : k ≤ b.length
  · have e : getV b 0 k = .tuple #[.int .u64 (vbe (b.take k)), .bool true] := by rw [getV, if_pos (by omega), Nat.zero_add]; rfl
    have e2 : rdNum k (b, ok) = (vbe (b.take k), b.drop k, ok) := by rw [rdNum, if_pos (by exact hc)]
    have hlt := vbe_lt (b.take k)
    rw [List.length_take, Nat.min_eq_left hc] at hlt
    have hp : (256 : Nat) ^ k ≤ 256 ^ 8 := Nat.pow_le_pow_right (by decide) hk.2
    have hp8 : (256 : Nat) ^ 8 = 18446744073709551616 := by decide
    rw [e]
    have hS2 := hS.sub (i := k) (j := b.length) hc (Nat.le_refl _)
    rw [List.take_length] at hS2
    obtain ⟨A3, c3, e3, _⟩ := hS2.shape
    refine l_p rfl rfl (p_move rfl) ?_
    refine l_p rfl rfl (p_ext rfl rfl) ?_
    refine l_p rfl rfl (p_ext rfl rfl) ?_
    refine l_p rfl rfl (p_assign rfl) ?_
    refine l_p rfl rfl (p_assign rfl) ?_
    refine l_nil ?_
    refine t_seq ?_
    refine t_seq ?_
    refine t_region ?_
    refine l_p rfl rfl (p_move rfl) ?_
    refine l_p rfl rfl (p_nott rfl) ?_
    refine l_nil ?_
    refine t_iff rfl ?_
    refine t_skip ?_
    refine t_seq ?_
    refine t_region ?_
    refine l_p rfl rfl (p_move rfl) ?_
    refine l_p rfl rfl (p_move rfl) ?_
    refine l_p rfl rfl (p_ncp rfl) ?_
    refine l_p rfl rfl (p_fa (by exact rfl) Rds.bxi) ?_
    refine l_p rfl rfl (p_ld1 (by exact rfl) Rds.bxi) ?_
    refine l_p rfl rfl (p_move rfl) ?_
    refine l_p rfl rfl (p_cutl _ (by exact rfl) (by exact rfl) (by exact rfl) (by omega)) ?_
    refine l_p rfl rfl (p_ncp rfl) ?_
    refine l_p rfl rfl (p_fa (by exact rfl) Rds.bxi) ?_
    refine l_sti rfl rfl rfl rfl rfl (by exact rfl) (by exact rfl) (by exact rfl) (by exact ⟨rfl, rfl⟩) ?_
    refine l_nil ?_
    refine t_seq ?_
    refine t_region ?_
    refine l_p rfl rfl (p_move rfl) ?_
    refine l_p rfl rfl (p_convui (by exact rfl) (by omega)) ?_
    rw [toI_if]
    refine l_p rfl rfl (p_assign rfl) ?_
    refine l_nil ?_
    rw [e3] at hS2 ⊢
    exact t_ret1 rfl rfl fun w hI => ⟨σ, _, .refl σ, ⟨rfl, _, _, _, A3, c3, e2, rfl, rfl, hS2⟩, hI⟩
  · have e : getV b 0 k = .tuple #[.int .u64 0, .bool false] := by rw [getV, if_neg (by omega)]
    have e2 : rdNum k (b, ok) = (0, b, false) := by rw [rdNum, if_neg (by exact hc)]
    rw [e]
    refine l_p rfl rfl (p_move rfl) ?_
    refine l_p rfl rfl (p_ext rfl rfl) ?_
    refine l_p rfl rfl (p_ext rfl rfl) ?_
    refine l_p rfl rfl (p_assign rfl) ?_
    refine l_p rfl rfl (p_assign rfl) ?_
    refine l_nil ?_
    refine t_seq ?_
    refine t_seq ?_
    refine t_region ?_
    refine l_p rfl rfl (p_move rfl) ?_
    refine l_p rfl rfl (p_notf rfl) ?_
    refine l_nil ?_
    refine t_ift rfl ?_
    refine t_seq ?_
    refine t_region ?_
    refine l_p rfl rfl (p_move rfl) ?_
    refine l_p rfl rfl (p_ncp rfl) ?_
    refine l_p rfl rfl (p_fa (by exact rfl) Rds.bxi) ?_
    refine l_sti rfl rfl rfl rfl rfl (by exact rfl) (by exact rfl) (by exact rfl) (by exact ⟨rfl, rfl⟩) ?_
    refine l_nil ?_
    refine t_seq ?_
    refine t_region ?_
    refine l_p rfl rfl (p_assign rfl) ?_
    refine l_nil ?_
    exact t_ret1 rfl rfl fun w hI => ⟨σ, _, .refl σ, ⟨rfl, _, _, _, A, c0, e2, rfl, rfl, hS⟩, hI⟩
theorem epart {σ : Stb} {A : Option Addr} {c0 gb : Nat} {b : List UInt8} {ok : Bool} (hS : Sl σ 1 eu8 (.slice A b.length c0) b) (hl : b.length ≤ 1000000000000) :
    Sq1 Tryd.prog 34 [.pointer (some ⟨gb, 0, none⟩)] σ (Bx gb [.slice A b.length c0, .bool ok] 49) fun v σ' r =>
      σ = σ' ∧ ∃ p b' ok' A' c' A2 c2, rdPart (b, ok) = (p, b', ok') ∧ v = .slice A2 p.length c2 ∧ Sl σ 1 eu8 (.slice A2 p.length c2) p ∧ r = Bx gb [.slice A' b'.length c', .bool ok'] 49 ∧ Sl σ 1 eu8 (.slice A' b'.length c') b' := by
  refine sq1 Tryd.func34 rfl (by kernel_rfl) rfl fun F => ?_
  refine t_seq ?_
  refine t_region ?_
  refine l_p rfl rfl (p_assign rfl) ?_
  refine l_nil ?_
  refine t_seq ?_
  refine t_region ?_
  refine l_p rfl rfl (p_move rfl) ?_
  refine l_callq1 rfl rfl rfl .z (enumber (ok := ok) 2 (by decide) hS hl) ?_
  rintro _ _ _ - ⟨rfl, n, b1, ok1, A1, c1, h1, rfl, rfl, hS1⟩
  have l1 := rdNum_len 2 (b, ok)
  rw [h1] at l1
  dsimp only at l1
  have hn := rdNum2_lt h1
  rw [toI_small (by omega)]
  obtain ⟨_, _, e0, hcap⟩ := hS1.shape
  cases e0
  refine l_p rfl rfl (p_assign rfl) ?_
  refine l_nil ?_
  refine t_seq ?_
  refine t_seq ?_
  refine t_region ?_
  refine l_p rfl rfl (p_move rfl) ?_
  refine l_p rfl rfl (p_move rfl) ?_
  refine l_p rfl rfl (p_ncp rfl) ?_
  refine l_p rfl rfl (p_fa (by exact rfl) Rds.bxi) ?_
  refine l_p rfl rfl (p_ld1 (by exact rfl) Rds.bxi) ?_
  refine l_p rfl rfl (p_lensl (by exact rfl)) ?_
  refine l_p rfl rfl (p_gt rfl rfl) ?_
  refine l_nil ?_
  refine t_ifd rfl (fun h => ?_) (fun h => ?_)
  · have e : rdPart (b, ok) = ([], b1, false) := by rw [rdPart, h1]; dsimp only; rw [if_pos (by omega)]
    refine t_seq ?_
    refine t_region ?_
    refine l_p rfl rfl (p_move rfl) ?_
    refine l_p rfl rfl (p_ncp rfl) ?_
    refine l_p rfl rfl (p_fa (by exact rfl) Rds.bxi) ?_
    refine l_sti rfl rfl rfl rfl rfl (by exact rfl) (by exact rfl) (by exact rfl) (by exact ⟨rfl, rfl⟩) ?_
    refine l_nil ?_
    refine t_seq ?_
    refine t_region ?_
    refine l_p rfl rfl (p_assign rfl) ?_
    refine l_nil ?_
    exact t_ret1 rfl rfl fun w hI => ⟨σ, _, .refl σ, ⟨rfl, _, _, _, A1, c1, none, 0, e, rfl, Sl.nil .., rfl, hS1⟩, hI⟩
  · have e : rdPart (b, ok) = (b1.take n, b1.drop n, ok1) := by rw [rdPart, h1]; dsimp only; rw [if_neg (by omega)]
    have hT := hS1.sub (i := 0) (j := n) (by omega) (by omega)
    rw [List.drop_zero] at hT
    have hD := hS1.sub (i := n) (j := b1.length) (by omega) (by omega)
    rw [List.take_length] at hD
    obtain ⟨A3, c3, e3, _⟩ := hT.shape
    obtain ⟨A4, c4, e4, _⟩ := hD.shape
    refine t_skip ?_
    refine t_seq ?_
    refine t_region ?_
    refine l_p rfl rfl (p_move rfl) ?_
    refine l_p rfl rfl (p_ncp rfl) ?_
    refine l_p rfl rfl (p_fa (by exact rfl) Rds.bxi) ?_
    refine l_p rfl rfl (p_ld1 (by exact rfl) Rds.bxi) ?_
    refine l_p rfl rfl (p_move rfl) ?_
    refine l_p rfl rfl (p_cuth _ (by exact rfl) (by exact rfl) (by exact rfl) (by omega)) ?_
    refine l_p rfl rfl (p_assign rfl) ?_
    refine l_nil ?_
    refine t_seq ?_
    refine t_region ?_
    refine l_p rfl rfl (p_move rfl) ?_
    refine l_p rfl rfl (p_move rfl) ?_
    refine l_p rfl rfl (p_ncp rfl) ?_
    refine l_p rfl rfl (p_fa (by exact rfl) Rds.bxi) ?_
    refine l_p rfl rfl (p_ld1 (by exact rfl) Rds.bxi) ?_
    refine l_p rfl rfl (p_move rfl) ?_
    refine l_p rfl rfl (p_cutl _ (by exact rfl) (by exact rfl) (by exact rfl) (by omega)) ?_
    refine l_p rfl rfl (p_ncp rfl) ?_
    refine l_p rfl rfl (p_fa (by exact rfl) Rds.bxi) ?_
    refine l_sti rfl rfl rfl rfl rfl (by exact rfl) (by exact rfl) (by exact rfl) (by exact ⟨rfl, rfl⟩) ?_
    refine l_nil ?_
    refine t_seq ?_
    refine t_region ?_
    refine l_p rfl rfl (p_move rfl) ?_
    refine l_p rfl rfl (p_assign rfl) ?_
    refine l_nil ?_
    rw [e3] at hT ⊢
    rw [e4] at hD ⊢
    exact t_ret1 rfl rfl fun w hI => ⟨σ, _, .refl σ, ⟨rfl, _, _, _, A4, c4, A3, c3, e, rfl, hT, rfl, hD⟩, hI⟩
structure HdI where
  j : Nat
  ps : List PieceA
  Ap : Option Addr
  cp : Nat
  b : List UInt8
  ok : Bool
  A : Option Addr
  c : Nat
  s : Stb
theorem rdPieces_stop (n : Nat) (b : List UInt8) (out : List PieceM) : rdPieces n (b, false) out = (out, b, false) := by
  cases n with
  | zero => rfl
  | succ n => rw [rdPieces, if_neg (by simp)]
theorem eheld {σ : Stb} {A : Option Addr} {c0 gb : Nat} {b : List UInt8} {ok : Bool} (hS : Sl σ 1 eu8 (.slice A b.length c0) b) (hl : b.length ≤ 1000000000) :
    Sq1 Tryd.prog 20 [.pointer (some ⟨gb, 0, none⟩)] σ (Bx gb [.slice A b.length c0, .bool ok] 49) fun v σ' r =>
      ∃ (h : HeldA) (b' : List UInt8) (ok' : Bool) (A' : Option Addr) (c' : Nat), rdHeld (b, ok) = (mH h, b', ok') ∧ v = .agg (eHd h).toArray ∧ OkH σ' h ∧ r = Bx gb [.slice A' b'.length c', .bool ok'] 49 ∧ Sl σ' 1 eu8 (.slice A' b'.length c') b' := by
  refine sq1 Tryd.func20 rfl (by kernel_rfl) rfl fun F => ?_
  refine t_seq ?_
  refine t_region ?_
  refine l_alloc (by exact rfl) (by exact rfl) (by exact rfl) ?_; intro _
  refine l_nil ?_
  refine t_seq ?_
  refine t_region ?_
  refine l_alloc (by exact rfl) (by exact rfl) (by exact rfl) ?_; intro _
  refine l_nil ?_
  refine t_seq ?_
  refine t_region ?_
  refine l_p rfl rfl (p_move rfl) ?_
  rename_i g2 g3
  refine l_callq1 rfl rfl rfl (.s (.s .z)) (epart (ok := ok) hS (by omega)) ?_
  rintro _ _ _ - ⟨rfl, pb, b1, ok1, A1, c1, A2, c2, h1, rfl, hP, rfl, hS1⟩
  have l1 := rdPart_len (b, ok)
  rw [h1] at l1
  dsimp only at l1
  skip
  refine l_callv rfl rfl rfl (cgetbind hP (by omega)) ?_
  generalize hgb : getBind pb = q at *
  obtain ⟨x, e⟩ := q
  dsimp only
  obtain ⟨ok2, hok2⟩ : ∃ ok2, (ok1 && decide ((e : Int) = 0)) = ok2 := ⟨_, rfl⟩
  have hok3 : (ok1 && decide (e = 0)) = ok2 := by rw [← hok2]; congr 1; exact decide_eq_decide.2 (by omega)
  cases ok1 <;> (first | (refine l_p rfl rfl (p_move rfl) ?_; refine l_p rfl rfl (p_ext rfl rfl) ?_; refine l_p rfl rfl (p_ext rfl rfl) ?_; refine l_alloc (by exact rfl) (by exact rfl) (by exact rfl) ?_; intro _; refine l_sti rfl rfl rfl rfl rfl (by exact rfl) (by exact rfl) (by exact rfl) (by exact ⟨rfl, rfl⟩) ?_; refine l_p rfl rfl (p_assign rfl) ?_; refine l_nil ?_; refine t_seq ?_; refine t_region ?_; refine l_p rfl rfl (p_ldn (by exact rfl) Rds.bxi (by exact rfl) (by exact rfl)) ?_; refine l_p rfl rfl (p_fa (by exact rfl) Rds.bxi) ?_; refine l_sti rfl rfl rfl rfl rfl (by exact rfl) (by exact rfl) (by exact rfl) (by exact ⟨rfl, rfl⟩) ?_; refine l_nil ?_; refine t_seq ?_; refine t_region ?_; refine l_p rfl rfl (p_move rfl) ?_; refine l_p rfl rfl (p_move rfl) ?_; refine l_p rfl rfl (p_ncp rfl) ?_; refine l_p rfl rfl (p_fa (by exact rfl) Rds.bxi) ?_; refine l_p rfl rfl (p_ld1 (by exact rfl) (Rds.fld Rds.bxi (by exact rfl))) ?_; refine l_p rfl rfl (p_move rfl) ?_; refine l_skip rfl rfl ?_; refine l_skip rfl rfl ?_; refine l_p rfl rfl (p_pickf rfl rfl) ?_; refine l_p rfl rfl (p_ncp rfl) ?_; refine l_p rfl rfl (p_fa (by exact rfl) Rds.bxi) ?_; refine l_sti rfl rfl rfl rfl rfl (by exact rfl) (by exact rfl) (by exact rfl) (by exact ⟨rfl, rfl⟩) ?_; refine l_nil ?_; refine t_seq ?_; refine t_region ?_; refine l_p rfl rfl (p_move rfl) ?_) | (refine l_p rfl rfl (p_move rfl) ?_; refine l_p rfl rfl (p_ext rfl rfl) ?_; refine l_p rfl rfl (p_ext rfl rfl) ?_; refine l_alloc (by exact rfl) (by exact rfl) (by exact rfl) ?_; intro _; refine l_sti rfl rfl rfl rfl rfl (by exact rfl) (by exact rfl) (by exact rfl) (by exact ⟨rfl, rfl⟩) ?_; refine l_p rfl rfl (p_assign rfl) ?_; refine l_nil ?_; refine t_seq ?_; refine t_region ?_; refine l_p rfl rfl (p_ldn (by exact rfl) Rds.bxi (by exact rfl) (by exact rfl)) ?_; refine l_p rfl rfl (p_fa (by exact rfl) Rds.bxi) ?_; refine l_sti rfl rfl rfl rfl rfl (by exact rfl) (by exact rfl) (by exact rfl) (by exact ⟨rfl, rfl⟩) ?_; refine l_nil ?_; refine t_seq ?_; refine t_region ?_; refine l_p rfl rfl (p_move rfl) ?_; refine l_p rfl rfl (p_move rfl) ?_; refine l_p rfl rfl (p_ncp rfl) ?_; refine l_p rfl rfl (p_fa (by exact rfl) Rds.bxi) ?_; refine l_p rfl rfl (p_ld1 (by exact rfl) (Rds.fld Rds.bxi (by exact rfl))) ?_; refine l_p rfl rfl (p_move rfl) ?_; refine l_p rfl rfl (p_move rfl) ?_; refine l_p rfl rfl (p_eq rfl rfl) ?_; refine l_p rfl rfl (p_pickt rfl rfl) ?_; refine l_p rfl rfl (p_ncp rfl) ?_; refine l_p rfl rfl (p_fa (by exact rfl) Rds.bxi) ?_; refine l_sti rfl rfl rfl rfl rfl (by exact rfl) (by exact rfl) (by exact rfl) (by exact ⟨rfl, rfl⟩) ?_; refine l_nil ?_; refine t_seq ?_; refine t_region ?_; refine l_p rfl rfl (p_move rfl) ?_))
  all_goals
    simp only [Bool.false_and, Bool.true_and] at hok2 hok3
    subst hok2
    refine l_callq1 rfl rfl rfl (.s .z) (enumber 2 (by decide) hS1 (by omega)) ?_
    rintro _ _ _ - ⟨rfl, n, b3, ok3, A3, c3, h3, rfl, rfl, hS3⟩
    have hn := rdNum2_lt h3
    have l3 := congrArg (fun q => q.2.1.length) h3
    have l4 := rdNum_len 2 (b1, false)
    have l5 := rdNum_len 2 (b1, decide ((e : Int) = 0))
    have hrd : rdHeld (b, ok) = ((x, (rdPieces n (b3, ok3) []).1), (rdPieces n (b3, ok3) []).2) := by
      rw [rdHeld, h1]; dsimp only; rw [hgb]; dsimp only
      simp only [Bool.false_and, Bool.true_and]
      first | rw [h3] | rw [hok3, h3]
    dsimp only at l3 l4 l5
    rw [toI_small (by omega)]
    refine l_p rfl rfl (p_assign rfl) ?_
    refine l_nil ?_
    refine t_seq ?_
    refine t_seq ?_
    refine t_region ?_
    refine l_p rfl rfl (p_assign rfl) ?_
    refine l_nil ?_
    refine t_block ?_
    refine t_loop (ι := HdI) { E := fun i => [(0, .pointer (some ⟨gb, 0, none⟩)), (2, .pointer (some ⟨g2, 0, none⟩)), (3, .pointer (some ⟨g3, 0, none⟩)), (6, i64 n), (7, i64 i.j)], S := fun i => i.s, M := fun i => own 4 ePc 43 (.slice i.Ap i.ps.length i.cp) i.ps :: Bx gb [.slice i.A i.b.length i.c, .bool i.ok] 49 :: Bx g3 [i64 x.1, i64 x.2.1, st x.2.2.1, i64 x.2.2.2.1, i64 x.2.2.2.2, .slice i.Ap i.ps.length i.cp] 39 :: Bx g2 [i64 0, i64 0, st [], i64 0, i64 0, .slice none 0 0] 39 :: F, Φ := fun i => i.j ≤ n ∧ σ.le i.s ∧ Sl i.s 1 eu8 (.slice i.A i.b.length i.c) i.b ∧ (∀ p ∈ i.ps, OkP i.s p) ∧ i.b.length ≤ b.length ∧ i.ps.length ≤ i.j ∧ rdPieces (n - i.j) (i.b, i.ok) (i.ps.map mP) = rdPieces n (b3, ok3) [] } (fun i => n - i.j) ⟨0, [], none, 0, b3, ok3, A3, c3, σ⟩
      (by exact ⟨rfl, rfl, rfl, rfl, rfl, trivial⟩) ⟨Nat.zero_le _, .refl σ, hS3, by simp, by dsimp only; omega, by simp, rfl⟩ (fun w hI => (hI.own0 4 ePc 43).prs (.cons .z (.cons .z (.drop .refl)))) ?_
    rintro ⟨j, ps, Ap, cp, b4, ok4, A4, c4, σ4⟩ ⟨m1, m2, m3, m4, m5, m6, m7⟩
    dsimp only at m1 m2 m3 m4 m5 m6 m7 ⊢
    refine t_seq ?_
    refine t_seq ?_
    refine t_region ?_
    refine l_p rfl rfl (p_move rfl) ?_
    refine l_p rfl rfl (p_move rfl) ?_
    refine l_p rfl rfl (p_lt rfl rfl) ?_
    refine l_p rfl rfl (p_move rfl) ?_
    have fin : rdPieces n (b3, ok3) [] = (ps.map mP, b4, ok4) → ∀ σ5, σ4.le σ5 → Sl σ5 4 ePc (.slice Ap ps.length cp) ps → ∀ w, Sp.Inv σ5 (Bx gb [.slice A4 b4.length c4, .bool ok4] 49 :: F) w → ∃ σ' r, σ.le σ' ∧ (∃ (h : HeldA) (b' : List UInt8) (ok' : Bool) (A' : Option Addr) (c' : Nat), rdHeld (b, ok) = (mH h, b', ok') ∧ Value.agg #[i64 x.1, i64 x.2.1, st x.2.2.1, i64 x.2.2.2.1, i64 x.2.2.2.2, .slice Ap ps.length cp] = .agg (eHd h).toArray ∧ OkH σ' h ∧ r = Bx gb [.slice A' b'.length c', .bool ok'] 49 ∧ Sl σ' 1 eu8 (.slice A' b'.length c') b') ∧ Sp.Inv σ' (r :: F) w :=
      fun hr σ5 h5 hS5 w hI => ⟨σ5, _, m2.trans h5, ⟨(x, (.slice Ap ps.length cp, ps)), b4, ok4, A4, c4, by rw [hrd, hr]; rfl, rfl, ⟨hS5, fun p hp => (m4 p hp).up h5⟩, rfl, m3.up h5⟩, hI⟩
    refine l_split 34 rfl (fun h => ?_) (fun h => ?_)
    · obtain ⟨m, hm⟩ : ∃ m, n - j = m + 1 := ⟨n - j - 1, by omega⟩
      rw [hm] at m7
      cases ok4 with
      | false =>
        rw [rdPieces_stop] at m7
        refine l_p rfl rfl (p_move rfl) ?_
        refine l_p rfl rfl (p_ncp rfl) ?_
        refine l_p rfl rfl (p_fa (by exact rfl) Rds.bxi) ?_
        refine l_p rfl rfl (p_ld1 (by exact rfl) (Rds.fld Rds.bxi (by exact rfl))) ?_
        refine l_p rfl rfl (p_pickt rfl rfl) ?_
        refine l_nil ?_
        refine t_iff rfl ?_
        refine t_exit rfl ?_
        refine t_seq ?_
        refine t_region ?_
        refine l_p rfl rfl (p_ldn (by exact rfl) Rds.bxi (by exact rfl) (by exact rfl)) ?_
        refine l_sti rfl rfl rfl rfl rfl (by exact rfl) (by exact rfl) (by exact rfl) (by exact ⟨rfl, rfl⟩) ?_
        refine l_nil ?_
        refine t_fzo .z fun σ5 h5 hS5 => ?_
        exact t_ret rfl (.cn rfl Rds.bxi rfl rfl .nil) fun w hI => fin m7.symm σ5 h5 hS5 w (hI.prs (.cons .z (.drop (.drop .refl))))
      | true =>
        have l6 := rdPart_len (b4, true)
        have hst : rdPieces (m + 1) (b4, true) (ps.map mP) = rdPieces m ((rdPart (b4, true)).2.1, (rdPart (b4, true)).2.2 && decide ((getPiece (rdPart (b4, true)).1).2 = 0)) (ps.map mP ++ [(getPiece (rdPart (b4, true)).1).1]) := by rw [rdPieces, if_pos rfl]
        rw [hst] at m7
        refine l_p rfl rfl (p_move rfl) ?_
        refine l_p rfl rfl (p_ncp rfl) ?_
        refine l_p rfl rfl (p_fa (by exact rfl) Rds.bxi) ?_
        refine l_p rfl rfl (p_ld1 (by exact rfl) (Rds.fld Rds.bxi (by exact rfl))) ?_
        refine l_p rfl rfl (p_pickt rfl rfl) ?_
        refine l_nil ?_
        refine t_ift rfl ?_
        refine t_skip ?_
        refine t_seq ?_
        refine t_block ?_
        refine t_seq ?_
        refine t_region ?_
        refine l_p rfl rfl (p_move rfl) ?_
        refine l_callq1 rfl rfl rfl (.s .z) (epart m3 (by omega)) ?_
        rintro _ _ _ - ⟨rfl, p5, b5, ok5, A5, c5, A6, c6, h6, rfl, hP5, rfl, hS5⟩
        rw [h6] at l6 m7
        dsimp only at l6 m7
        skip
        refine l_call0 rfl rfl rfl (cgetpiece hP5 (by omega)) ?_
        rintro v σ6 hσ6 ⟨A7, c7, rfl, hS7⟩
        generalize getPiece p5 = q at *
        obtain ⟨y, e5⟩ := q
        dsimp only at hS7 m7 ⊢
        have hnew : OkP σ6 (y.1, y.2.1, y.2.2.1, ((.slice A7 y.2.2.2.length c7 : Value), y.2.2.2)) := hS7
        obtain ⟨ok6, hok6⟩ : ∃ ok6, (ok5 && decide ((e5 : Int) = 0)) = ok6 := ⟨_, rfl⟩
        have hok7 : (ok5 && decide (e5 = 0)) = ok6 := by rw [← hok6]; congr 1; exact decide_eq_decide.2 (by omega)
        rw [hok7] at m7
        cases ok5 <;> (first | (refine l_p rfl rfl (p_move rfl) ?_; refine l_p rfl rfl (p_ext rfl rfl) ?_; refine l_p rfl rfl (p_ext rfl rfl) ?_; refine l_alloc (by exact rfl) (by exact rfl) (by exact rfl) ?_; intro _; refine l_sti rfl rfl rfl rfl rfl (by exact rfl) (by exact rfl) (by exact rfl) (by exact ⟨rfl, rfl⟩) ?_; refine l_p rfl rfl (p_assign rfl) ?_; refine l_nil ?_; refine t_seq ?_; refine t_region ?_; refine l_p rfl rfl (p_move rfl) ?_; refine l_p rfl rfl (p_move rfl) ?_; refine l_p rfl rfl (p_ncp rfl) ?_; refine l_p rfl rfl (p_fa (by exact rfl) Rds.bxi) ?_; refine l_p rfl rfl (p_ld1 (by exact rfl) (Rds.fld Rds.bxi (by exact rfl))) ?_; refine l_p rfl rfl (p_move rfl) ?_; refine l_skip rfl rfl ?_; refine l_skip rfl rfl ?_; refine l_p rfl rfl (p_pickf rfl rfl) ?_; refine l_p rfl rfl (p_ncp rfl) ?_; refine l_p rfl rfl (p_fa (by exact rfl) Rds.bxi) ?_; refine l_sti rfl rfl rfl rfl rfl (by exact rfl) (by exact rfl) (by exact rfl) (by exact ⟨rfl, rfl⟩) ?_; refine l_nil ?_; refine t_region ?_; refine l_p rfl rfl (p_fa (by exact rfl) Rds.bxi) ?_; refine l_p rfl rfl (p_ld1 (by exact rfl) (Rds.fld Rds.bxi (by exact rfl))) ?_; refine l_p rfl rfl (p_ldn (by exact rfl) Rds.bxi (by exact rfl) (by exact rfl)) ?_; refine l_bsl (by exact rfl) (by exact rfl) (by exact rfl) (by exact rfl) (by exact rfl) (by exact rfl) (by exact rfl) ?_; intro _) | (refine l_p rfl rfl (p_move rfl) ?_; refine l_p rfl rfl (p_ext rfl rfl) ?_; refine l_p rfl rfl (p_ext rfl rfl) ?_; refine l_alloc (by exact rfl) (by exact rfl) (by exact rfl) ?_; intro _; refine l_sti rfl rfl rfl rfl rfl (by exact rfl) (by exact rfl) (by exact rfl) (by exact ⟨rfl, rfl⟩) ?_; refine l_p rfl rfl (p_assign rfl) ?_; refine l_nil ?_; refine t_seq ?_; refine t_region ?_; refine l_p rfl rfl (p_move rfl) ?_; refine l_p rfl rfl (p_move rfl) ?_; refine l_p rfl rfl (p_ncp rfl) ?_; refine l_p rfl rfl (p_fa (by exact rfl) Rds.bxi) ?_; refine l_p rfl rfl (p_ld1 (by exact rfl) (Rds.fld Rds.bxi (by exact rfl))) ?_; refine l_p rfl rfl (p_move rfl) ?_; refine l_p rfl rfl (p_move rfl) ?_; refine l_p rfl rfl (p_eq rfl rfl) ?_; refine l_p rfl rfl (p_pickt rfl rfl) ?_; refine l_p rfl rfl (p_ncp rfl) ?_; refine l_p rfl rfl (p_fa (by exact rfl) Rds.bxi) ?_; refine l_sti rfl rfl rfl rfl rfl (by exact rfl) (by exact rfl) (by exact rfl) (by exact ⟨rfl, rfl⟩) ?_; refine l_nil ?_; refine t_region ?_; refine l_p rfl rfl (p_fa (by exact rfl) Rds.bxi) ?_; refine l_p rfl rfl (p_ld1 (by exact rfl) (Rds.fld Rds.bxi (by exact rfl))) ?_; refine l_p rfl rfl (p_ldn (by exact rfl) Rds.bxi (by exact rfl) (by exact rfl)) ?_; refine l_bsl (by exact rfl) (by exact rfl) (by exact rfl) (by exact rfl) (by exact rfl) (by exact rfl) (by exact rfl) ?_; intro _))
        all_goals
          simp only [Bool.false_and, Bool.true_and] at hok6 hok7
          subst hok6
          refine l_app1 (enc := ePc) (y.1, y.2.1, y.2.2.1, ((.slice A7 y.2.2.2.length c7 : Value), y.2.2.2)) rfl rfl rfl rfl (.s (.s (.s .z))) .z (by exact rfl) rfl (by exact rfl) (by exact rfl) (by omega) (by omega) fun A8 c8 => ?_
          refine l_p rfl rfl (p_fa (by exact rfl) Rds.bxi) ?_
          refine l_sti rfl rfl rfl rfl rfl (by exact rfl) (by exact rfl) (by exact rfl) (by exact ⟨rfl, rfl⟩) ?_
          refine l_nil ?_
          refine t_blk ?_
          refine t_region ?_
          refine l_p rfl rfl (p_move rfl) ?_
          refine l_p rfl rfl (p_add rfl rfl (by omega)) ?_
          refine l_p rfl rfl (p_assign rfl) ?_
          refine l_nil ?_
          refine t_round ⟨j + 1, ps ++ [(y.1, y.2.1, y.2.2.1, ((.slice A7 y.2.2.2.length c7 : Value), y.2.2.2))], A8, c8, b5, _, A5, c5, σ6⟩ ⟨rfl, rfl, rfl, rfl, gi rfl (by dsimp only; omega), trivial⟩ ⟨by dsimp only; omega, m2.trans hσ6, hS5.up hσ6, fun p hp => ?_, by dsimp only; omega, by simp; omega, ?_⟩ (by show n - (j + 1) < n - j; omega) (fun w hI => by dsimp only; rw [List.length_append]; exact hI.prs (.cons .z (.drop (.drop .refl))))
          · rcases List.mem_append.1 hp with hp | hp
            · exact (m4 p hp).up hσ6
            · rw [List.mem_singleton] at hp; subst hp; exact hnew
          · dsimp only; rw [show n - (j + 1) = m by omega, List.map_append]; exact m7
    · have hj : j = n := by omega
      subst hj
      rw [Nat.sub_self] at m7
      refine l_skip rfl rfl ?_
      refine l_skip rfl rfl ?_
      refine l_skip rfl rfl ?_
      refine l_skip rfl rfl ?_
      refine l_p rfl rfl (p_pickf rfl rfl) ?_
      refine l_nil ?_
      refine t_iff rfl ?_
      refine t_exit rfl ?_
      refine t_seq ?_
      refine t_region ?_
      refine l_p rfl rfl (p_ldn (by exact rfl) Rds.bxi (by exact rfl) (by exact rfl)) ?_
      refine l_sti rfl rfl rfl rfl rfl (by exact rfl) (by exact rfl) (by exact rfl) (by exact ⟨rfl, rfl⟩) ?_
      refine l_nil ?_
      refine t_fzo .z fun σ5 h5 hS5 => ?_
      exact t_ret rfl (.cn rfl Rds.bxi rfl rfl .nil) fun w hI => fin m7.symm σ5 h5 hS5 w (hI.prs (.cons .z (.drop (.drop .refl))))
end Go.Proofs.YtbijponhndknlaaDoor
