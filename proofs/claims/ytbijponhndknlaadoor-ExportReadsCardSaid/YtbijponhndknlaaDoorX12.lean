/-
  What is held, with its addresses.
-/
import Derived.Test.YtbijponhndknlaaDoorX11
import Derived.Test.YtbijponhndknlaaDoorE18
set_option linter.unusedVariables false
set_option linter.unusedSimpArgs false
namespace Go.Sp
/-- A piece: its body's slice, and the body. -/
abbrev PieceA := Int × Int × Int × (Value × List UInt8)
abbrev HeldA := BindM × (Value × List PieceA)
def mP (p : PieceA) : PieceM := (p.1, p.2.1, p.2.2.1, p.2.2.2.2)
def mH (h : HeldA) : HeldM := (h.1, h.2.2.map mP)
abbrev ePc (p : PieceA) : List Value := [i64 p.1, i64 p.2.1, i64 p.2.2.1, p.2.2.2.1]
abbrev eHd (h : HeldA) : List Value := [i64 h.1.1, i64 h.1.2.1, st h.1.2.2.1, i64 h.1.2.2.2.1, i64 h.1.2.2.2.2, h.2.1]
def OkP (σ : Stb) (p : PieceA) : Prop := Sl σ 1 eu8 p.2.2.2.1 p.2.2.2.2
def OkH (σ : Stb) (h : HeldA) : Prop := Sl σ 4 ePc h.2.1 h.2.2 ∧ ∀ p ∈ h.2.2, OkP σ p
def OkHs (σ : Stb) (v : Value) (l : List HeldA) : Prop := Sl σ 6 eHd v l ∧ ∀ h ∈ l, OkH σ h
theorem OkP.up {σ σ' : Stb} {p : PieceA} (h : OkP σ p) (hs : σ.le σ') : OkP σ' p := Sl.up h hs
theorem OkH.up {σ σ' : Stb} {p : HeldA} (h : OkH σ p) (hs : σ.le σ') : OkH σ' p := ⟨h.1.up hs, fun p hp => (h.2 p hp).up hs⟩
theorem OkHs.up {σ σ' : Stb} {v : Value} {l : List HeldA} (h : OkHs σ v l) (hs : σ.le σ') : OkHs σ' v l := ⟨h.1.up hs, fun p hp => (h.2 p hp).up hs⟩
theorem rdNum2_lt {r : Rd} {n : Nat} {r' : Rd} (h : rdNum 2 r = (n, r')) : n < 65536 := by
  unfold rdNum at h
  split at h
  · cases h
    have := vbe_lt (r.1.take 2)
    have h2 : (r.1.take 2).length = 2 := by simp; omega
    rw [h2] at this; omega
  · cases h; decide
theorem rdNum1_lt {r : Rd} {n : Nat} {r' : Rd} (h : rdNum 1 r = (n, r')) : n < 256 := by
  unfold rdNum at h
  split at h
  · cases h
    have := vbe_lt (r.1.take 1)
    have h2 : (r.1.take 1).length = 1 := by simp; omega
    rw [h2] at this; omega
  · cases h; decide
theorem rdPart_len (r : Rd) : (rdPart r).2.1.length ≤ r.1.length ∧ (rdPart r).1.length ≤ r.1.length := by
  have h := rdNum_len 2 r
  unfold rdPart
  generalize rdNum 2 r = q at *
  obtain ⟨n, r1⟩ := q
  dsimp only at h ⊢
  split
  · simp; omega
  · simp; omega
theorem rdPieces_len : ∀ (n : Nat) (r : Rd) (out : List PieceM), (rdPieces n r out).2.1.length ≤ r.1.length
  | 0, r, out => Nat.le_refl _
  | n + 1, r, out => by
    rw [rdPieces]
    split
    · refine Nat.le_trans (rdPieces_len n _ _) ?_
      exact (rdPart_len r).1
    · exact Nat.le_refl _
theorem rdHeld_len (r : Rd) : (rdHeld r).2.1.length ≤ r.1.length := by
  unfold rdHeld
  have h1 := rdPart_len r
  generalize rdPart r = q at *
  obtain ⟨b, r1⟩ := q
  have h2 := rdNum_len 2 (r1.1, r1.2 && decide ((getBind b).2 = 0))
  dsimp only at h1 h2 ⊢
  generalize rdNum 2 (r1.1, r1.2 && decide ((getBind b).2 = 0)) = q at *
  obtain ⟨n, r2⟩ := q
  have h3 := rdPieces_len n r2 []
  dsimp only at h1 h2 ⊢
  omega
end Go.Sp
