/-
  What is held, checked from the front.
-/
import Derived.Test.YtbijponhndknlaaDoorX11
set_option linter.unusedVariables false
set_option linter.unusedSimpArgs false
namespace Go.Sp
def rightPs (x : BindM) (l : List PieceM) : Bool := l.all (fun p => ofBind x p && rightPiece p) && chainP l
def stepP (x : BindM) (l : List PieceM) (j : Nat) (hj : j < l.length) : Bool := ofBind x l[j] && (rightPiece l[j] && (decide (j = 0) || decide ((l[j - 1]'(by omega)).2.2.1 < l[j].2.2.1)))
theorem rightPs_step (x : BindM) (l : List PieceM) (j : Nat) (hj : j < l.length) : rightPs x (l.take (j + 1)) = (rightPs x (l.take j) && stepP x l j hj) := by
  have ha : (l.take (j + 1)).all (fun p => ofBind x p && rightPiece p) = ((l.take j).all (fun p => ofBind x p && rightPiece p) && (ofBind x l[j] && rightPiece l[j])) := by
    rw [take_succ l j hj, List.all_append]; simp
  have hc : chainP (l.take (j + 1)) = (chainP (l.take j) && (decide (j = 0) || decide ((l[j - 1]'(by omega)).2.2.1 < l[j].2.2.1))) := by
    cases j with
    | zero =>
      have : l.take 1 = [l[0]] := by rw [take_succ l 0 hj]; rfl
      rw [this]; simp [chainP]
    | succ m =>
      rw [take_succ l (m + 1) hj, take_succ l m (by omega), chainP_snoc]
      simp
  rw [rightPs, rightPs, ha, hc, stepP]
  cases (l.take j).all (fun p => ofBind x p && rightPiece p) <;> cases chainP (l.take j) <;> cases ofBind x l[j] <;> cases rightPiece l[j] <;> rfl
theorem rightPs_take (x : BindM) (l : List PieceM) (h : rightPs x l = true) : ∀ k j, k + j = l.length → rightPs x (l.take j) = true
  | 0, j, hk => by rw [List.take_of_length_le (by omega)]; exact h
  | k + 1, j, hk => by
    have := rightPs_take x l h k (j + 1) (by omega)
    rw [rightPs_step x l j (by omega), Bool.and_eq_true] at this
    exact this.1
theorem rightPs_bad (x : BindM) (l : List PieceM) (j : Nat) (hj : j < l.length) (h : stepP x l j hj = false) : rightPs x l = false := by
  cases hr : rightPs x l with
  | false => rfl
  | true =>
    have := rightPs_take x l hr (l.length - (j + 1)) (j + 1) (by omega)
    rw [rightPs_step x l j hj, h, Bool.and_false] at this
    cases this
theorem rightHeld_eq (h : HeldM) : rightHeld h = (rightBind h.1 && (decide (h.2.length ≤ 4097) && rightPs h.1 h.2)) := rfl
def rightHs (l : List HeldM) : Bool := l.all rightHeld && chainH l
def stepH (l : List HeldM) (j : Nat) (hj : j < l.length) : Bool := rightHeld l[j] && (decide (j = 0) || decide ((l[j - 1]'(by omega)).1.1 < l[j].1.1))
theorem rightHs_step (l : List HeldM) (j : Nat) (hj : j < l.length) : rightHs (l.take (j + 1)) = (rightHs (l.take j) && stepH l j hj) := by
  have ha : (l.take (j + 1)).all rightHeld = ((l.take j).all rightHeld && rightHeld l[j]) := by
    rw [take_succ l j hj, List.all_append]; simp
  have hc : chainH (l.take (j + 1)) = (chainH (l.take j) && (decide (j = 0) || decide ((l[j - 1]'(by omega)).1.1 < l[j].1.1))) := by
    cases j with
    | zero =>
      have : l.take 1 = [l[0]] := by rw [take_succ l 0 hj]; rfl
      rw [this]; simp [chainH]
    | succ m =>
      rw [take_succ l (m + 1) hj, take_succ l m (by omega), chainH_snoc]
      simp
  rw [rightHs, rightHs, ha, hc, stepH]
  cases (l.take j).all rightHeld <;> cases chainH (l.take j) <;> cases rightHeld l[j] <;> rfl
theorem rightHs_take (l : List HeldM) (h : rightHs l = true) : ∀ k j, k + j = l.length → rightHs (l.take j) = true
  | 0, j, hk => by rw [List.take_of_length_le (by omega)]; exact h
  | k + 1, j, hk => by
    have := rightHs_take l h k (j + 1) (by omega)
    rw [rightHs_step l j (by omega), Bool.and_eq_true] at this
    exact this.1
theorem rightHs_bad (l : List HeldM) (j : Nat) (hj : j < l.length) (h : stepH l j hj = false) : rightHs l = false := by
  cases hr : rightHs l with
  | false => rfl
  | true =>
    have := rightHs_take l hr (l.length - (j + 1)) (j + 1) (by omega)
    rw [rightHs_step l j hj, h, Bool.and_false] at this
    cases this
theorem rightAll_eq (l : List HeldM) : rightAll l = (decide (l.length ≤ 16) && rightHs l) := rfl
theorem pieceBytes_len {p : PieceM} (h : rightPiece p = true) : (pieceBytes p).length ≤ 71 := by
  simp only [rightPiece, Bool.and_eq_true, decide_eq_true_eq] at h
  simp [pieceBytes, be_len]; omega
theorem piecesBytes_len : ∀ (l : List PieceM), (∀ p ∈ l, rightPiece p = true) → (piecesBytes l).length ≤ 73 * l.length
  | [], _ => by simp [piecesBytes]
  | p :: l, h => by
    have h1 := pieceBytes_len (h p (List.mem_cons_self ..))
    have h2 := piecesBytes_len l fun q hq => h q (List.mem_cons_of_mem _ hq)
    simp only [piecesBytes, List.map_cons, List.flatten_cons, List.length_append, layB, be_len, List.length_cons] at h2 ⊢
    omega
theorem heldBytes_len {h : HeldM} (hr : rightHeld h = true) : (heldBytes h).length ≤ 300000 := by
  rw [rightHeld_eq] at hr
  simp only [Bool.and_eq_true, decide_eq_true_eq, rightPs] at hr
  obtain ⟨h1, h2, h3, _⟩ := hr
  have h4 := piecesBytes_len h.2 fun p hp => by
    have := List.all_eq_true.1 h3 p hp
    simp only [Bool.and_eq_true] at this
    exact this.2
  have h5 : (bindBytes h.1).length ≤ 55 := by
    simp only [rightBind, Bool.and_eq_true, decide_eq_true_eq] at h1
    simp [bindBytes, be_len]; omega
  simp only [heldBytes, layB, List.length_append, be_len]
  omega
theorem heldsBytes_len : ∀ (l : List HeldM), l.all rightHeld = true → (heldsBytes l).length ≤ 300000 * l.length
  | [], _ => by simp [heldsBytes]
  | p :: l, h => by
    simp only [List.all_cons, Bool.and_eq_true] at h
    have h1 := heldBytes_len h.1
    have h2 := heldsBytes_len l h.2
    simp only [heldsBytes, List.map_cons, List.flatten_cons, List.length_append, List.length_cons] at h2 ⊢
    omega
theorem allBytes_len {l : List HeldM} (h : rightAll l = true) : (allBytes l).length ≤ 5000000 := by
  simp only [rightAll, Bool.and_eq_true, decide_eq_true_eq] at h
  have := heldsBytes_len l h.2.1
  simp only [allBytes, List.length_append, be_len]
  omega
end Go.Sp
