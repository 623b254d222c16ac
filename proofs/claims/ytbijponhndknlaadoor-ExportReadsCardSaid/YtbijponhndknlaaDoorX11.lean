/-
  Plain functions: records as bytes; what is held, as bytes and back.
-/
import Derived.Test.YtbijponhndknlaaDoorX10
import Derived.Test.YtbijponhndknlaaDoorX4
set_option linter.unusedVariables false
set_option linter.unusedSimpArgs false
namespace Go.Sp
/-- object, generation, validator, length, tick -/
abbrev BindM := Int × Int × List UInt8 × Int × Int
/-- object, generation, place, body -/
abbrev PieceM := Int × Int × Int × List UInt8
def ownerB (o g : Int) : Bool := decide (0 ≤ o ∧ o ≤ 15) && decide (1 ≤ g ∧ g ≤ 2147483647)
def rightBind (x : BindM) : Bool := ownerB x.1 x.2.1 && (decide (0 ≤ x.2.2.2.1 ∧ x.2.2.2.1 ≤ 4096) && (decide (0 ≤ x.2.2.2.2 ∧ x.2.2.2.2 ≤ 4611686018427387903) && (plainT x.2.2.1 && decide (x.2.2.1.length ≤ 40))))
def rightPiece (x : PieceM) : Bool := ownerB x.1 x.2.1 && (decide (0 ≤ x.2.2.1 ∧ x.2.2.1 ≤ 4096) && decide (1 ≤ x.2.2.2.length ∧ x.2.2.2.length ≤ 64))
def bindBytes (x : BindM) : List UInt8 := be x.1.toNat 1 ++ be x.2.1.toNat 4 ++ be x.2.2.2.1.toNat 2 ++ be x.2.2.2.2.toNat 8 ++ x.2.2.1
def pieceBytes (x : PieceM) : List UInt8 := be x.1.toNat 1 ++ be x.2.1.toNat 4 ++ be x.2.2.1.toNat 2 ++ x.2.2.2
def toI (n : Nat) : Int := if n < 9223372036854775808 then n else (n : Int) - 18446744073709551616
theorem toI_small {n : Nat} (h : n < 9223372036854775808) : toI n = n := if_pos h
def cutN (b : List UInt8) (i j : Nat) : Int := toI (vbe ((b.take j).drop i))
def rawBind (b : List UInt8) : BindM := (cutN b 0 1, cutN b 1 5, b.drop 15, cutN b 5 7, cutN b 7 15)
def getBind (b : List UInt8) : BindM × Nat := if b.length < 15 ∨ rightBind (rawBind b) = false then ((0, 0, [], 0, 0), 3) else (rawBind b, 0)
def rawPiece (b : List UInt8) : PieceM := (cutN b 0 1, cutN b 1 5, cutN b 5 7, b.drop 7)
def getPiece (b : List UInt8) : PieceM × Nat := if b.length < 7 ∨ rightPiece (rawPiece b) = false then ((0, 0, 0, []), 3) else (rawPiece b, 0)
theorem b_true {b : Bool} (h : ¬ b = false) : b = true := by cases b <;> simp_all
theorem be_cut {b : List UInt8} {i j : Nat} (hij : i ≤ j) (h8 : j - i ≤ 8) (hj : j ≤ b.length) {n : Int} (h0 : 0 ≤ n) (h : n = cutN b i j) : be n.toNat (j - i) = (b.take j).drop i := by
  subst h
  have hl : ((b.take j).drop i).length = j - i := by simp; omega
  unfold cutN toI at *
  split at h0
  · rename_i h1
    simp only [h1, if_true, Int.toNat_natCast]
    rw [← hl]; exact be_vbe _
  · rename_i h1
    have h2 := vbe_lt ((b.take j).drop i)
    rw [hl] at h2
    have h3 : (256 : Nat) ^ (j - i) ≤ 256 ^ 8 := Nat.pow_le_pow_right (by decide) h8
    omega
theorem cut_be {p s : List UInt8} {n k : Nat} (h : n < 256 ^ k) (h2 : n < 9223372036854775808) : cutN (p ++ be n k ++ s) p.length (p.length + k) = n := by
  unfold cutN
  have e : ((p ++ be n k ++ s).take (p.length + k)).drop p.length = be n k := by
    rw [List.take_append_of_le_length (by simp [be_len]), List.take_of_length_le (by simp [be_len])]; simp
  rw [e, vbe_be_lt h, toI_small h2]
theorem getBind_spec {b : List UInt8} {x : BindM} (h : getBind b = (x, 0)) : rightBind x = true ∧ bindBytes x = b ∧ 15 ≤ b.length := by
  unfold getBind at h
  split at h
  · cases h
  · rename_i h1
    cases h
    have hr : rightBind (rawBind b) = true := b_true fun e => h1 (.inr e)
    have hl : 15 ≤ b.length := by omega
    refine ⟨hr, ?_, hl⟩
    have hr2 : rightBind (cutN b 0 1, cutN b 1 5, b.drop 15, cutN b 5 7, cutN b 7 15) = true := hr
    simp only [rightBind, ownerB, Bool.and_eq_true, decide_eq_true_eq] at hr2
    obtain ⟨⟨⟨a1, _⟩, a3, _⟩, ⟨a5, _⟩, ⟨a7, _⟩, _⟩ := hr2
    simp only [bindBytes, rawBind]
    have e1 := be_cut (b := b) (i := 0) (j := 1) (by omega) (by omega) (by omega) a1 rfl
    have e2 := be_cut (b := b) (i := 1) (j := 5) (by omega) (by omega) (by omega) (by omega : 0 ≤ cutN b 1 5) rfl
    have e3 := be_cut (b := b) (i := 5) (j := 7) (by omega) (by omega) (by omega) a5 rfl
    have e4 := be_cut (b := b) (i := 7) (j := 15) (by omega) (by omega) (by omega) a7 rfl
    simp only [Nat.sub_zero, Nat.reduceSub] at e1 e2 e3 e4
    rw [e1, e2, e3, e4]
    have g : ∀ i j, i ≤ j → b.take i ++ (b.take j).drop i = b.take j := fun i j hij => by
      have := List.take_append_drop i (b.take j)
      rwa [List.take_take, Nat.min_eq_left hij] at this
    have g0 : (b.take 1).drop 0 = b.take 1 := rfl
    rw [g0, g 1 5 (by omega), g 5 7 (by omega), g 7 15 (by omega), List.take_append_drop]
theorem getPiece_spec {b : List UInt8} {x : PieceM} (h : getPiece b = (x, 0)) : rightPiece x = true ∧ pieceBytes x = b ∧ 7 ≤ b.length := by
  unfold getPiece at h
  split at h
  · cases h
  · rename_i h1
    cases h
    have hr : rightPiece (rawPiece b) = true := b_true fun e => h1 (.inr e)
    have hl : 7 ≤ b.length := by omega
    refine ⟨hr, ?_, hl⟩
    have hr2 : rightPiece (cutN b 0 1, cutN b 1 5, cutN b 5 7, b.drop 7) = true := hr
    simp only [rightPiece, ownerB, Bool.and_eq_true, decide_eq_true_eq] at hr2
    obtain ⟨⟨⟨a1, _⟩, a3, _⟩, ⟨a5, _⟩, _⟩ := hr2
    simp only [pieceBytes, rawPiece]
    have e1 := be_cut (b := b) (i := 0) (j := 1) (by omega) (by omega) (by omega) a1 rfl
    have e2 := be_cut (b := b) (i := 1) (j := 5) (by omega) (by omega) (by omega) (by omega : 0 ≤ cutN b 1 5) rfl
    have e3 := be_cut (b := b) (i := 5) (j := 7) (by omega) (by omega) (by omega) a5 rfl
    simp only [Nat.sub_zero, Nat.reduceSub] at e1 e2 e3
    rw [e1, e2, e3]
    have g : ∀ i j, i ≤ j → b.take i ++ (b.take j).drop i = b.take j := fun i j hij => by
      have := List.take_append_drop i (b.take j)
      rwa [List.take_take, Nat.min_eq_left hij] at this
    have g0 : (b.take 1).drop 0 = b.take 1 := rfl
    rw [g0, g 1 5 (by omega), g 5 7 (by omega), List.take_append_drop]
theorem getBind_bytes {x : BindM} (h : rightBind x = true) : getBind (bindBytes x) = (x, 0) := by
  have hr := h
  obtain ⟨o, g, tag, len, tick⟩ := x
  simp only [rightBind, ownerB, Bool.and_eq_true, decide_eq_true_eq] at hr
  obtain ⟨⟨⟨a1, a2⟩, a3, a4⟩, ⟨a5, a6⟩, ⟨a7, a8⟩, _⟩ := hr
  have hlen : (bindBytes (o, g, tag, len, tick)).length = 15 + tag.length := by simp [bindBytes, be_len]; omega
  have hraw : rawBind (bindBytes (o, g, tag, len, tick)) = (o, g, tag, len, tick) := by
    have e1 := cut_be (p := []) (s := be g.toNat 4 ++ be len.toNat 2 ++ be tick.toNat 8 ++ tag) (n := o.toNat) (k := 1) (by omega) (by omega)
    have e2 := cut_be (p := be o.toNat 1) (s := be len.toNat 2 ++ be tick.toNat 8 ++ tag) (n := g.toNat) (k := 4) (by omega) (by omega)
    have e3 := cut_be (p := be o.toNat 1 ++ be g.toNat 4) (s := be tick.toNat 8 ++ tag) (n := len.toNat) (k := 2) (by omega) (by omega)
    have e4 := cut_be (p := be o.toNat 1 ++ be g.toNat 4 ++ be len.toNat 2) (s := tag) (n := tick.toNat) (k := 8) (by omega) (by omega)
    simp only [List.length_append, List.length_nil, be_len, List.nil_append, List.append_assoc, Nat.reduceAdd, Nat.zero_add] at e1 e2 e3 e4
    simp only [rawBind, bindBytes, List.append_assoc, e1, e2, e3, e4]
    have ed : (be o.toNat 1 ++ (be g.toNat 4 ++ (be len.toNat 2 ++ (be tick.toNat 8 ++ tag)))).drop 15 = tag := by
      have : be o.toNat 1 ++ (be g.toNat 4 ++ (be len.toNat 2 ++ (be tick.toNat 8 ++ tag))) = (be o.toNat 1 ++ be g.toNat 4 ++ be len.toNat 2 ++ be tick.toNat 8) ++ tag := by simp
      rw [this, List.drop_left' (by simp [be_len])]
    rw [ed, Int.toNat_of_nonneg a1, Int.toNat_of_nonneg (by omega), Int.toNat_of_nonneg a5, Int.toNat_of_nonneg a7]
  unfold getBind
  rw [hraw, if_neg (by rw [h, hlen]; simp)]
theorem getPiece_bytes {x : PieceM} (h : rightPiece x = true) : getPiece (pieceBytes x) = (x, 0) := by
  have hr := h
  obtain ⟨o, g, i, body⟩ := x
  simp only [rightPiece, ownerB, Bool.and_eq_true, decide_eq_true_eq] at hr
  obtain ⟨⟨⟨a1, a2⟩, a3, a4⟩, ⟨a5, a6⟩, _⟩ := hr
  have hlen : (pieceBytes (o, g, i, body)).length = 7 + body.length := by simp [pieceBytes, be_len]; omega
  have hraw : rawPiece (pieceBytes (o, g, i, body)) = (o, g, i, body) := by
    have e1 := cut_be (p := []) (s := be g.toNat 4 ++ be i.toNat 2 ++ body) (n := o.toNat) (k := 1) (by omega) (by omega)
    have e2 := cut_be (p := be o.toNat 1) (s := be i.toNat 2 ++ body) (n := g.toNat) (k := 4) (by omega) (by omega)
    have e3 := cut_be (p := be o.toNat 1 ++ be g.toNat 4) (s := body) (n := i.toNat) (k := 2) (by omega) (by omega)
    simp only [List.length_append, List.length_nil, be_len, List.nil_append, List.append_assoc, Nat.reduceAdd, Nat.zero_add] at e1 e2 e3
    simp only [rawPiece, pieceBytes, List.append_assoc, e1, e2, e3]
    have ed : (be o.toNat 1 ++ (be g.toNat 4 ++ (be i.toNat 2 ++ body))).drop 7 = body := by
      have : be o.toNat 1 ++ (be g.toNat 4 ++ (be i.toNat 2 ++ body)) = (be o.toNat 1 ++ be g.toNat 4 ++ be i.toNat 2) ++ body := by simp
      rw [this, List.drop_left' (by simp [be_len])]
    rw [ed, Int.toNat_of_nonneg a1, Int.toNat_of_nonneg (by omega), Int.toNat_of_nonneg a5]
  unfold getPiece
  rw [hraw, if_neg (by rw [h, hlen]; simp)]

/-! ### What is held -/
abbrev HeldM := BindM × List PieceM
def layB (b : List UInt8) : List UInt8 := be b.length 2 ++ b
def chainP : List PieceM → Bool
  | [] => true
  | [_] => true
  | a :: b :: r => decide (a.2.2.1 < b.2.2.1) && chainP (b :: r)
def ofBind (x : BindM) (p : PieceM) : Bool := decide (p.1 = x.1) && decide (p.2.1 = x.2.1)
def rightHeld (h : HeldM) : Bool := rightBind h.1 && (decide (h.2.length ≤ 4097) && (h.2.all (fun p => ofBind h.1 p && rightPiece p) && chainP h.2))
def chainH : List HeldM → Bool
  | [] => true
  | [_] => true
  | a :: b :: r => decide (a.1.1 < b.1.1) && chainH (b :: r)
def rightAll (l : List HeldM) : Bool := decide (l.length ≤ 16) && (l.all rightHeld && chainH l)
def piecesBytes (l : List PieceM) : List UInt8 := (l.map fun p => layB (pieceBytes p)).flatten
def heldBytes (h : HeldM) : List UInt8 := layB (bindBytes h.1) ++ be h.2.length 2 ++ piecesBytes h.2
def heldsBytes (l : List HeldM) : List UInt8 := (l.map heldBytes).flatten
def allBytes (l : List HeldM) : List UInt8 := be l.length 1 ++ heldsBytes l
theorem chainP_snoc (l : List PieceM) (a b : PieceM) : chainP (l ++ [a] ++ [b]) = (chainP (l ++ [a]) && decide (a.2.2.1 < b.2.2.1)) := by
  induction l with
  | nil => simp [chainP]
  | cons x r ih =>
    cases r with
    | nil => simp [chainP]
    | cons y r => simp only [List.cons_append, chainP] at ih ⊢; rw [ih, Bool.and_assoc]
theorem chainH_snoc (l : List HeldM) (a b : HeldM) : chainH (l ++ [a] ++ [b]) = (chainH (l ++ [a]) && decide (a.1.1 < b.1.1)) := by
  induction l with
  | nil => simp [chainH]
  | cons x r ih =>
    cases r with
    | nil => simp [chainH]
    | cons y r => simp only [List.cons_append, chainH] at ih ⊢; rw [ih, Bool.and_assoc]
/-- What is left, and whether all was well. -/
abbrev Rd := List UInt8 × Bool
def rdNum (k : Nat) (r : Rd) : Nat × Rd := if k ≤ r.1.length then (vbe (r.1.take k), (r.1.drop k, r.2)) else (0, (r.1, false))
theorem take_drop_cut (b : List UInt8) (i k : Nat) : (b.drop i).take k = (b.take (i + k)).drop i := by
  rw [List.drop_take, Nat.add_sub_cancel_left]
/-- The numbers of a binding, one after the other. -/
theorem rd4 {b : List UInt8} {n1 n2 n3 n4 : Nat} {r1 r2 r3 r4 : Rd} (h1 : rdNum 1 (b, true) = (n1, r1)) (h2 : rdNum 4 r1 = (n2, r2)) (h3 : rdNum 2 r2 = (n3, r3)) (h4 : rdNum 8 r3 = (n4, r4)) :
    (15 ≤ b.length ∧ toI n1 = cutN b 0 1 ∧ toI n2 = cutN b 1 5 ∧ toI n3 = cutN b 5 7 ∧ toI n4 = cutN b 7 15 ∧ r4 = (b.drop 15, true)) ∨ (b.length < 15 ∧ r4.2 = false) := by
  by_cases h : 15 ≤ b.length
  · refine .inl ⟨h, ?_⟩
    have e1 : rdNum 1 (b, true) = (vbe (b.take 1), (b.drop 1, true)) := by rw [rdNum, if_pos (by simp; omega)]
    rw [e1] at h1; cases h1
    have e2 : rdNum 4 (b.drop 1, true) = (vbe ((b.take 5).drop 1), (b.drop 5, true)) := by rw [rdNum, if_pos (by simp; omega)]; dsimp only; rw [take_drop_cut, List.drop_drop]
    rw [e2] at h2; cases h2
    have e3 : rdNum 2 (b.drop 5, true) = (vbe ((b.take 7).drop 5), (b.drop 7, true)) := by rw [rdNum, if_pos (by simp; omega)]; dsimp only; rw [take_drop_cut, List.drop_drop]
    rw [e3] at h3; cases h3
    have e4 : rdNum 8 (b.drop 7, true) = (vbe ((b.take 15).drop 7), (b.drop 15, true)) := by rw [rdNum, if_pos (by simp; omega)]; dsimp only; rw [take_drop_cut, List.drop_drop]
    rw [e4] at h4; cases h4
    exact ⟨rfl, rfl, rfl, rfl, rfl⟩
  · refine .inr ⟨by omega, ?_⟩
    simp only [rdNum] at h1 h2 h3 h4
    split at h1 <;> cases h1 <;> split at h2 <;> cases h2 <;> split at h3 <;> cases h3 <;> split at h4 <;> cases h4 <;> first | rfl | (exfalso; simp at *; omega)
theorem rd3 {b : List UInt8} {n1 n2 n3 : Nat} {r1 r2 r3 : Rd} (h1 : rdNum 1 (b, true) = (n1, r1)) (h2 : rdNum 4 r1 = (n2, r2)) (h3 : rdNum 2 r2 = (n3, r3)) :
    (7 ≤ b.length ∧ toI n1 = cutN b 0 1 ∧ toI n2 = cutN b 1 5 ∧ toI n3 = cutN b 5 7 ∧ r3 = (b.drop 7, true)) ∨ (b.length < 7 ∧ r3.2 = false) := by
  by_cases h : 7 ≤ b.length
  · refine .inl ⟨h, ?_⟩
    have e1 : rdNum 1 (b, true) = (vbe (b.take 1), (b.drop 1, true)) := by rw [rdNum, if_pos (by simp; omega)]
    rw [e1] at h1; cases h1
    have e2 : rdNum 4 (b.drop 1, true) = (vbe ((b.take 5).drop 1), (b.drop 5, true)) := by rw [rdNum, if_pos (by simp; omega)]; dsimp only; rw [take_drop_cut, List.drop_drop]
    rw [e2] at h2; cases h2
    have e3 : rdNum 2 (b.drop 5, true) = (vbe ((b.take 7).drop 5), (b.drop 7, true)) := by rw [rdNum, if_pos (by simp; omega)]; dsimp only; rw [take_drop_cut, List.drop_drop]
    rw [e3] at h3; cases h3
    exact ⟨rfl, rfl, rfl, rfl⟩
  · refine .inr ⟨by omega, ?_⟩
    simp only [rdNum] at h1 h2 h3
    split at h1 <;> cases h1 <;> split at h2 <;> cases h2 <;> split at h3 <;> cases h3 <;> first | rfl | (exfalso; simp at *; omega)
theorem rdNum_len (k : Nat) (r : Rd) : (rdNum k r).2.1.length ≤ r.1.length := by
  unfold rdNum; split
  · simp
  · simp
def rdPart (r : Rd) : List UInt8 × Rd :=
  let (n, r1) := rdNum 2 r
  if r1.1.length < n then ([], (r1.1, false)) else (r1.1.take n, (r1.1.drop n, r1.2))
def rdPieces : Nat → Rd → List PieceM → List PieceM × Rd
  | 0, r, out => (out, r)
  | n + 1, r, out => if r.2 = true then rdPieces n ((rdPart r).2.1, (rdPart r).2.2 && decide ((getPiece (rdPart r).1).2 = 0)) (out ++ [(getPiece (rdPart r).1).1]) else (out, r)
def rdHeld (r : Rd) : HeldM × Rd :=
  let (b, r1) := rdPart r
  let (n, r2) := rdNum 2 (r1.1, r1.2 && decide ((getBind b).2 = 0))
  let (ps, r3) := rdPieces n r2 []
  (((getBind b).1, ps), r3)
def rdAll : Nat → Rd → List HeldM → List HeldM × Rd
  | 0, r, out => (out, r)
  | n + 1, r, out => if r.2 = true then rdAll n (rdHeld r).2 (out ++ [(rdHeld r).1]) else (out, r)
/-- What is held, of bytes; the error's number. -/
def getAll (b : List UInt8) : List HeldM × Nat :=
  if (openB b).2 ≠ 0 then ([], (openB b).2)
  else
    let (n, r) := rdNum 1 ((openB b).1, true)
    let (out, r2) := rdAll n r []
    if r2.2 = false ∨ r2.1 ≠ [] ∨ rightAll out = false then ([], 3) else (out, 0)
theorem rdNum_ok {k : Nat} {r : Rd} {n : Nat} {r' : Rd} (h : rdNum k r = (n, r')) (hok : r'.2 = true) : r.2 = true ∧ r.1 = be n k ++ r'.1 ∧ n < 256 ^ k := by
  unfold rdNum at h
  split at h
  · rename_i hk
    cases h
    have hl : (r.1.take k).length = k := by simp; omega
    have h1 := be_vbe (r.1.take k)
    rw [hl] at h1
    refine ⟨hok, by rw [h1, List.take_append_drop], ?_⟩
    have := vbe_lt (r.1.take k)
    rwa [hl] at this
  · cases h; cases hok
theorem rdPart_ok {r : Rd} {b : List UInt8} {r' : Rd} (h : rdPart r = (b, r')) (hok : r'.2 = true) : r.2 = true ∧ r.1 = layB b ++ r'.1 ∧ b.length < 65536 := by
  unfold rdPart at h
  cases hn : rdNum 2 r with
  | mk n r1 =>
    rw [hn] at h
    simp only at h
    split at h
    · cases h; cases hok
    · rename_i hlt
      cases h
      obtain ⟨h1, h2, h3⟩ := rdNum_ok hn hok
      have hl : (r1.1.take n).length = n := by simp; omega
      refine ⟨h1, ?_, by rw [hl]; simpa using h3⟩
      rw [h2, layB, hl, List.append_assoc, List.take_append_drop]
theorem rdPieces_ok : ∀ (n : Nat) (r : Rd) (out ps : List PieceM) (r' : Rd), rdPieces n r out = (ps, r') → r'.2 = true → r.2 = true ∧ ∃ l, ps = out ++ l ∧ l.length = n ∧ r.1 = piecesBytes l ++ r'.1
  | 0, r, out, ps, r', h, hok => by
    cases h; exact ⟨hok, [], by simp, rfl, rfl⟩
  | n + 1, r, out, ps, r', h, hok => by
    rw [rdPieces] at h
    split at h
    · rename_i hr
      obtain ⟨h1, l, h2, h3, h4⟩ := rdPieces_ok n _ _ ps r' h hok
      simp only [Bool.and_eq_true, decide_eq_true_eq] at h1
      obtain ⟨_, g2, _⟩ := rdPart_ok (r := r) (b := (rdPart r).1) (r' := (rdPart r).2) rfl h1.1
      obtain ⟨_, g3, _⟩ := getPiece_spec (b := (rdPart r).1) (x := (getPiece (rdPart r).1).1) (by rw [← h1.2])
      refine ⟨hr, (getPiece (rdPart r).1).1 :: l, by rw [h2]; simp, by simp [h3], ?_⟩
      rw [g2]
      simp only at h4
      have e : piecesBytes ((getPiece (rdPart r).1).1 :: l) = layB (pieceBytes (getPiece (rdPart r).1).1) ++ piecesBytes l := by simp [piecesBytes]
      rw [h4, e, g3, List.append_assoc]
    · rename_i hr
      cases h
      exact absurd hok hr
theorem rdHeld_ok {r r' : Rd} {h : HeldM} (e : rdHeld r = (h, r')) (hok : r'.2 = true) : r.2 = true ∧ r.1 = heldBytes h ++ r'.1 := by
  unfold rdHeld at e
  cases hp : rdPart r with
  | mk b r1 =>
    cases hn : rdNum 2 (r1.1, r1.2 && decide ((getBind b).2 = 0)) with
    | mk n r2 =>
      cases hl : rdPieces n r2 [] with
      | mk ps r3 =>
        simp only [hp, hn, hl] at e
        cases e
        obtain ⟨k1, l, k2, k3, k4⟩ := rdPieces_ok n r2 [] ps r' hl hok
        obtain ⟨g1, g2, g3⟩ := rdNum_ok hn k1
        simp only [Bool.and_eq_true, decide_eq_true_eq] at g1 g2
        obtain ⟨f1, f2, _⟩ := rdPart_ok hp g1.1
        obtain ⟨_, b2, _⟩ := getBind_spec (b := b) (x := (getBind b).1) (by rw [← g1.2])
        refine ⟨f1, ?_⟩
        simp only [List.nil_append] at k2
        rw [f2, g2, k4, heldBytes, b2, k2, k3]
        simp only [List.append_assoc]
theorem rdAll_ok : ∀ (n : Nat) (r : Rd) (out hs : List HeldM) (r' : Rd), rdAll n r out = (hs, r') → r'.2 = true → r.2 = true ∧ ∃ l, hs = out ++ l ∧ l.length = n ∧ r.1 = heldsBytes l ++ r'.1
  | 0, r, out, hs, r', h, hok => by
    cases h; exact ⟨hok, [], by simp, rfl, rfl⟩
  | n + 1, r, out, hs, r', h, hok => by
    rw [rdAll] at h
    split at h
    · rename_i hr
      obtain ⟨h1, l, h2, h3, h4⟩ := rdAll_ok n _ _ hs r' h hok
      obtain ⟨_, g2⟩ := rdHeld_ok (r := r) (h := (rdHeld r).1) (r' := (rdHeld r).2) rfl h1
      refine ⟨hr, (rdHeld r).1 :: l, by rw [h2]; simp, by simp [h3], ?_⟩
      have e : heldsBytes ((rdHeld r).1 :: l) = heldBytes (rdHeld r).1 ++ heldsBytes l := by simp [heldsBytes]
      rw [g2, h4, e, List.append_assoc]
    · rename_i hr
      cases h
      exact absurd hok hr
/-- What is read is just what is laid. -/
theorem getAll_spec {b : List UInt8} {l : List HeldM} (h : getAll b = (l, 0)) : rightAll l = true ∧ b = sealB (allBytes l) := by
  unfold getAll at h
  split at h
  · rename_i h1; simp only [Prod.mk.injEq] at h; exact absurd h.2 h1
  rename_i h1
  have h1 : (openB b).2 = 0 := by simpa using h1
  have hb := open_spec (b := b) (x := (openB b).1) (by rw [← h1])
  cases hn : rdNum 1 ((openB b).1, true) with
  | mk n r =>
    cases ha : rdAll n r [] with
    | mk out r2 =>
      simp only [hn, ha] at h
      split at h
      · cases h
      · rename_i hc
        cases h
        have c1 : r2.2 = true := b_true fun e => hc (.inl e)
        have c2 : r2.1 = [] := Decidable.byContradiction fun e => hc (.inr (.inl e))
        have c3 : rightAll l = true := b_true fun e => hc (.inr (.inr e))
        obtain ⟨k1, l', k2, k3, k4⟩ := rdAll_ok n r [] l r2 ha c1
        obtain ⟨_, g2, _⟩ := rdNum_ok hn k1
        simp only [List.nil_append] at k2
        subst k2
        refine ⟨c3, ?_⟩
        rw [hb]
        simp only at g2
        rw [g2, k4, c2, allBytes, k3, List.append_nil]
theorem getAll_err (b : List UInt8) : (getAll b).2 = 0 ∨ (getAll b).1 = [] ∧ ((getAll b).2 = 3 ∨ (getAll b).2 = 4) := by
  unfold getAll
  split
  · rename_i h
    refine .inr ⟨rfl, ?_⟩
    unfold openB at h ⊢
    split
    · exact .inl rfl
    split
    · rename_i h1 h2; rw [if_neg h1, if_pos h2] at h; exact absurd rfl h
    · exact .inr rfl
  · cases hn : rdNum 1 ((openB b).1, true) with
    | mk n r =>
      cases ha : rdAll n r [] with
      | mk out r2 =>
        simp only [hn, ha]
        split
        · exact .inr ⟨rfl, .inl rfl⟩
        · exact .inl rfl
theorem rdNum_be {n k : Nat} (h : n < 256 ^ k) (s : List UInt8) (ok : Bool) : rdNum k (be n k ++ s, ok) = (n, (s, ok)) := by
  unfold rdNum
  rw [if_pos (by simp [be_len])]
  simp only
  rw [List.take_left' (be_len n k), List.drop_left' (be_len n k), vbe_be_lt h]
theorem rdPart_lay {b : List UInt8} (h : b.length < 65536) (s : List UInt8) (ok : Bool) : rdPart (layB b ++ s, ok) = (b, (s, ok)) := by
  unfold rdPart
  rw [layB, List.append_assoc, rdNum_be (by simpa using h)]
  simp only
  rw [if_neg (by simp), List.take_left' rfl, List.drop_left' rfl]
theorem rdPieces_bytes : ∀ (l : List PieceM) (s : List UInt8) (out : List PieceM), (∀ p ∈ l, rightPiece p = true) → rdPieces l.length (piecesBytes l ++ s, true) out = (out ++ l, (s, true))
  | [], s, out, _ => by simp [rdPieces, piecesBytes]
  | p :: l, s, out, h => by
    have hp := h p (by simp)
    have hl : (pieceBytes p).length < 65536 := by
      have hp2 := hp
      simp only [rightPiece, Bool.and_eq_true, decide_eq_true_eq] at hp2
      simp [pieceBytes, be_len]; omega
    have e : piecesBytes (p :: l) ++ s = layB (pieceBytes p) ++ (piecesBytes l ++ s) := by simp [piecesBytes]
    rw [List.length_cons, rdPieces, if_pos rfl, e, rdPart_lay hl]
    simp only [getPiece_bytes hp, decide_true, Bool.and_true]
    rw [rdPieces_bytes l s _ fun q hq => h q (by simp [hq])]
    simp
theorem rdHeld_bytes {h : HeldM} (hr : rightHeld h = true) (s : List UInt8) : rdHeld (heldBytes h ++ s, true) = (h, (s, true)) := by
  simp only [rightHeld, Bool.and_eq_true, decide_eq_true_eq, List.all_eq_true] at hr
  obtain ⟨h1, h2, h3, _⟩ := hr
  have hl : (bindBytes h.1).length < 65536 := by
    have hp2 := h1
    simp only [rightBind, Bool.and_eq_true, decide_eq_true_eq] at hp2
    simp [bindBytes, be_len]; omega
  unfold rdHeld
  rw [heldBytes, List.append_assoc, List.append_assoc, rdPart_lay hl]
  simp only [getBind_bytes h1, decide_true, Bool.and_true]
  rw [rdNum_be (by simp only [Nat.reducePow]; omega)]
  simp only
  rw [rdPieces_bytes h.2 s [] fun p hp => (h3 p hp).2]
  simp
theorem rdAll_bytes : ∀ (l : List HeldM) (s : List UInt8) (out : List HeldM), (∀ p ∈ l, rightHeld p = true) → rdAll l.length (heldsBytes l ++ s, true) out = (out ++ l, (s, true))
  | [], s, out, _ => by simp [rdAll, heldsBytes]
  | p :: l, s, out, h => by
    have e : heldsBytes (p :: l) ++ s = heldBytes p ++ (heldsBytes l ++ s) := by simp [heldsBytes]
    rw [List.length_cons, rdAll, if_pos rfl, e, rdHeld_bytes (h p (by simp))]
    rw [rdAll_bytes l s _ fun q hq => h q (by simp [hq])]
    simp
/-- What is laid is read again. -/
theorem getAll_bytes {l : List HeldM} (h : rightAll l = true) : getAll (sealB (allBytes l)) = (l, 0) := by
  have hr := h
  simp only [rightAll, Bool.and_eq_true, decide_eq_true_eq, List.all_eq_true] at hr
  obtain ⟨h1, h2, _⟩ := hr
  unfold getAll
  rw [open_seal]
  simp only [ne_eq, not_true_eq_false, if_false]
  rw [allBytes, rdNum_be (by simp only [Nat.reducePow]; omega)]
  simp only
  have := rdAll_bytes l [] [] h2
  rw [List.append_nil] at this
  rw [this]
  simp [h]
end Go.Sp
