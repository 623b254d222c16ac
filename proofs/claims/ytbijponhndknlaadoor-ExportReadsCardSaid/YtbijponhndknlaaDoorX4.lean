/-
  Plain functions: validators.
-/
import Derived.Test.YtbijponhndknlaaDoorX1
set_option linter.unusedVariables false
set_option linter.unusedSimpArgs false
namespace Go.Sp
def mayT (b : UInt8) : Bool := decide (128 ≤ b.toNat) || decide (b.toNat = 33) || (!decide (b.toNat = 127) && decide (35 ≤ b.toNat))
def plainT (s : List UInt8) : Bool := s.all mayT
def wkS : List UInt8 := [87, 47]
def isWk (s : List UInt8) : Bool := decide (2 ≤ s.length) && decide (s.take 2 = wkS)
def sansWk (s : List UInt8) : List UInt8 := if isWk s = true then s.drop 2 else s
def quotedT (s : List UInt8) : Bool := match s with
  | [] => false
  | b :: r => decide (2 ≤ s.length) && decide (b = 34) && decide (r.getLast? = some 34)
def inner (s : List UInt8) : List UInt8 := (s.take (s.length - 1)).drop 1
/-- A validator of a text, and the error's number. -/
def etagP (s : List UInt8) : (Bool × List UInt8) × Nat :=
  if quotedT (sansWk s) = false then ((false, []), 3) else if plainT (inner (sansWk s)) = false then ((false, []), 3) else if 40 < (inner (sansWk s)).length then ((false, []), 10) else ((isWk s, inner (sansWk s)), 0)
/-- Whether ranges count. -/
def useP (header tag : List UInt8) : Bool :=
  decide (trim header = []) || (decide ((etagP (trim header)).2 = 0) && (!(etagP (trim header)).1.1 && decide ((etagP (trim header)).1.2 = tag)))
theorem quotedT_eq {s : List UInt8} (h : 2 ≤ s.length) : quotedT s = (decide (s[0] = 34) && decide (s[s.length - 1] = 34)) := by
  match s, h with
  | b :: c :: r, h =>
    have e : (c :: r).getLast? = some ((b :: c :: r)[(b :: c :: r).length - 1]'(by simp)) := by
      rw [List.getLast?_eq_getElem?]
      simp
    simp only [quotedT, e]
    simp
theorem quotedT_short {s : List UInt8} (h : s.length < 2) : quotedT s = false := by
  match s, h with
  | [], _ => rfl
  | [b], _ => simp [quotedT]
theorem sansWk_len (s : List UInt8) : (sansWk s).length ≤ s.length := by
  unfold sansWk; split <;> simp
theorem inner_len (s : List UInt8) : (inner s).length ≤ s.length := by
  simp [inner]; omega
end Go.Sp
