/-
  Plain functions: specs of a Range field.
-/
import Derived.Test.YtfglenbfbcckjaaGreatDoorX2
set_option linter.unusedVariables false
set_option linter.unusedSimpArgs false
namespace Go.Sp
abbrev S3 := Nat × Nat × Nat
def lessb (x y : List UInt8) : Bool := decide ((bare x).length < (bare y).length) || decide ((bare x).length = (bare y).length) && Op.bytesLess (bare x) (bare y)
def worse (a b : Nat) : Nat := if a = 3 ∨ b = 0 then a else if b = 3 ∨ a = 0 then b else a
def late (e : Nat) (a b : List UInt8) : Nat := if e = 9 ∧ lessb b a = true then 3 else e
def both (a b : List UInt8) : S3 × Nat :=
  if worse (pnum a).2 (pnum b).2 ≠ 0 then ((0, 0, 0), late (worse (pnum a).2 (pnum b).2) a b) else if (pnum b).1 < (pnum a).1 then ((0, 0, 0), 3) else ((2, (pnum a).1, (pnum b).1), 0)
def single (k : Nat) (s : List UInt8) : S3 × Nat := if (pnum s).2 ≠ 0 then ((0, 0, 0), (pnum s).2) else ((k, (pnum s).1, 0), 0)
/-- A spec of a text, and the error's number. -/
def one (s : List UInt8) : S3 × Nat :=
  if (cut s 45).2.2 = false then ((0, 0, 0), 3) else if (cut s 45).1 = [] then single 3 (cut s 45).2.1 else if (cut s 45).2.1 = [] then single 1 (cut s 45).1 else both (cut s 45).1 (cut s 45).2.1
theorem both_ref (a b : List UInt8) : both a b = if (pnum a).2 = 3 ∨ (pnum b).2 = 3 ∨ lessb b a = true then ((0, 0, 0), 3) else if (pnum a).2 ≠ 0 ∨ (pnum b).2 ≠ 0 then ((0, 0, 0), 9) else ((2, (pnum a).1, (pnum b).1), 0) := by
  rcases pnum_cases a with ha | ⟨a1, a2, ha⟩
  · simp [both, worse, late, ha]
  rcases pnum_cases b with hb | ⟨b1, b2, hb⟩
  · rcases ha with ⟨_, ha⟩ | ⟨_, ha⟩ <;> simp [both, worse, late, ha, hb]
  have hl : lessb b a = decide (val b < val a) := bare_less b2 a2
  rcases ha with ⟨h1, ha⟩ | ⟨h1, ha⟩ <;> rcases hb with ⟨h2, hb⟩ | ⟨h2, hb⟩
  · simp [both, worse, late, ha, hb, hl]
  · have : ¬ val b < val a := by omega
    simp [both, worse, late, ha, hb, hl, this]
  · have : val b < val a := by omega
    simp [both, worse, late, ha, hb, hl, this]
  · by_cases h : val b < val a <;> simp [both, worse, late, ha, hb, hl, h]
theorem pnum_err (s : List UInt8) : (pnum s).2 = 0 ∨ (pnum s).2 = 3 ∨ (pnum s).2 = 9 := by
  rcases pnum_cases s with h | ⟨_, _, ⟨_, h⟩ | ⟨_, h⟩⟩ <;> simp [h]
theorem one_err (s : List UInt8) : (one s).2 = 0 ∨ (one s).2 = 3 ∨ (one s).2 = 9 := by
  unfold one
  split
  · simp
  split
  · unfold single; split
    · exact pnum_err _
    · simp
  split
  · unfold single; split
    · exact pnum_err _
    · simp
  rw [both_ref]
  split
  · simp
  split <;> simp
/-- The worst of the errors. -/
def errs (l : List (List UInt8)) : Nat := l.foldl (fun e p => worse e (one p).2) 0
theorem errs_snoc (l : List (List UInt8)) (p : List UInt8) : errs (l ++ [p]) = worse (errs l) (one p).2 := by simp [errs]
theorem worse_cases {a b : Nat} (ha : a = 0 ∨ a = 3 ∨ a = 9) (hb : b = 0 ∨ b = 3 ∨ b = 9) : worse a b = 0 ∨ worse a b = 3 ∨ worse a b = 9 := by
  rcases ha with rfl | rfl | rfl <;> rcases hb with rfl | rfl | rfl <;> simp [worse]
theorem errs_cases (l : List (List UInt8)) : errs l = 0 ∨ errs l = 3 ∨ errs l = 9 := by
  suffices h : ∀ e, (e = 0 ∨ e = 3 ∨ e = 9) → (l.foldl (fun e p => worse e (one p).2) e = 0 ∨ l.foldl (fun e p => worse e (one p).2) e = 3 ∨ l.foldl (fun e p => worse e (one p).2) e = 9) from h 0 (.inl rfl)
  induction l with
  | nil => intro e h; exact h
  | cons p r ih => intro e h; exact ih _ (worse_cases h (one_err p))
theorem errs_three {l : List (List UInt8)} {p : List UInt8} (hp : p ∈ l) (h : (one p).2 = 3) : errs l = 3 := by
  have key : ∀ (l : List (List UInt8)), l.foldl (fun e p => worse e (one p).2) 3 = 3 := by
    intro l
    induction l with
    | nil => rfl
    | cons q r ih => simpa [worse] using ih
  suffices h2 : ∀ (l : List (List UInt8)) (e : Nat), (e = 0 ∨ e = 3 ∨ e = 9) → p ∈ l → l.foldl (fun e p => worse e (one p).2) e = 3 from h2 l 0 (.inl rfl) hp
  intro l
  induction l with
  | nil => intro e _ h; simp at h
  | cons q r ih =>
    intro e he hm
    rcases List.mem_cons.1 hm with rfl | hm
    · have : worse e 3 = 3 := by rcases he with rfl | rfl | rfl <;> simp [worse]
      simp only [List.foldl_cons, h, this, key]
    · exact ih _ (worse_cases he (one_err q)) hm
def bytesS : List UInt8 := [98, 121, 116, 101, 115]
def vals (l : List (List UInt8)) : List S3 := l.map fun p => (one p).1
def specs2 (l : List (List UInt8)) : List S3 × Nat := if errs l ≠ 0 then ([], errs l) else if 16 < l.length then ([], 10) else (vals l, 0)
/-- The specs of a field, and the error's number. -/
def specs (s : List UInt8) : List S3 × Nat :=
  match lst true [] (pieces (cut (trim s) 61).2.1) with
  | none => ([], 3)
  | some l => if (cut (trim s) 61).2.2 = false ∨ lower (cut (trim s) 61).1 ≠ bytesS ∨ l = [] then ([], 3) else specs2 l
abbrev esp (x : S3) : List Value := [.int .i64 x.1, .int .i64 x.2.1, .int .i64 x.2.2]
theorem vals_snoc (l : List (List UInt8)) (p : List UInt8) : vals (l ++ [p]) = vals l ++ [(one p).1] := by simp only [vals, List.map_append, List.map_cons, List.map_nil]
theorem vals_len (l : List (List UInt8)) : (vals l).length = l.length := by simp only [vals, List.length_map]
end Go.Sp
