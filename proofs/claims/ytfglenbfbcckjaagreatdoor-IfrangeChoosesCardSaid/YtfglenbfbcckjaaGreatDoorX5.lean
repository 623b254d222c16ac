/-
  Plain functions: spans.
-/
import Derived.Test.YtfglenbfbcckjaaGreatDoorX3
set_option linter.unusedVariables false
set_option linter.unusedSimpArgs false
namespace Go.Sp
abbrev N2 := Nat × Nat
abbrev esn (x : N2) : List Value := [.int .i64 x.1, .int .i64 x.2]
def rightN (x : N2) : Bool := decide (x.1 < x.2) && decide (x.2 ≤ 4611686018427387903)
def rightS (x : S3) : Bool :=
  if x.1 = 2 then decide (x.2.1 ≤ x.2.2) && decide (x.2.2 ≤ 4611686018427387903) else if x.1 = 1 ∨ x.1 = 3 then decide (x.2.1 ≤ 4611686018427387903) && decide (x.2.2 = 0) else false
def oneN (x : S3) (n : Nat) : N2 := if x.1 = 1 then (x.2.1, n) else if x.1 = 2 then (x.2.1, min x.2.2 (n - 1) + 1) else (n - min x.2.1 n, n)
def addR (out : List N2) (n : Nat) (x : S3) : List N2 := if rightS x = true ∧ rightN (oneN x n) = true then out ++ [oneN x n] else out
/-- What specs mean of n bytes. -/
def resolveN (l : List S3) (n : Nat) : List N2 := l.foldl (fun out x => addR out n x) []
def resolveI (l : List S3) (n : Int) : List N2 := if 1 ≤ n ∧ n ≤ 4611686018427387903 then resolveN l n.toNat else []
theorem resolveN_snoc (l : List S3) (x : S3) (n : Nat) : resolveN (l ++ [x]) n = addR (resolveN l n) n x := by simp [resolveN]
theorem addR_len (out : List N2) (n : Nat) (x : S3) : (addR out n x).length ≤ out.length + 1 := by
  unfold addR; split <;> simp
theorem rightS_bd {x : S3} (h : rightS x = true) : x.2.1 ≤ 4611686018427387903 ∧ x.2.2 ≤ 4611686018427387903 := by
  unfold rightS at h
  split at h
  · simp at h; omega
  split at h
  · simp at h; omega
  · cases h
/-- Spans that come with rising beginnings, made one. -/
def mergeStep (gap : Nat) (out : List N2) (s : N2) : List N2 :=
  match out.getLast? with
  | none => out ++ [s]
  | some t => if (s.1 : Int) - t.2 ≤ gap then out.dropLast ++ [(t.1, max t.2 s.2)] else out ++ [s]
def mergeL (gap : Nat) (l : List N2) : List N2 := l.foldl (mergeStep gap) []
theorem mergeL_snoc (gap : Nat) (l : List N2) (s : N2) : mergeL gap (l ++ [s]) = mergeStep gap (mergeL gap l) s := by simp [mergeL]
theorem mergeStep_len (gap : Nat) (out : List N2) (s : N2) : (mergeStep gap out s).length ≤ out.length + 1 := by
  unfold mergeStep
  split
  · simp
  · split
    · simp
    · simp
theorem mergeStep_nil (gap : Nat) (s : N2) : mergeStep gap [] s = [s] := rfl
theorem mergeStep_in (gap : Nat) (out : List N2) (t s : N2) (h : (s.1 : Int) - t.2 ≤ gap) : mergeStep gap (out ++ [t]) s = out ++ [(t.1, max t.2 s.2)] := by
  simp [mergeStep, h]
theorem mergeStep_out (gap : Nat) (out : List N2) (t s : N2) (h : ¬ (s.1 : Int) - t.2 ≤ gap) : mergeStep gap (out ++ [t]) s = out ++ [t] ++ [s] := by
  simp [mergeStep, h]
theorem snoc_cases {α : Type} (l : List α) : l = [] ∨ ∃ r x, l = r ++ [x] := by
  rcases List.eq_nil_or_concat l with h | ⟨r, x, h⟩
  · exact .inl h
  · exact .inr ⟨r, x, by simpa using h⟩
theorem mergeL_bd {M : Nat} (gap : Nat) (l : List N2) (h : ∀ x ∈ l, x.2 ≤ M) : ∀ x ∈ mergeL gap l, x.2 ≤ M := by
  suffices key : ∀ (l : List N2) (out : List N2), (∀ x ∈ l, x.2 ≤ M) → (∀ x ∈ out, x.2 ≤ M) → ∀ x ∈ l.foldl (mergeStep gap) out, x.2 ≤ M from key l [] h (by simp)
  intro l
  induction l with
  | nil => intro out _ h; exact h
  | cons s r ih =>
    intro out hl ho
    refine ih _ (fun x hx => hl x (by simp [hx])) ?_
    have hs := hl s (by simp)
    rcases snoc_cases out with rfl | ⟨o, t, rfl⟩
    · intro x hx; rw [mergeStep_nil] at hx; simp at hx; subst hx; exact hs
    · have ht := ho t (by simp)
      by_cases hc : (s.1 : Int) - t.2 ≤ gap
      · rw [mergeStep_in _ _ _ _ hc]
        intro x hx
        rcases List.mem_append.1 hx with hx | hx
        · exact ho x (by simp [hx])
        · simp at hx; subst hx; simp only; omega
      · rw [mergeStep_out _ _ _ _ hc]
        intro x hx
        rcases List.mem_append.1 hx with hx | hx
        · exact ho x hx
        · simp at hx; subst hx; exact hs
theorem mergeL_len (gap : Nat) (l : List N2) : (mergeL gap l).length ≤ l.length := by
  suffices key : ∀ (l : List N2) (out : List N2), (l.foldl (mergeStep gap) out).length ≤ out.length + l.length from by
    have := key l []
    rw [mergeL]
    simpa using this
  intro l
  induction l with
  | nil => intro out; simp
  | cons s r ih => intro out; have := ih (mergeStep gap out s); have := mergeStep_len gap out s; simp only [List.foldl_cons, List.length_cons]; omega
end Go.Sp
