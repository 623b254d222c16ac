/-
  Plain functions: the specs of a text that is printed; what is chosen of one spec.
-/
import Derived.Test.YtfglenbfbcckjaaDoorX5
set_option linter.unusedVariables false
set_option linter.unusedSimpArgs false
namespace Go.Sp
theorem isD_facts {b : UInt8} (h : isD b = true) : isBl b = false ∧ b ≠ 44 ∧ b ≠ 45 ∧ b ≠ 61 := by
  simp only [isD, Bool.and_eq_true, decide_eq_true_eq] at h
  refine ⟨?_, ?_, ?_, ?_⟩
  · simp only [isBl, Bool.or_eq_false_iff, beq_eq_false_iff_ne]; omega
  all_goals rintro rfl; revert h; decide
theorem trimL_id {s : List UInt8} (h : headBl s = false) : trimL s = s := by
  cases s with
  | nil => rfl
  | cons b r => simp only [headBl, List.head?_cons, Option.map_some, Option.getD_some] at h; simp [trimL, h]
theorem trimR_id {s : List UInt8} (h : lastBl s = false) : trimR s = s := by
  rcases snoc_cases s with rfl | ⟨r, b, rfl⟩
  · rfl
  · simp only [lastBl, List.getLast?_concat, Option.map_some, Option.getD_some] at h
    rw [trimR_snoc, h]; simp
theorem trim_id {s : List UInt8} (h : headBl s = false) (h2 : lastBl s = false) : trim s = s := by rw [trim, trimR_id h2, trimL_id h]
theorem last_dec (s : List UInt8) (n : Nat) : lastBl (s ++ dec n) = false := by
  rw [dec_pre, ← List.append_assoc]
  simp only [lastBl, List.getLast?_concat, Option.map_some, Option.getD_some]
  exact (isD_facts (digit_isD n)).1
theorem dec_mem {n : Nat} {b : UInt8} (h : b ∈ dec n) : isD b = true := List.all_eq_true.1 (dec_spec n).2 b h
theorem pieces_no {s : List UInt8} (h : (44 : UInt8) ∉ s) : pieces s = [s] := by rw [pieces_cut, cut_no h]; simp
def bytesEq : List UInt8 := [98, 121, 116, 101, 115, 61]
def shown (x : S3) : List UInt8 := if x.1 = 2 then dec x.2.1 ++ [45] ++ dec x.2.2 else [45] ++ dec x.2.1
theorem pnum_dec {n : Nat} (h : n ≤ maxNum) : pnum (dec n) = (n, 0) := by
  obtain ⟨h1, h2⟩ := dec_spec n
  rw [pnum, if_pos ⟨dec_ne n, h2⟩, h1, if_pos h]
/-- A field of one text. -/
theorem specs_one {s : List UInt8} {x : S3} (h0 : s ≠ []) (h1 : headBl s = false) (h2 : lastBl s = false) (h3 : (44 : UInt8) ∉ s) (h4 : one s = (x, 0)) : specs (bytesEq ++ s) = ([x], 0) := by
  have ht : trim (bytesEq ++ s) = bytesEq ++ s := trim_id rfl (by
    rcases snoc_cases s with rfl | ⟨r, b, rfl⟩
    · exact absurd rfl h0
    · rw [← List.append_assoc]; simp only [lastBl, List.getLast?_concat] at h2 ⊢; exact h2)
  have hc : cut (bytesEq ++ s) 61 = (bytesS, s, true) := cut_at (x := bytesS) (y := s) (c := 61) (by decide)
  have hl : lst true [] [s] = some [s] := by
    have ht2 := trim_id h1 h2
    simp [lst, ht2, h0, h1, h2]
  have hlow : lower bytesS = bytesS := by decide
  rw [specs, ht, hc]
  simp only [pieces_no h3, hl, hlow]
  simp [specs2, errs, vals, h4, worse]
theorem specs_both {a b : Nat} (hab : a ≤ b) (hb : b ≤ maxNum) : specs (bytesEq ++ shown (2, a, b)) = ([(2, a, b)], 0) := by
  have hd := dec_ne a
  have hd2 := dec_ne b
  obtain ⟨c, r, hcr⟩ := List.exists_cons_of_ne_nil hd
  have hc45 : ∀ x ∈ dec a, x ≠ 45 := fun x hx => (isD_facts (dec_mem hx)).2.2.1
  have e : shown (2, a, b) = dec a ++ 45 :: dec b := by simp [shown]
  rw [e]
  refine specs_one (by simp) ?_ ?_ ?_ ?_
  · have := (isD_facts (dec_mem (n := a) (b := c) (by rw [hcr]; simp))).1
    rw [hcr]; simpa [headBl] using this
  · have := last_dec (dec a ++ [45]) b
    simpa using this
  · intro hm
    rcases List.mem_append.1 hm with h | h
    · exact (isD_facts (dec_mem h)).2.1 rfl
    · rcases List.mem_cons.1 h with h | h
      · exact absurd h (by decide)
      · exact (isD_facts (dec_mem h)).2.1 rfl
  · have hcut : cut (dec a ++ 45 :: dec b) 45 = (dec a, dec b, true) := cut_at fun h => hc45 _ h rfl
    have hlt : ¬ b < a := by omega
    rw [one, hcut]
    simp [hd, hd2, both, pnum_dec (show a ≤ maxNum by omega), pnum_dec hb, worse, hlt]
theorem specs_last {a : Nat} (ha : a ≤ maxNum) : specs (bytesEq ++ shown (3, a, 0)) = ([(3, a, 0)], 0) := by
  have hd := dec_ne a
  have e : shown (3, a, 0) = 45 :: dec a := by simp [shown]
  rw [e]
  refine specs_one (by simp) rfl ?_ ?_ ?_
  · have := last_dec [45] a
    simpa using this
  · intro hm
    rcases List.mem_cons.1 hm with h | h
    · exact absurd h (by decide)
    · exact (isD_facts (dec_mem h)).2.1 rfl
  · have hcut : cut (45 :: dec a) 45 = ([], dec a, true) := cut_at (x := []) (by simp)
    rw [one, hcut]
    simp [single, pnum_dec ha]
end Go.Sp
