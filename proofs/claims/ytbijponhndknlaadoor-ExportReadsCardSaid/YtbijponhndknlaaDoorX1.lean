/-
  Plain functions on bytes: what layers 1 and 3 compute.
-/
import Derived.WalkKit
import Derived.Laws.Externs
set_option linter.unusedVariables false
set_option linter.unusedSimpArgs false
namespace Go.Sp

def isBl (b : UInt8) : Bool := b.toNat == 32 || b.toNat == 9
def trimR (s : List UInt8) : List UInt8 := (s.reverse.dropWhile isBl).reverse
def trimL (s : List UInt8) : List UInt8 := s.dropWhile isBl
def trim (s : List UInt8) : List UInt8 := trimL (trimR s)
theorem trimR_snoc (s : List UInt8) (b : UInt8) : trimR (s ++ [b]) = if isBl b then trimR s else s ++ [b] := by
  simp only [trimR, List.reverse_append, List.reverse_cons, List.reverse_nil, List.nil_append, List.singleton_append, List.dropWhile_cons]
  split <;> simp
theorem trimR_nil : trimR [] = [] := rfl
theorem take_succ {α : Type} (s : List α) (n : Nat) (h : n < s.length) : s.take (n + 1) = s.take n ++ [s[n]] := by
  rw [List.take_add_one, List.getElem?_eq_getElem h]; rfl
theorem trimR_take (s : List UInt8) (n : Nat) (h : n < s.length) : trimR (s.take (n + 1)) = if isBl s[n] then trimR (s.take n) else s.take (n + 1) := by
  rw [take_succ s n h, trimR_snoc]
theorem trimR_last (q : List UInt8) (h : 0 < q.length) : trimR q = if isBl (q[q.length - 1]'(by omega)) then trimR (q.take (q.length - 1)) else q := by
  have := trimR_take q (q.length - 1) (by omega)
  rw [Nat.sub_add_cancel h] at this
  simpa using this
theorem drop_cons {α : Type} (s : List α) (n : Nat) (h : n < s.length) : s.drop n = s[n] :: s.drop (n + 1) := List.drop_eq_getElem_cons h

/-- At the first byte of a kind. -/
def cut (s : List UInt8) (c : UInt8) : List UInt8 × List UInt8 × Bool :=
  match s with
  | [] => ([], [], false)
  | b :: r => if b = c then ([], r, true) else let (x, y, z) := cut r c; (b :: x, y, z)
theorem cut_spec (s : List UInt8) (c : UInt8) : (cut s c).2.2 = false ∧ c ∉ s ∧ (cut s c).1 = s ∧ (cut s c).2.1 = [] ∨ (cut s c).2.2 = true ∧ c ∉ (cut s c).1 ∧ s = (cut s c).1 ++ c :: (cut s c).2.1 := by
  induction s with
  | nil => simp [cut]
  | cons b r ih =>
    simp only [cut]
    split
    · rename_i h; subst h; right; simp
    · rename_i h
      rcases ih with ⟨h1, h2, h3, h4⟩ | ⟨h1, h2, h3⟩
      · left; simp [h1, h2, h3, h4]; exact fun e => h e.symm
      · right; refine ⟨h1, ?_, ?_⟩
        · simp [h2]; exact fun e => h e.symm
        · simp; exact h3
theorem cut_no {s : List UInt8} {c : UInt8} (h : c ∉ s) : cut s c = (s, [], false) := by
  induction s with
  | nil => rfl
  | cons b r ih =>
    simp only [List.mem_cons, not_or] at h
    simp only [cut, ih h.2]
    rw [if_neg (fun e => h.1 e.symm)]
theorem cut_at {x y : List UInt8} {c : UInt8} (h : c ∉ x) : cut (x ++ c :: y) c = (x, y, true) := by
  induction x with
  | nil => simp [cut]
  | cons b r ih =>
    simp only [List.mem_cons, not_or] at h
    simp only [List.cons_append, cut, ih h.2]
    rw [if_neg (fun e => h.1 e.symm)]
def lowb (b : UInt8) : UInt8 := if 65 ≤ b.toNat ∧ b.toNat ≤ 90 then UInt8.ofNat (b.toNat + 32) else b
theorem lowb_not {b : UInt8} (h : ¬ (65 ≤ (b.toNat : Int) ∧ (b.toNat : Int) ≤ 90)) : lowb b = b := by unfold lowb; rw [if_neg (by omega)]
theorem lowb_do {b : UInt8} (h : 65 ≤ (b.toNat : Int)) (h' : (b.toNat : Int) ≤ 90) : ((lowb b).toNat : Int) = b.toNat + 32 := by
  unfold lowb; rw [if_pos (by omega)]; rw [UInt8.toNat_ofNat']; omega
def lower (s : List UInt8) : List UInt8 := s.map lowb
/-- Where the first byte of a kind stands. -/
theorem cut_idx : ∀ (s : List UInt8) (c : UInt8), (∀ i, i < s.length → s[i]? ≠ some c) ∧ cut s c = (s, [], false) ∨ ∃ i, i < s.length ∧ s[i]? = some c ∧ (∀ j, j < i → s[j]? ≠ some c) ∧ cut s c = (s.take i, s.drop (i + 1), true)
  | [], c => .inl ⟨by simp, rfl⟩
  | b :: r, c => by
    by_cases h : b = c
    · subst h
      exact .inr ⟨0, by simp, by simp, by simp, by simp [cut]⟩
    · rcases cut_idx r c with ⟨h1, h2⟩ | ⟨i, h1, h2, h3, h4⟩
      · refine .inl ⟨fun i hi => ?_, by simp [cut, h, h2]⟩
        cases i with
        | zero => simpa using h
        | succ i => simpa using h1 i (by simpa using hi)
      · refine .inr ⟨i + 1, by simpa using h1, by simpa using h2, fun j hj => ?_, by simp [cut, h, h4]⟩
        cases j with
        | zero => simpa using h
        | succ j => simpa using h3 j (by omega)
/-- What the search for a byte yields. -/
theorem idx_cut (s : List UInt8) (c : UInt8) : firstIdx ⟨s.toArray⟩ c = -1 ∧ cut s c = (s, [], false) ∨ ∃ i, i < s.length ∧ firstIdx ⟨s.toArray⟩ c = (i : Int) ∧ cut s c = (s.take i, s.drop (i + 1), true) := by
  have hget : ∀ i, i < s.length → (⟨s.toArray⟩ : ByteArray)[i]! = s[i]! := fun i hi => by
    have h1 : i < (⟨s.toArray⟩ : ByteArray).size := by simpa [ByteArray.size] using hi
    rw [getElem!_pos _ i h1, getElem!_pos _ i hi]
    rfl
  have hsz : (⟨s.toArray⟩ : ByteArray).size = s.length := by simp [ByteArray.size]
  rcases cut_idx s c with ⟨h1, h2⟩ | ⟨i, h1, h2, h3, h4⟩
  · refine .inl ⟨?_, h2⟩
    have : (List.range s.length).find? (fun i => (⟨s.toArray⟩ : ByteArray)[i]! == c) = none := by
      rw [List.find?_eq_none]
      intro i hi hc
      have hi' := List.mem_range.1 hi
      rw [hget i hi', getElem!_pos _ i hi'] at hc
      exact h1 i hi' (by rw [List.getElem?_eq_getElem hi']; simpa using hc)
    simp [firstIdx, hsz, this]
  · refine .inr ⟨i, h1, ?_, h4⟩
    have : (List.range s.length).find? (fun i => (⟨s.toArray⟩ : ByteArray)[i]! == c) = some i := by
      rw [List.find?_range_eq_some]
      refine ⟨?_, List.mem_range.2 h1, fun j hj => ?_⟩
      · rw [hget i h1, getElem!_pos _ i h1]; rw [List.getElem?_eq_getElem h1] at h2; simpa using h2
      · have hj' : j < s.length := by omega
        have := h3 j hj
        rw [List.getElem?_eq_getElem hj'] at this
        rw [hget j hj', getElem!_pos _ j hj']
        simpa using this
    simp [firstIdx, hsz, this]
theorem cut_first {s : List UInt8} {c : UInt8} {n : Nat} (h : s[n]? = some c) (h' : ∀ j, j < n → s[j]? ≠ some c) : cut s c = (s.take n, s.drop (n + 1), true) := by
  rcases cut_idx s c with ⟨h1, h2⟩ | ⟨i, h1, h2, h3, h4⟩
  · exact absurd h (h1 n (by rw [List.getElem?_eq_some_iff] at h; exact h.1))
  · have : i = n := by
      rcases Nat.lt_trichotomy i n with h5 | h5 | h5
      · exact absurd h2 (h' i h5)
      · exact h5
      · exact absurd h (h3 n h5)
    rw [h4, this]
theorem cut_none {s : List UInt8} {c : UInt8} (h : ∀ j, j < s.length → s[j]? ≠ some c) : cut s c = (s, [], false) := by
  rcases cut_idx s c with ⟨h1, h2⟩ | ⟨i, h1, h2, h3, h4⟩
  · exact h2
  · exact absurd h2 (h i h1)
theorem cut_len (s : List UInt8) (c : UInt8) : (cut s c).1.length ≤ s.length ∧ (cut s c).2.1.length ≤ s.length := by
  rcases cut_idx s c with ⟨_, h⟩ | ⟨i, h1, _, _, h⟩
  · rw [h]; simp
  · rw [h]; simp; omega
theorem trimR_len (s : List UInt8) : (trimR s).length ≤ s.length := by
  simp only [trimR, List.length_reverse]
  have := (List.dropWhile_suffix isBl (l := s.reverse)).length_le
  simpa using this
theorem trimL_len (s : List UInt8) : (trimL s).length ≤ s.length := (List.dropWhile_suffix isBl).length_le
theorem trim_len (s : List UInt8) : (trim s).length ≤ s.length := Nat.le_trans (trimL_len _) (trimR_len _)
theorem lower_step {s r : List UInt8} {n : Nat} (h2 : r = (s.take n).map lowb ++ s.drop n) (hn : n < s.length) : r.set n (lowb s[n]) = (s.take (n + 1)).map lowb ++ s.drop (n + 1) := by
  have hl : ((s.take n).map lowb).length = n := by simp; omega
  rw [h2, List.set_append_right _ _ (by omega), hl, Nat.sub_self, drop_cons s n hn, List.set_cons_zero, take_succ s n hn]
  simp only [List.map_append, List.map_cons, List.map_nil, List.append_assoc, List.singleton_append]
/-- A text, cut at commas. -/
def pieces : List UInt8 → List (List UInt8)
  | [] => [[]]
  | b :: r => if b = 44 then [] :: pieces r else match pieces r with
    | [] => [[b]]
    | p :: ps => (b :: p) :: ps
theorem pieces_ne (s : List UInt8) : pieces s ≠ [] := by
  cases s with
  | nil => simp [pieces]
  | cons b r =>
    simp only [pieces]
    split
    · simp
    · split <;> simp
theorem pieces_cut (s : List UInt8) : pieces s = if (cut s 44).2.2 = true then (cut s 44).1 :: pieces (cut s 44).2.1 else [(cut s 44).1] := by
  induction s with
  | nil => simp [pieces, cut]
  | cons b r ih =>
    simp only [pieces, cut]
    by_cases h : b = 44
    · simp [h]
    · simp only [h, if_false]
      rw [ih]
      by_cases h2 : (cut r 44).2.2 = true
      · simp [h2]
      · simp [h2]
def headBl (p : List UInt8) : Bool := (p.head?.map isBl).getD false
def lastBl (p : List UInt8) : Bool := (p.getLast?.map isBl).getD false
theorem headBl_eq {p : List UInt8} (h : 0 < p.length) : headBl p = isBl p[0] := by
  cases p with
  | nil => simp at h
  | cons b r => rfl
theorem lastBl_eq {p : List UInt8} (h : 0 < p.length) : lastBl p = isBl p[p.length - 1] := by
  simp [lastBl, List.getLast?_eq_getElem?, List.getElem?_eq_getElem (show p.length - 1 < p.length by omega)]
/-- The elements of pieces; none: they are no list. -/
def lst (first : Bool) (out : List (List UInt8)) : List (List UInt8) → Option (List (List UInt8))
  | [] => some out
  | p :: r =>
    if trim p = [] then (if first = true ∧ r = [] ∧ p ≠ [] then none else lst false out r)
    else if first = true ∧ headBl p = true ∨ r = [] ∧ lastBl p = true then none else lst false (out ++ [trim p]) r
theorem trim_ne {p : List UInt8} (h : trim p ≠ []) : 0 < p.length := by
  cases p with
  | nil => exact absurd rfl h
  | cons b r => simp
theorem cut_less {s : List UInt8} {c : UInt8} (h : (cut s c).2.2 = true) : (cut s c).2.1.length + 1 ≤ s.length := by
  rcases cut_idx s c with ⟨_, h2⟩ | ⟨i, h1, _, _, h2⟩
  · rw [h2] at h; cases h
  · rw [h2]; simp; omega
def glue (dn : List (List UInt8)) (cur : List UInt8) : List (List UInt8) → List (List UInt8)
  | [] => dn ++ [cur]
  | h :: t => dn ++ (cur ++ h) :: t
theorem glue_start (s : List UInt8) : glue [] [] (pieces s) = pieces s := by
  cases h : pieces s with
  | nil => exact absurd h (pieces_ne s)
  | cons h t => simp [glue]
theorem glue_comma (dn : List (List UInt8)) (cur : List UInt8) (r : List UInt8) : glue dn cur (pieces (44 :: r)) = glue (dn ++ [cur]) [] (pieces r) := by
  simp only [pieces, if_true]
  cases h : pieces r with
  | nil => exact absurd h (pieces_ne r)
  | cons h t => simp [glue]
theorem glue_byte (dn : List (List UInt8)) (cur : List UInt8) {b : UInt8} (r : List UInt8) (hb : b ≠ 44) : glue dn cur (pieces (b :: r)) = glue dn (cur ++ [b]) (pieces r) := by
  simp only [pieces, if_neg hb]
  cases h : pieces r with
  | nil => exact absurd h (pieces_ne r)
  | cons h t => simp [glue]
theorem pieces_len : ∀ (s : List UInt8), (pieces s).length ≤ s.length + 1 ∧ ∀ p ∈ pieces s, p.length ≤ s.length
  | [] => by simp [pieces]
  | b :: r => by
    obtain ⟨h1, h2⟩ := pieces_len r
    simp only [pieces]
    split
    · refine ⟨by simp; omega, fun p hp => ?_⟩
      rcases List.mem_cons.1 hp with rfl | hp
      · simp
      · have := h2 p hp; simp; omega
    · split
      · simp
      · rename_i p ps he
        rw [he] at h1 h2
        refine ⟨by simp at h1 ⊢; omega, fun q hq => ?_⟩
        rcases List.mem_cons.1 hq with rfl | hq
        · have := h2 p (by simp); simp; omega
        · have := h2 q (by simp [hq]); simp; omega
theorem lower_take {s : List UInt8} {n : Nat} (hn : n < s.length) : lower (s.take n) ++ [lowb s[n]] = lower (s.take (n + 1)) := by
  rw [take_succ s n hn, lower, lower, List.map_append]; rfl
end Go.Sp
