/- Plain: the document's merging is the program's. -/
import Derived.Test.YtfglenbfbcckjaaGreatDoorX7
set_option linter.unusedVariables false
set_option linter.unusedSimpArgs false
namespace Go.Proofs.YtfglenbfbcckjaaGreatDoor
open Go.Sp
def posR (out : List N2) (s : N2) : Nat → Nat
  | 0 => 0
  | k + 1 => if s.1 < (out.getD k (0, 0)).1 then posR out s k else k + 1
def insN (out : List N2) (s : N2) : List N2 := out.take (posR out s out.length) ++ [s] ++ out.drop (posR out s out.length)
def isort (l : List N2) : List N2 := l.foldl (fun out s => if rightN s = true then insN out s else out) []
theorem posR_le (out : List N2) (s : N2) : ∀ k, posR out s k ≤ k
  | 0 => Nat.le_refl _
  | k + 1 => by
    rw [posR]; split
    · have := posR_le out s k; omega
    · omega
theorem insN_perm (out : List N2) (s : N2) : (insN out s).Perm (s :: out) := by
  unfold insN
  generalize posR out s out.length = p
  have h : (out.take p ++ [s] ++ out.drop p).Perm ([s] ++ out.take p ++ out.drop p) := List.Perm.append_right _ List.perm_append_comm
  refine h.trans ?_
  simp
theorem posR_spec (out : List N2) (s : N2) : ∀ k, k ≤ out.length → (∀ j, posR out s k ≤ j → j < k → s.1 < (out.getD j (0, 0)).1) ∧ (0 < posR out s k → (out.getD (posR out s k - 1) (0, 0)).1 ≤ s.1)
  | 0, _ => ⟨fun j h1 h2 => by omega, fun h => by simp [posR] at h⟩
  | k + 1, hk => by
    rw [posR]
    split
    · rename_i h
      obtain ⟨h1, h2⟩ := posR_spec out s k (by omega)
      refine ⟨fun j hj1 hj2 => ?_, h2⟩
      rcases Nat.lt_or_ge j k with hj | hj
      · exact h1 j hj1 hj
      · have : j = k := by omega
        subst this; exact h
    · rename_i h
      exact ⟨fun j h1 h2 => by omega, fun _ => by simp only [Nat.add_sub_cancel]; omega⟩
theorem insN_sorted (out : List N2) (s : N2) (h : out.Pairwise fun x y => x.1 ≤ y.1) : (insN out s).Pairwise fun x y => x.1 ≤ y.1 := by
  have hle := posR_le out s out.length
  obtain ⟨h1, h2⟩ := posR_spec out s out.length (Nat.le_refl _)
  unfold insN
  generalize posR out s out.length = p at *
  rw [List.pairwise_iff_getElem] at h
  have hg : ∀ j, (hj : j < out.length) → out.getD j (0, 0) = out[j] := fun j hj => by simp [hj]
  rw [List.append_assoc, List.pairwise_append]
  refine ⟨?_, ?_, ?_⟩
  · rw [List.pairwise_iff_getElem]
    intro i j hi hj hij
    simp only [List.length_take] at hi hj
    simpa using h i j (by omega) (by omega) hij
  · rw [List.singleton_append, List.pairwise_cons]
    refine ⟨fun y hy => ?_, ?_⟩
    · obtain ⟨i, hi, rfl⟩ := List.mem_iff_getElem.1 hy
      simp only [List.length_drop] at hi
      have := h1 (p + i) (by omega) (by omega)
      rw [hg _ (by omega)] at this
      simp only [List.getElem_drop]; omega
    · rw [List.pairwise_iff_getElem]
      intro i j hi hj hij
      simp only [List.length_drop] at hi hj
      simpa using h (p + i) (p + j) (by omega) (by omega) (by omega)
  · intro x hx y hy
    obtain ⟨i, hi, rfl⟩ := List.mem_iff_getElem.1 hx
    simp only [List.length_take] at hi
    simp only [List.getElem_take]
    have h3 := h2 (by omega)
    rw [hg _ (by omega)] at h3
    have h4 : out[i].1 ≤ out[p - 1].1 := by
      rcases Nat.lt_or_ge i (p - 1) with hlt | hge
      · exact h i (p - 1) (by omega) (by omega) hlt
      · have : i = p - 1 := by omega
        subst this; exact Nat.le_refl _
    rw [List.singleton_append] at hy
    rcases List.mem_cons.1 hy with rfl | hy
    · omega
    · obtain ⟨j, hj, rfl⟩ := List.mem_iff_getElem.1 hy
      simp only [List.length_drop] at hj
      simp only [List.getElem_drop]
      have := h1 (p + j) (by omega) (by omega)
      rw [hg _ (by omega)] at this
      omega
theorem isort_snoc (l : List N2) (s : N2) : isort (l ++ [s]) = if rightN s = true then insN (isort l) s else isort l := by simp [isort]
theorem isort_spec (l : List N2) : (isort l).Perm (l.filter fun x => rightN x) ∧ (isort l).Pairwise fun x y => x.1 ≤ y.1 := by
  suffices key : ∀ (l out acc : List N2), out.Perm acc → out.Pairwise (fun x y => x.1 ≤ y.1) → (l.foldl (fun out s => if rightN s = true then insN out s else out) out).Perm (acc ++ l.filter fun x => rightN x) ∧ (l.foldl (fun out s => if rightN s = true then insN out s else out) out).Pairwise fun x y => x.1 ≤ y.1 from by
    have := key l [] [] (.refl _) .nil
    simpa [isort] using this
  intro l
  induction l with
  | nil => intro out acc hp hs; exact ⟨by simpa using hp, hs⟩
  | cons s r ih =>
    intro out acc hp hs
    rw [List.foldl_cons, List.filter_cons]
    by_cases hr : rightN s = true
    · rw [if_pos hr, if_pos hr]
      obtain ⟨h1, h2⟩ := ih (insN out s) (acc ++ [s]) (((insN_perm out s).trans (List.Perm.cons _ hp)).trans (List.perm_append_comm (l₁ := [s]))) (insN_sorted out s hs)
      exact ⟨by simpa using h1, h2⟩
    · rw [if_neg hr, if_neg hr]
      exact ih out acc hp hs
theorem isort_right (l : List N2) : ∀ x ∈ isort l, rightN x = true := fun x hx => by
  have := (isort_spec l).1.mem_iff.1 hx
  simp at this; exact this.2
theorem isort_len (l : List N2) : (isort l).length ≤ l.length := by
  rw [(isort_spec l).1.length_eq]; exact List.length_filter_le _ _
/-- There is one form of what is covered. -/
theorem good_unique (m : Nat) : ∀ (a b : List N2), GoodN m a → GoodN m b → (∀ p : Int, a.any (inN p) = b.any (inN p)) → a = b
  | [], [], _, _, _ => rfl
  | [], y :: b, _, hb, h => by
    have h1 := hb.1 y (by simp)
    have := h y.1
    simp [inN] at this; omega
  | x :: a, [], ha, _, h => by
    have h1 := ha.1 x (by simp)
    have := h x.1
    simp [inN] at this; omega
  | x :: a, y :: b, ha, hb, h => by
    obtain ⟨ha1, ha2⟩ := ha
    obtain ⟨hb1, hb2⟩ := hb
    obtain ⟨ha3, ha4⟩ := List.pairwise_cons.1 ha2
    obtain ⟨hb3, hb4⟩ := List.pairwise_cons.1 hb2
    have hx := ha1 x (by simp)
    have hy := hb1 y (by simp)
    have hin : ∀ (p : Int) (z : N2), inN p z = true ↔ (z.1 : Int) ≤ p ∧ p < (z.2 : Int) := fun p z => by simp [inN]
    have mem : ∀ (p : Int), ((x.1 : Int) ≤ p ∧ p < (x.2 : Int) ∨ ∃ z ∈ a, (z.1 : Int) ≤ p ∧ p < (z.2 : Int)) ↔ ((y.1 : Int) ≤ p ∧ p < (y.2 : Int) ∨ ∃ z ∈ b, (z.1 : Int) ≤ p ∧ p < (z.2 : Int)) := fun p => by
      have := h p
      rw [Bool.eq_iff_iff] at this
      simpa only [List.any_cons, Bool.or_eq_true, List.any_eq_true, hin] using this
    have ea : ∀ z ∈ a, x.2 < z.1 ∧ z.1 < z.2 := fun z hz => ⟨ha3 z hz, (ha1 z (by simp [hz])).1⟩
    have eb : ∀ z ∈ b, y.2 < z.1 ∧ z.1 < z.2 := fun z hz => ⟨hb3 z hz, (hb1 z (by simp [hz])).1⟩
    have e1 : x.1 = y.1 := by
      have h1 := (mem x.1).1 (.inl ⟨Int.le_refl _, by omega⟩)
      have h2 := (mem y.1).2 (.inl ⟨Int.le_refl _, by omega⟩)
      have k1 : y.1 ≤ x.1 := by
        rcases h1 with h1 | ⟨z, hz, h1⟩
        · omega
        · have := eb z hz; omega
      have k2 : x.1 ≤ y.1 := by
        rcases h2 with h2 | ⟨z, hz, h2⟩
        · omega
        · have := ea z hz; omega
      omega
    have e2 : x.2 = y.2 := by
      rcases Nat.lt_trichotomy x.2 y.2 with hlt | he | hgt
      · have h2 := (mem x.2).2 (.inl ⟨by omega, by omega⟩)
        rcases h2 with h2 | ⟨z, hz, h2⟩
        · omega
        · have := ea z hz; omega
      · exact he
      · have h2 := (mem y.2).1 (.inl ⟨by omega, by omega⟩)
        rcases h2 with h2 | ⟨z, hz, h2⟩
        · omega
        · have := eb z hz; omega
    have exy : x = y := Prod.ext e1 e2
    subst exy
    refine congrArg (x :: ·) (good_unique m a b ⟨fun z hz => ha1 z (by simp [hz]), ha4⟩ ⟨fun z hz => hb1 z (by simp [hz]), hb4⟩ fun p => ?_)
    have := h p
    simp only [List.any_cons] at this
    by_cases hp : inN p x = true
    · have n1 : a.any (inN p) = false := by
        rw [List.any_eq_false]; intro z hz hz2
        have := ea z hz; rw [hin] at hp hz2; omega
      have n2 : b.any (inN p) = false := by
        rw [List.any_eq_false]; intro z hz hz2
        have := eb z hz; rw [hin] at hp hz2; omega
      rw [n1, n2]
    · have hp : inN p x = false := by simpa using hp
      simpa [hp] using this
/-- Any rising order of the same spans merges to the same. -/
theorem merge_any {l a b : List N2} (hr : ∀ x ∈ l, rightN x = true) (ha : a.Perm l) (hb : b.Perm l) (ha2 : a.Pairwise fun x y => x.1 ≤ y.1) (hb2 : b.Pairwise fun x y => x.1 ≤ y.1) : mergeL 0 a = mergeL 0 b := by
  have hbd : ∀ x ∈ l, x.1 < x.2 ∧ x.2 ≤ 4611686018427387903 := fun x hx => by have := hr x hx; simp [rightN] at this; exact this
  obtain ⟨g1, _, g2⟩ := merge_fold 4611686018427387903 a [] ⟨by simp, .nil⟩ (fun x hx => hbd x (ha.mem_iff.1 hx)) ha2 (by simp)
  obtain ⟨k1, _, k2⟩ := merge_fold 4611686018427387903 b [] ⟨by simp, .nil⟩ (fun x hx => hbd x (hb.mem_iff.1 hx)) hb2 (by simp)
  exact good_unique _ _ _ g1 k1 fun p => by rw [mergeL, mergeL, g2, k2, ha.any_eq, hb.any_eq]
def refMerge (l : List N2) : List N2 := mergeL 0 (isort l)
/-- The document's answer. -/
def refSpans (header cond tag : List UInt8) (n : Int) : Nat × List N2 :=
  if (specs header).1 = [] ∨ useP cond tag = false then (200, [])
  else if resolveI (specs header).1 n = [] then (416, [])
  else if clashB [] (resolveI (specs header).1 n) = true then (206, refMerge (resolveI (specs header).1 n)) else (206, resolveI (specs header).1 n)
theorem choice_ref {header cond tag : List UInt8} {n : Int} {status : Nat} {spans : List N2} (h : ChoiceP header cond tag n status spans) : (status, spans) = refSpans header cond tag n := by
  have hr := resolve_right (specs header).1 n
  unfold ChoiceP at h
  unfold refSpans
  generalize resolveI (specs header).1 n = rs at *
  by_cases h0 : (specs header).1 = [] ∨ useP cond tag = false
  · rw [if_pos h0] at h ⊢
    rw [h.1, h.2]
  rw [if_neg h0] at h ⊢
  by_cases h1 : rs = []
  · rw [if_pos h1] at h ⊢
    rw [h.1, h.2]
  rw [if_neg h1] at h ⊢
  obtain ⟨rfl, h⟩ := h
  by_cases h2 : clashB [] rs = true
  · rw [if_pos h2] at h ⊢
    obtain ⟨l', hp, hs, rfl⟩ := h
    obtain ⟨k1, k2⟩ := isort_spec rs
    have hf : rs.filter (fun x => rightN x) = rs := List.filter_eq_self.2 hr
    rw [hf] at k1
    rw [refMerge, merge_any hr hp k1 hs k2]
  · rw [if_neg h2] at h ⊢
    rw [h]
/-- The sum of lengths, to the greatest number at most. -/
def sumN (l : List N2) : Nat := l.foldl (fun n x => min maxNum (n + if rightN x = true then x.2 - x.1 else 0)) 0
theorem sumN_snoc (l : List N2) (x : N2) : sumN (l ++ [x]) = min maxNum (sumN l + if rightN x = true then x.2 - x.1 else 0) := by simp [sumN]
theorem sumN_le (l : List N2) : sumN l ≤ maxNum := by
  rcases snoc_cases l with rfl | ⟨r, x, rfl⟩
  · simp [sumN]
  · rw [sumN_snoc]; omega
theorem sumN_full : ∀ (r l : List N2), sumN l = maxNum → sumN (l ++ r) = maxNum
  | [], l, h => by simpa using h
  | x :: r, l, h => by
    have := sumN_full r (l ++ [x]) (by rw [sumN_snoc, h]; omega)
    simpa using this
def wantsN (status : Nat) (l : List N2) (n : Int) : List N2 := if status = 206 then l else if status = 200 ∧ 0 < n then [(0, n.toNat)] else []
end Go.Proofs.YtfglenbfbcckjaaGreatDoor
