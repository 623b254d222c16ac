/- Plain: what is told in parts is within the object, and no byte is told twice. -/
import Derived.Test.YtfglenbfbcckjaaGreatDoorWchoose
set_option linter.unusedVariables false
set_option linter.unusedSimpArgs false
namespace Go.Proofs.YtfglenbfbcckjaaGreatDoor
open Go.Sp
def inN (p : Int) (x : N2) : Bool := decide ((x.1 : Int) ≤ p) && decide (p < (x.2 : Int))
def hasN (l : List N2) (p : Int) : Bool := l.any fun x => rightN x && inN p x
def GoodN (m : Nat) (l : List N2) : Prop := (∀ x ∈ l, x.1 < x.2 ∧ x.2 ≤ m) ∧ l.Pairwise fun x y => x.2 < y.1
theorem merge_fold (m : Nat) : ∀ (r out : List N2), GoodN m out → (∀ x ∈ r, x.1 < x.2 ∧ x.2 ≤ m) → r.Pairwise (fun x y => x.1 ≤ y.1) → (∀ x ∈ out, ∀ y ∈ r, x.1 ≤ y.1) →
    GoodN m (r.foldl (mergeStep 0) out) ∧ (out ++ r ≠ [] → r.foldl (mergeStep 0) out ≠ []) ∧ ∀ p, (r.foldl (mergeStep 0) out).any (inN p) = (out.any (inN p) || r.any (inN p))
  | [], out, h, _, _, _ => ⟨h, by simp, fun p => by simp⟩
  | s :: r, out, h, hr, hs, ho => by
    obtain ⟨h1, h2⟩ := h
    have hs1 := hr s (by simp)
    obtain ⟨hs2, hs3⟩ := List.pairwise_cons.1 hs
    rw [List.foldl_cons]
    rcases snoc_cases out with rfl | ⟨o, t, rfl⟩
    · rw [mergeStep_nil]
      obtain ⟨k1, k2, k3⟩ := merge_fold m r [s] ⟨by simpa using hs1, by simp⟩ (fun x hx => hr x (by simp [hx])) hs3 (fun x hx y hy => by simp at hx; subst hx; exact hs2 y hy)
      exact ⟨k1, fun _ => k2 (by simp), fun p => by rw [k3]; simp⟩
    · have ht := h1 t (by simp)
      have hts : t.1 ≤ s.1 := ho t (by simp) s (by simp)
      have hot : ∀ x ∈ o, x.2 < t.1 := fun x hx => (List.pairwise_append.1 h2).2.2 x hx t (by simp)
      have hoo := (List.pairwise_append.1 h2).1
      by_cases hc : (s.1 : Int) - t.2 ≤ (0 : Nat)
      · rw [mergeStep_in 0 o t s hc]
        obtain ⟨k1, k2, k3⟩ := merge_fold m r (o ++ [(t.1, max t.2 s.2)]) ⟨fun x hx => by
            rcases List.mem_append.1 hx with hx | hx
            · exact h1 x (by simp [hx])
            · simp at hx; subst hx; simp only; omega, List.pairwise_append.2 ⟨hoo, by simp, fun x hx y hy => by simp at hy; subst hy; exact hot x hx⟩⟩ (fun x hx => hr x (by simp [hx])) hs3 (fun x hx y hy => by
            rcases List.mem_append.1 hx with hx | hx
            · exact ho x (by simp [hx]) y (by simp [hy])
            · simp at hx; subst hx; exact ho t (by simp) y (by simp [hy]))
        refine ⟨k1, fun _ => k2 (by simp), fun p => ?_⟩
        have e : inN p (t.1, max t.2 s.2) = (inN p t || inN p s) := by
          rw [Bool.eq_iff_iff]; simp [inN]; omega
        rw [k3]; simp [e, Bool.or_assoc]
      · rw [mergeStep_out 0 o t s hc]
        obtain ⟨k1, k2, k3⟩ := merge_fold m r (o ++ [t] ++ [s]) ⟨fun x hx => by
            rcases List.mem_append.1 hx with hx | hx
            · exact h1 x hx
            · simp at hx; subst hx; exact hs1, List.pairwise_append.2 ⟨h2, by simp, fun x hx y hy => by
              simp at hy; subst hy
              rcases List.mem_append.1 hx with hx | hx
              · have := hot x hx; omega
              · simp at hx; subst hx; omega⟩⟩ (fun x hx => hr x (by simp [hx])) hs3 (fun x hx y hy => by
            rcases List.mem_append.1 hx with hx | hx
            · exact ho x hx y (by simp [hy])
            · simp at hx; subst hx; exact hs2 y hy)
        exact ⟨k1, fun _ => k2 (by simp), fun p => by rw [k3]; simp [Bool.or_assoc]⟩
/-- Of disjoint ones at most one has a byte. -/
theorem count_one {l : List N2} (p : Int) (h : l.Pairwise fun x y => ¬ (inN p x = true ∧ inN p y = true)) : l.countP (inN p) ≤ 1 ∧ (l.countP (inN p) = 1 ↔ l.any (inN p) = true) := by
  induction l with
  | nil => simp
  | cons x l ih =>
    obtain ⟨h1, h2⟩ := List.pairwise_cons.1 h
    obtain ⟨i1, i2⟩ := ih h2
    rw [List.countP_cons, List.any_cons]
    by_cases hx : inN p x = true
    · have h0 : l.countP (inN p) = 0 := by
        rw [List.countP_eq_zero]
        intro y hy hy2
        exact h1 y hy ⟨hx, hy2⟩
      simp [hx, h0]
    · simp [hx]; exact ⟨i1, by simpa using i2⟩
theorem clash_apart : ∀ (l pre : List N2), clashB pre l = false → ∀ x ∈ l, (∀ y ∈ pre, meetB x y = false) ∧ True
  | [], _, _, x, hx => by simp at hx
  | a :: r, pre, h, x, hx => by
    simp only [clashB, Bool.or_eq_false_iff] at h
    refine ⟨fun y hy => ?_, trivial⟩
    rcases List.mem_cons.1 hx with rfl | hx
    · simpa using (List.any_eq_false.1 h.1 y hy)
    · exact (clash_apart r (pre ++ [a]) h.2 x hx).1 y (by simp [hy])
theorem clash_pw : ∀ (l pre : List N2), clashB pre l = false → l.Pairwise fun x y => meetB y x = false
  | [], _, _ => .nil
  | a :: r, pre, h => by
    simp only [clashB, Bool.or_eq_false_iff] at h
    exact List.pairwise_cons.2 ⟨fun y hy => (clash_apart r (pre ++ [a]) h.2 y hy).1 a (by simp), clash_pw r (pre ++ [a]) h.2⟩
theorem resolve_in (l : List S3) (n : Int) : ∀ x ∈ resolveI l n, x.1 < x.2 ∧ (x.2 : Int) ≤ n := by
  unfold resolveI
  split
  · rename_i hn
    suffices key : ∀ (l : List S3) (out : List N2), (∀ x ∈ out, x.1 < x.2 ∧ (x.2 : Int) ≤ n) → ∀ x ∈ l.foldl (fun out x => addR out n.toNat x) out, x.1 < x.2 ∧ (x.2 : Int) ≤ n from key l [] (by simp)
    intro l
    induction l with
    | nil => intro out h; exact h
    | cons s r ih =>
      intro out ho
      refine ih _ fun x hx => ?_
      simp only [addR] at hx
      split at hx
      · rename_i h
        rcases List.mem_append.1 hx with hx | hx
        · exact ho x hx
        · simp at hx; subst hx
          have h2 := h.2
          simp only [rightN, Bool.and_eq_true, decide_eq_true_eq] at h2
          refine ⟨h2.1, ?_⟩
          unfold oneN
          split
          · simp only; omega
          split
          · simp only; omega
          · simp only; omega
      · exact ho x hx
  · simp
theorem has_any {l : List N2} (h : ∀ x ∈ l, rightN x = true) (p : Int) : hasN l p = l.any (inN p) := by
  unfold hasN
  induction l with
  | nil => rfl
  | cons x l ih => simp only [List.any_cons, h x (by simp), Bool.true_and, ih fun y hy => h y (by simp [hy])]
theorem within_law {header cond tag : List UInt8} {n : Int} {status : Nat} {spans : List N2} (p : Int) (h : ChoiceP header cond tag n status spans) :
    (∀ x ∈ spans, x.1 < x.2 ∧ (x.2 : Int) ≤ n) ∧
      (status = 206 ∧ spans ≠ [] ∧ spans.countP (inN p) ≤ 1 ∧ (spans.countP (inN p) = 1 ↔ hasN (resolveI (specs header).1 n) p = true) ∨
        status = 416 ∧ spans = [] ∧ (specs header).1 ≠ [] ∧ hasN (resolveI (specs header).1 n) p = false ∨ status = 200 ∧ spans = []) := by
  have hin := resolve_in (specs header).1 n
  have hr := resolve_right (specs header).1 n
  rw [has_any hr]
  unfold ChoiceP at h
  generalize resolveI (specs header).1 n = rs at *
  split at h
  · obtain ⟨h1, rfl⟩ := h
    exact ⟨by simp, .inr (.inr ⟨h1, rfl⟩)⟩
  rename_i h0
  split at h
  · obtain ⟨h1, rfl⟩ := h
    rename_i h2; subst h2
    exact ⟨by simp, .inr (.inl ⟨h1, rfl, fun e => h0 (.inl e), by simp⟩)⟩
  rename_i hne
  obtain ⟨h1, h⟩ := h
  split at h
  · obtain ⟨l', hp, hs, rfl⟩ := h
    obtain ⟨⟨k1, k2⟩, k3, k4⟩ := merge_fold n.toNat l' [] ⟨by simp, .nil⟩ (fun x hx => by have := hin x (hp.mem_iff.1 hx); omega) hs (by simp)
    have hc := count_one (l := mergeL 0 l') p (k2.imp fun {x y} hxy hh => by simp [inN] at hh; omega)
    refine ⟨fun x hx => ?_, .inl ⟨h1, k3 ?_, hc.1, hc.2.trans ?_⟩⟩
    · have h3 := k1 x hx
      have h4 : ∃ y, y ∈ l' := by
        cases l' with
        | nil => simp [mergeL] at hx
        | cons y _ => exact ⟨y, by simp⟩
      obtain ⟨y, hy⟩ := h4
      have := hin y (hp.mem_iff.1 hy)
      omega
    · rintro e
      simp at e; subst e
      exact hne (by simpa using hp.symm)
    · rw [mergeL, k4 p]
      simp only [List.any_nil, Bool.false_or]
      rw [hp.any_eq]
  · subst h
    rename_i hcl
    have hcl : clashB [] spans = false := by simpa using hcl
    have hc := count_one (l := spans) p ((List.Pairwise.and_mem.1 (clash_pw spans [] hcl)).imp fun {x y} ⟨hx, hy, hxy⟩ hh => by
      have a1 := hr x hx
      have a2 := hr y hy
      simp [inN] at hh
      simp [rightN] at a1 a2
      simp [meetB, rightN] at hxy
      omega)
    exact ⟨hin, .inl ⟨h1, hne, hc.1, hc.2⟩⟩
end Go.Proofs.YtfglenbfbcckjaaGreatDoor
