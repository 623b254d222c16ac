/-
  Plain functions on bytes: numbers in decimal.
-/
import Derived.Test.YtfglenbfbcckjaaGreatDoorX1
set_option linter.unusedVariables false
set_option linter.unusedSimpArgs false
namespace Go.Sp
def isD (b : UInt8) : Bool := decide (48 ≤ b.toNat) && decide (b.toNat ≤ 57)
def val (s : List UInt8) : Nat := s.foldl (fun n b => 10 * n + (b.toNat - 48)) 0
def maxNum : Nat := 4611686018427387903
/-- A number of digits, and the error's number. -/
def pnum (s : List UInt8) : Nat × Nat :=
  if s ≠ [] ∧ s.all isD = true then (if val s ≤ maxNum then (val s, 0) else (0, 9)) else (0, 3)
theorem val_snoc (s : List UInt8) (b : UInt8) : val (s ++ [b]) = 10 * val s + (b.toNat - 48) := by simp [val]
theorem val_take {s : List UInt8} {n : Nat} (h : n < s.length) : val (s.take (n + 1)) = 10 * val (s.take n) + (s[n].toNat - 48) := by
  rw [take_succ s n h, val_snoc]
theorem val_foldl (s : List UInt8) (m : Nat) : s.foldl (fun n b => 10 * n + (b.toNat - 48)) m = m * 10 ^ s.length + val s := by
  induction s generalizing m with
  | nil => simp [val]
  | cons b r ih =>
    have e : val (b :: r) = (b.toNat - 48) * 10 ^ r.length + val r := by
      show r.foldl _ (10 * 0 + (b.toNat - 48)) = _
      rw [Nat.mul_zero, Nat.zero_add, ih]
    rw [List.foldl_cons, ih, e, List.length_cons, Nat.pow_succ, Nat.add_mul]
    have : 10 * m * 10 ^ r.length = m * (10 ^ r.length * 10) := by
      rw [Nat.mul_comm 10 m, Nat.mul_assoc, Nat.mul_comm 10]
    omega
theorem val_cons (b : UInt8) (s : List UInt8) : val (b :: s) = (b.toNat - 48) * 10 ^ s.length + val s := by
  have := val_foldl s (b.toNat - 48)
  simpa [val] using this
theorem val_lt {s : List UInt8} (h : s.all isD = true) : val s < 10 ^ s.length := by
  induction s with
  | nil => simp [val]
  | cons b r ih =>
    simp only [List.all_cons, Bool.and_eq_true] at h
    have h1 := ih h.2
    have h2 := h.1
    simp only [isD, Bool.and_eq_true, decide_eq_true_eq] at h2
    rw [val_cons, List.length_cons, Nat.pow_succ]
    have h3 : (b.toNat - 48) * 10 ^ r.length ≤ 9 * 10 ^ r.length := Nat.mul_le_mul_right _ (by omega)
    omega
/-- Digits without noughts ahead. -/
def bare (s : List UInt8) : List UInt8 := s.dropWhile fun b => b == 48
theorem val_bare (s : List UInt8) : val (bare s) = val s := by
  induction s with
  | nil => rfl
  | cons b r ih =>
    simp only [bare, List.dropWhile_cons]
    split
    · rename_i h
      have hb : b = 48 := by simpa using h
      subst hb
      rw [val_cons]
      simpa [bare] using ih
    · rfl
theorem bare_all {s : List UInt8} (h : s.all isD = true) : (bare s).all isD = true := by
  rw [List.all_eq_true] at h ⊢
  exact fun x hx => h x ((List.dropWhile_suffix _).subset hx)
theorem bare_head {s : List UInt8} {b : UInt8} {r : List UInt8} (h : bare s = b :: r) : b ≠ 48 := by
  induction s with
  | nil => simp [bare] at h
  | cons c t ih =>
    simp only [bare, List.dropWhile_cons] at h
    split at h
    · exact ih h
    · rename_i hc; cases h; simpa using hc
theorem val_ge {b : UInt8} {r : List UInt8} (hb : isD b = true) (h0 : b ≠ 48) : 10 ^ r.length ≤ val (b :: r) := by
  simp only [isD, Bool.and_eq_true, decide_eq_true_eq] at hb
  have h1 : b.toNat ≠ 48 := fun e => h0 (UInt8.toNat_inj.1 e)
  rw [val_cons]
  have : 1 * 10 ^ r.length ≤ (b.toNat - 48) * 10 ^ r.length := Nat.mul_le_mul_right _ (by omega)
  omega
/-- Digits of one length: in the order of bytes just where they are in that of numbers. -/
theorem less_val : ∀ {a b : List UInt8}, a.all isD = true → b.all isD = true → a.length = b.length → Op.bytesLess a b = decide (val a < val b)
  | [], [], _, _, _ => by simp [Op.bytesLess]
  | [], y :: b, _, _, h => by simp at h
  | x :: a, [], _, _, h => by simp at h
  | x :: a, y :: b, ha, hb, h => by
    simp only [List.all_cons, Bool.and_eq_true] at ha hb
    have h' : a.length = b.length := by simpa using h
    have hla := val_lt ha.2
    have hlb := val_lt hb.2
    have hx := ha.1
    have hy := hb.1
    simp only [isD, Bool.and_eq_true, decide_eq_true_eq] at hx hy
    have ih := less_val ha.2 hb.2 h'
    rw [val_cons, val_cons, h'] at *
    rw [Op.bytesLess]
    have hxy : x < y ↔ x.toNat < y.toNat := UInt8.lt_iff_toNat_lt
    rcases Nat.lt_trichotomy x.toNat y.toNat with h1 | h1 | h1
    · have e : x.toNat - 48 + 1 ≤ y.toNat - 48 := by omega
      have := Nat.mul_le_mul_right (10 ^ b.length) e
      rw [Nat.add_mul] at this
      have h2 : x < y := hxy.2 h1
      simp only [h2, decide_true, Bool.true_or]
      symm; rw [decide_eq_true_iff]; omega
    · have e : x = y := UInt8.toNat_inj.1 h1
      subst e
      simp [ih]
    · have e : y.toNat - 48 + 1 ≤ x.toNat - 48 := by omega
      have := Nat.mul_le_mul_right (10 ^ b.length) e
      rw [Nat.add_mul] at this
      have h2 : ¬ x < y := fun h => by rw [hxy] at h; omega
      have h3 : (x == y) = false := by rw [beq_eq_false_iff_ne]; rintro rfl; omega
      simp only [h2, h3, decide_false, Bool.false_and, Bool.or_self]
      symm; rw [decide_eq_false_iff_not]; omega
/-- Of digits, without noughts ahead: the longer is the greater. -/
theorem val_inj : ∀ {a b : List UInt8}, a.all isD = true → b.all isD = true → a.length = b.length → val a = val b → a = b
  | [], [], _, _, _, _ => rfl
  | [], y :: b, _, _, h, _ => by simp at h
  | x :: a, [], _, _, h, _ => by simp at h
  | x :: a, y :: b, ha, hb, h, hv => by
    simp only [List.all_cons, Bool.and_eq_true] at ha hb
    have h' : a.length = b.length := by simpa using h
    have hla := val_lt ha.2
    have hlb := val_lt hb.2
    have hx := ha.1
    have hy := hb.1
    simp only [isD, Bool.and_eq_true, decide_eq_true_eq] at hx hy
    rw [val_cons, val_cons, h'] at hv
    rw [h'] at hla
    have hxy : x.toNat = y.toNat := by
      rcases Nat.lt_trichotomy x.toNat y.toNat with h1 | h1 | h1
      · have e : x.toNat - 48 + 1 ≤ y.toNat - 48 := by omega
        have := Nat.mul_le_mul_right (10 ^ b.length) e
        rw [Nat.add_mul] at this
        omega
      · exact h1
      · have e : y.toNat - 48 + 1 ≤ x.toNat - 48 := by omega
        have := Nat.mul_le_mul_right (10 ^ b.length) e
        rw [Nat.add_mul] at this
        omega
    have e : x = y := UInt8.toNat_inj.1 hxy
    subst e
    rw [val_inj ha.2 hb.2 h' (by omega)]
theorem bare_less {a b : List UInt8} (ha : a.all isD = true) (hb : b.all isD = true) :
    (decide ((bare a).length < (bare b).length) || decide ((bare a).length = (bare b).length) && Op.bytesLess (bare a) (bare b)) = decide (val a < val b) := by
  rw [← val_bare a, ← val_bare b]
  have ha' := bare_all ha
  have hb' := bare_all hb
  rcases Nat.lt_trichotomy (bare a).length (bare b).length with h | h | h
  · have h1 := val_lt ha'
    cases hq : bare b with
    | nil => rw [hq] at h; simp at h
    | cons y r =>
      rw [hq] at hb' h
      simp only [List.all_cons, Bool.and_eq_true] at hb'
      have h2 := val_ge (r := r) hb'.1 (bare_head hq)
      have h3 : (10 : Nat) ^ (bare a).length ≤ 10 ^ r.length := Nat.pow_le_pow_right (by omega) (by simpa using Nat.lt_succ_iff.1 h)
      rw [decide_eq_true h, Bool.true_or]
      symm; rw [decide_eq_true_iff]; omega
  · simp [h, less_val ha' hb' h]
  · have h1 := val_lt hb'
    cases hq : bare a with
    | nil => rw [hq] at h; simp at h
    | cons y r =>
      rw [hq] at ha' h
      simp only [List.all_cons, Bool.and_eq_true] at ha'
      have h2 := val_ge (r := r) ha'.1 (bare_head hq)
      have h3 : (10 : Nat) ^ (bare b).length ≤ 10 ^ r.length := Nat.pow_le_pow_right (by omega) (by simpa using Nat.lt_succ_iff.1 h)
      have h4 : ¬ (y :: r).length < (bare b).length := by omega
      have h5 : ¬ (y :: r).length = (bare b).length := by omega
      simp only [h4, h5, decide_false, Bool.false_and, Bool.or_self]
      symm; rw [decide_eq_false_iff_not]; omega
theorem pnum_bad {s : List UInt8} {b : UInt8} (h : b ∈ s) (hb : isD b = false) : pnum s = (0, 3) := by
  have : s.all isD = false := by rw [List.all_eq_false]; exact ⟨b, h, by simp [hb]⟩
  simp [pnum, this]
theorem pnum_over {s : List UInt8} (h0 : s ≠ []) (h : s.all isD = true) (hv : maxNum < val s) : pnum s = (0, 9) := by
  rw [pnum, if_pos ⟨h0, h⟩, if_neg (by omega)]
theorem pnum_ok {s : List UInt8} (h0 : s ≠ []) (h : s.all isD = true) (hv : val s ≤ maxNum) : pnum s = (val s, 0) := by
  rw [pnum, if_pos ⟨h0, h⟩, if_pos hv]
theorem pnum_cases (s : List UInt8) : pnum s = (0, 3) ∨ (s ≠ [] ∧ s.all isD = true ∧ (val s ≤ maxNum ∧ pnum s = (val s, 0) ∨ maxNum < val s ∧ pnum s = (0, 9))) := by
  by_cases h : s ≠ [] ∧ s.all isD = true
  · refine .inr ⟨h.1, h.2, ?_⟩
    by_cases hv : val s ≤ maxNum
    · exact .inl ⟨hv, pnum_ok h.1 h.2 hv⟩
    · exact .inr ⟨by omega, pnum_over h.1 h.2 (by omega)⟩
  · exact .inl (by rw [pnum, if_neg h])
theorem val_append (a b : List UInt8) : val (a ++ b) = val a * 10 ^ b.length + val b := by
  rw [val, List.foldl_append, val_foldl]; rfl
theorem val_take_le (s : List UInt8) (k : Nat) : val (s.take k) ≤ val s := by
  have h := val_append (s.take k) (s.drop k)
  rw [List.take_append_drop] at h
  have h1 : val (s.take k) * 1 ≤ val (s.take k) * 10 ^ (s.drop k).length := Nat.mul_le_mul_left _ (Nat.pow_pos (by decide))
  omega
/-- The greatest number's digits. -/
def maxS : List UInt8 := [52, 54, 49, 49, 54, 56, 54, 48, 49, 56, 52, 50, 55, 51, 56, 55, 57, 48, 51]
theorem over_iff {t : List UInt8} (ht : t.all isD = true) (h0 : t.length = 1 ∨ ∃ b r, t = b :: r ∧ b ≠ 48) :
    (decide (19 < t.length) || (decide (t.length = 19) && !(Op.bytesLess t maxS || t == maxS))) = decide (maxNum < val t) := by
  have hm : maxS.all isD = true := by decide
  have hv : val maxS = maxNum := by decide
  have hl := val_lt ht
  rcases Nat.lt_trichotomy t.length 19 with h | h | h
  · have h1 : ¬ 19 < t.length := by omega
    have h2 : ¬ t.length = 19 := by omega
    have h3 : (10 : Nat) ^ t.length ≤ 10 ^ 18 := Nat.pow_le_pow_right (by omega) (by omega)
    simp only [h1, h2, decide_false, Bool.false_and, Bool.or_self]
    symm; rw [decide_eq_false_iff_not, maxNum]; omega
  · have h1 : ¬ 19 < t.length := by omega
    have h4 : t.length = maxS.length := by rw [h]; rfl
    rw [less_val ht hm h4, hv]
    simp only [h, Nat.lt_irrefl, decide_false, decide_true, Bool.false_or, Bool.true_and]
    by_cases hq : t = maxS
    · subst hq; simp [hv]
    · have h5 : (t == maxS) = false := by simpa using hq
      have h6 : val t ≠ val maxS := fun e => hq (val_inj ht hm h4 e)
      rw [hv] at h6
      rw [h5, Bool.or_false, Bool.eq_iff_iff]
      simp; omega
  · rcases h0 with h0 | ⟨b, r, rfl, hb⟩
    · omega
    · simp only [List.all_cons, Bool.and_eq_true] at ht
      have h2 := val_ge (r := r) ht.1 hb
      simp only [List.length_cons] at h
      have h3 : (10 : Nat) ^ 19 ≤ 10 ^ r.length := Nat.pow_le_pow_right (by omega) (by omega)
      have h4 : 19 < (b :: r).length := by simpa using h
      simp only [h4, decide_true, Bool.true_or]
      symm; rw [decide_eq_true_iff, maxNum]; omega
/-- A number in decimal. -/
def dec (n : Nat) : List UInt8 := if n < 10 then [UInt8.ofNat (48 + n)] else dec (n / 10) ++ [UInt8.ofNat (48 + n % 10)]
def decpre (n : Nat) : List UInt8 := if n < 10 then [] else dec (n / 10)
theorem dec_pre (n : Nat) : dec n = decpre n ++ [UInt8.ofNat (48 + n % 10)] := by
  unfold decpre
  split
  · rename_i h; rw [dec, if_pos h, Nat.mod_eq_of_lt h]; rfl
  · rename_i h; rw [dec, if_neg h]
theorem dec_ne (n : Nat) : dec n ≠ [] := by rw [dec_pre]; simp
theorem digit_isD (n : Nat) : isD (UInt8.ofNat (48 + n % 10)) = true := by
  simp only [isD, Bool.and_eq_true, decide_eq_true_eq, UInt8.toNat_ofNat']; omega
theorem dec_spec (n : Nat) : val (dec n) = n ∧ (dec n).all isD = true := by
  induction n using Nat.strongRecOn with
  | _ n ih =>
    have hd : (UInt8.ofNat (48 + n % 10)).toNat - 48 = n % 10 := by rw [UInt8.toNat_ofNat']; omega
    rw [dec_pre, val_snoc, List.all_append, hd]
    unfold decpre
    split
    · rename_i h
      refine ⟨by rw [show val [] = 0 from rfl]; omega, ?_⟩
      simp only [List.all_nil, List.all_cons, digit_isD, Bool.and_self]
    · rename_i h
      obtain ⟨h1, h2⟩ := ih (n / 10) (by omega)
      refine ⟨by rw [h1]; omega, ?_⟩
      simp only [h2, List.all_nil, List.all_cons, digit_isD, Bool.and_self]
theorem dec_len : ∀ (k n : Nat), 1 ≤ k → n < 10 ^ k → (dec n).length ≤ k
  | 0, n, h, _ => by omega
  | k + 1, n, _, hn => by
    rw [dec]
    split
    · simp
    · rename_i h
      rw [List.length_append, List.length_singleton]
      have hk : 1 ≤ k := by
        rcases Nat.eq_zero_or_pos k with rfl | h1
        · simp at hn; omega
        · exact h1
      rw [Nat.pow_succ] at hn
      have := dec_len k (n / 10) hk (by omega)
      omega
end Go.Sp
