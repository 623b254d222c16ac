/-
  Plain functions: numbers as bytes; sums of bytes.
-/
import Derived.WalkKit
set_option linter.unusedVariables false
set_option linter.unusedSimpArgs false
namespace Go.Sp
/-- The last k bytes of a number, the highest first. -/
def be (n : Nat) : Nat → List UInt8
  | 0 => []
  | k + 1 => UInt8.ofNat (n / 256 ^ k) :: be n k
def vbe (l : List UInt8) : Nat := l.foldl (fun n b => n * 256 + b.toNat) 0
theorem be_len (n : Nat) : ∀ k, (be n k).length = k
  | 0 => rfl
  | k + 1 => by simp [be, be_len n k]
theorem vbe_foldl (l : List UInt8) (m : Nat) : l.foldl (fun n b => n * 256 + b.toNat) m = m * 256 ^ l.length + vbe l := by
  induction l generalizing m with
  | nil => simp [vbe]
  | cons b r ih =>
    have e : vbe (b :: r) = b.toNat * 256 ^ r.length + vbe r := by
      show r.foldl _ (0 * 256 + b.toNat) = _
      rw [Nat.zero_mul, Nat.zero_add, ih]
    rw [List.foldl_cons, ih, e, List.length_cons, Nat.pow_succ, Nat.add_mul, Nat.mul_assoc, Nat.mul_comm 256 (256 ^ r.length)]
    omega
theorem vbe_cons (b : UInt8) (l : List UInt8) : vbe (b :: l) = b.toNat * 256 ^ l.length + vbe l := by
  have := vbe_foldl l b.toNat
  simpa [vbe] using this
theorem vbe_snoc (l : List UInt8) (b : UInt8) : vbe (l ++ [b]) = vbe l * 256 + b.toNat := by simp [vbe]
theorem vbe_lt (l : List UInt8) : vbe l < 256 ^ l.length := by
  induction l with
  | nil => simp [vbe]
  | cons b r ih =>
    rw [vbe_cons, List.length_cons, Nat.pow_succ]
    have h := b.toNat_lt
    have h2 : b.toNat * 256 ^ r.length ≤ 255 * 256 ^ r.length := Nat.mul_le_mul_right _ (by omega)
    omega
theorem vbe_be (n : Nat) : ∀ k, vbe (be n k) = n % 256 ^ k
  | 0 => by simp [be, vbe, Nat.mod_one]
  | k + 1 => by
    rw [be, vbe_cons, be_len, vbe_be n k, UInt8.toNat_ofNat']
    have h := Nat.mod_mul (x := n) (a := 256 ^ k) (b := 256)
    have hp : (256 : Nat) ^ (k + 1) = 256 ^ k * 256 := Nat.pow_succ ..
    rw [hp, h]
    simp only [Nat.reducePow]
    rw [Nat.mul_comm, Nat.add_comm]
theorem be_mod (n : Nat) : ∀ k j, k ≤ j → be (n % 256 ^ j) k = be n k
  | 0, _, _ => rfl
  | k + 1, j, h => by
    rw [be, be, be_mod n k j (by omega)]
    congr 1
    apply UInt8.toNat_inj.1
    rw [UInt8.toNat_ofNat', UInt8.toNat_ofNat']
    obtain ⟨m, rfl⟩ : ∃ m, j = k + 1 + m := ⟨j - (k + 1), by omega⟩
    have e : (256 : Nat) ^ (k + 1 + m) = 256 ^ k * (256 * 256 ^ m) := by rw [Nat.pow_add, Nat.pow_succ, Nat.mul_assoc]
    rw [e, Nat.mod_mul_right_div_self, Nat.mod_mul_right_mod]
theorem be_vbe : ∀ (l : List UInt8), be (vbe l) l.length = l
  | [] => rfl
  | b :: r => by
    have hlt := vbe_lt r
    have hp : 0 < 256 ^ r.length := Nat.pow_pos (by decide)
    have e1 : vbe (b :: r) / 256 ^ r.length = b.toNat := by
      rw [vbe_cons, Nat.mul_comm, Nat.mul_add_div hp, Nat.div_eq_of_lt hlt, Nat.add_zero]
    have e2 : be (vbe (b :: r)) r.length = r := by
      rw [← be_mod _ r.length r.length (Nat.le_refl _), vbe_cons, Nat.mul_comm, Nat.mul_add_mod, Nat.mod_eq_of_lt hlt, be_vbe r]
    rw [List.length_cons, be, e1, e2]
    congr 1
    apply UInt8.toNat_inj.1
    rw [UInt8.toNat_ofNat']
    exact Nat.mod_eq_of_lt b.toNat_lt
theorem vbe_be_lt {n k : Nat} (h : n < 256 ^ k) : vbe (be n k) = n := by rw [vbe_be, Nat.mod_eq_of_lt h]

/-! ### Sums -/
def poly : Nat := 3988292384
def crcStep (c : Nat) : Nat := if c % 2 = 1 then (c / 2) ^^^ poly else c / 2
def crcN : Nat → Nat → Nat
  | 0, c => c
  | k + 1, c => crcN k (crcStep c)
def crcNext (c b : Nat) : Nat := crcN 8 (c ^^^ b)
def crcMany (c : Nat) (l : List UInt8) : Nat := l.foldl (fun c b => crcNext c b.toNat) c
def crcSum (l : List UInt8) : Nat := crcMany 4294967295 l ^^^ 4294967295
theorem crcMany_snoc (c : Nat) (l : List UInt8) (b : UInt8) : crcMany c (l ++ [b]) = crcNext (crcMany c l) b.toNat := by simp [crcMany]
theorem crcMany_app (c : Nat) (a b : List UInt8) : crcMany c (a ++ b) = crcMany (crcMany c a) b := by simp [crcMany]
theorem crcStep_lt {c : Nat} (h : c < 4294967296) : crcStep c < 4294967296 := by
  unfold crcStep
  split
  · exact Nat.xor_lt_two_pow (n := 32) (by omega) (by decide)
  · omega
theorem crcN_lt : ∀ (k : Nat) {c : Nat}, c < 4294967296 → crcN k c < 4294967296
  | 0, _, h => h
  | k + 1, _, h => crcN_lt k (crcStep_lt h)
theorem crcNext_lt {c b : Nat} (h : c < 4294967296) (hb : b < 256) : crcNext c b < 4294967296 :=
  crcN_lt 8 (Nat.xor_lt_two_pow (n := 32) h (by omega))
theorem crcMany_lt (l : List UInt8) : ∀ {c : Nat}, c < 4294967296 → crcMany c l < 4294967296 := by
  induction l with
  | nil => intro c h; exact h
  | cons b r ih => intro c h; exact ih (crcNext_lt h b.toNat_lt)
theorem crcSum_lt (l : List UInt8) : crcSum l < 4294967296 := Nat.xor_lt_two_pow (n := 32) (crcMany_lt l (by decide)) (by decide)
theorem xor_top (a : Nat) (h : a < 2147483648) : 2147483648 ≤ a ^^^ poly := by
  have h1 : (a ^^^ poly).testBit 31 = true := by
    rw [Nat.testBit_xor, Nat.testBit_lt_two_pow (show a < 2 ^ 31 by omega)]
    decide
  have := Nat.ge_two_pow_of_testBit h1
  omega
theorem xor_cancel {a b p : Nat} (h : a ^^^ p = b ^^^ p) : a = b := by
  have := congrArg (· ^^^ p) h
  simpa [Nat.xor_assoc] using this
theorem xor_cancel_left {a b p : Nat} (h : p ^^^ a = p ^^^ b) : a = b := xor_cancel (p := p) (by rw [Nat.xor_comm a, Nat.xor_comm b]; exact h)
theorem crcStep_inj {a b : Nat} (ha : a < 4294967296) (hb : b < 4294967296) (h : crcStep a = crcStep b) : a = b := by
  unfold crcStep at h
  have ta := xor_top (a / 2) (by omega)
  have tb := xor_top (b / 2) (by omega)
  split at h <;> split at h
  · have := xor_cancel h; omega
  · omega
  · omega
  · omega
theorem crcN_inj : ∀ (k : Nat) {a b : Nat}, a < 4294967296 → b < 4294967296 → crcN k a = crcN k b → a = b
  | 0, _, _, _, _, h => h
  | k + 1, _, _, ha, hb, h => crcStep_inj ha hb (crcN_inj k (crcStep_lt ha) (crcStep_lt hb) h)
theorem crcNext_inj {a b x : Nat} (ha : a < 4294967296) (hb : b < 4294967296) (hx : x < 256) (h : crcNext a x = crcNext b x) : a = b :=
  xor_cancel (crcN_inj 8 (Nat.xor_lt_two_pow (n := 32) ha (by omega)) (Nat.xor_lt_two_pow (n := 32) hb (by omega)) h)
theorem crcNext_inj2 {a x y : Nat} (ha : a < 4294967296) (hx : x < 256) (hy : y < 256) (h : crcNext a x = crcNext a y) : x = y :=
  xor_cancel_left (crcN_inj 8 (Nat.xor_lt_two_pow (n := 32) ha (by omega)) (Nat.xor_lt_two_pow (n := 32) ha (by omega)) h)
theorem crcMany_inj (l : List UInt8) : ∀ {a b : Nat}, a < 4294967296 → b < 4294967296 → crcMany a l = crcMany b l → a = b := by
  induction l with
  | nil => intro a b _ _ h; exact h
  | cons x r ih => intro a b ha hb h; exact crcNext_inj ha hb x.toNat_lt (ih (crcNext_lt ha x.toNat_lt) (crcNext_lt hb x.toNat_lt) h)
/-- One byte that is another one changes the sum. -/
theorem crcSum_one {l : List UInt8} {i : Nat} (hi : i < l.length) {x : UInt8} (hx : l[i] ≠ x) : crcSum (l.set i x) ≠ crcSum l := by
  intro h
  have h := xor_cancel h
  have e1 : l.take i ++ (l[i] :: l.drop (i + 1)) = l := by rw [← List.drop_eq_getElem_cons hi, List.take_append_drop]
  have e2 : l.set i x = l.take i ++ (x :: l.drop (i + 1)) := by rw [List.set_eq_take_append_cons_drop, if_pos hi]
  have h' : crcMany 4294967295 (l.take i ++ (x :: l.drop (i + 1))) = crcMany 4294967295 (l.take i ++ (l[i] :: l.drop (i + 1))) := by rw [e1, ← e2]; exact h
  generalize l.take i = p at h'
  generalize l.drop (i + 1) = q at h'
  generalize l[i] = y at *
  have hc : crcMany 4294967295 p < 4294967296 := crcMany_lt p (by decide)
  rw [crcMany_app, crcMany_app] at h'
  generalize crcMany 4294967295 p = c at *
  have h2 := crcMany_inj q (a := crcNext c x.toNat) (b := crcNext c y.toNat) (crcNext_lt hc x.toNat_lt) (crcNext_lt hc y.toNat_lt) h'
  exact hx (UInt8.toNat_inj.1 (crcNext_inj2 hc x.toNat_lt y.toNat_lt h2)).symm
/-! ### The document's register -/
def refStep (c bit : Nat) : Nat := if (c % 2) ^^^ bit = 1 then (c / 2) ^^^ poly else c / 2
def refK (c b : Nat) : Nat → Nat
  | 0 => c
  | k + 1 => refStep (refK c b k) (b / 2 ^ k % 2)
def crcK (c : Nat) : Nat → Nat
  | 0 => c
  | k + 1 => crcStep (crcK c k)
theorem crcN_step : ∀ (k c : Nat), crcN k (crcStep c) = crcStep (crcN k c)
  | 0, _ => rfl
  | k + 1, c => crcN_step k (crcStep c)
theorem crcK_eq (c : Nat) : ∀ k, crcK c k = crcN k c
  | 0 => rfl
  | k + 1 => by rw [crcK, crcK_eq c k, crcN, crcN_step]
theorem xor_half (a b : Nat) : (a ^^^ b) / 2 = a / 2 ^^^ b / 2 := by
  apply Nat.eq_of_testBit_eq
  intro i
  simp only [Nat.testBit_xor, Nat.testBit_div_two]
theorem xor_odd (a b : Nat) : (a ^^^ b) % 2 = (a % 2) ^^^ (b % 2) := by
  have h := @Nat.xor_mod_two_eq_one a b
  have h2 := Nat.mod_two_eq_zero_or_one (a ^^^ b)
  rcases Nat.mod_two_eq_zero_or_one a with ha | ha <;> rcases Nat.mod_two_eq_zero_or_one b with hb | hb <;> rcases h2 with h2 | h2 <;> first | (simp [ha, hb, h2] at h; done) | simp [ha, hb, h2]
theorem refK_eq (c b : Nat) : ∀ k, crcK (c ^^^ b) k = refK c b k ^^^ (b / 2 ^ k)
  | 0 => by simp [crcK, refK]
  | k + 1 => by
    have hd : b / 2 ^ (k + 1) = b / 2 ^ k / 2 := by rw [Nat.pow_succ, Nat.div_div_eq_div_mul]
    rw [crcK, refK, refK_eq c b k, crcStep, refStep, xor_odd, xor_half, hd]
    split
    · rw [Nat.xor_assoc, Nat.xor_assoc, Nat.xor_comm (b / 2 ^ k / 2)]
    · rfl
theorem refNext_eq (c b : Nat) (hb : b < 256) : refK c b 8 = crcNext c b := by
  have h := refK_eq c b 8
  rw [crcK_eq] at h
  have h2 : b / 2 ^ 8 = 0 := Nat.div_eq_of_lt (by omega)
  rw [h2, Nat.xor_zero] at h
  exact h.symm
/-- A sum's bytes, the lowest first. -/
def le4 (n : Nat) : List UInt8 := [UInt8.ofNat n, UInt8.ofNat (n / 256), UInt8.ofNat (n / 65536), UInt8.ofNat (n / 16777216)]
theorem le4_inj {a b : Nat} (ha : a < 4294967296) (hb : b < 4294967296) (h : le4 a = le4 b) : a = b := by
  simp only [le4, List.cons.injEq, and_true] at h
  obtain ⟨h1, h2, h3, h4⟩ := h
  have g : ∀ {x y : Nat}, UInt8.ofNat x = UInt8.ofNat y → x % 256 = y % 256 := fun {x y} h => by
    have := congrArg UInt8.toNat h
    simpa [UInt8.toNat_ofNat'] using this
  have := g h1; have := g h2; have := g h3; have := g h4
  omega
def sealB (l : List UInt8) : List UInt8 := l ++ le4 (crcSum l)
/-- Bytes without their sum; the error's number. -/
def openB (b : List UInt8) : List UInt8 × Nat :=
  if b.length < 4 then ([], 3) else if le4 (crcSum (b.take (b.length - 4))) = b.drop (b.length - 4) then (b.take (b.length - 4), 0) else ([], 4)
theorem seal_len (l : List UInt8) : (sealB l).length = l.length + 4 := by simp [sealB, le4]
theorem open_seal (l : List UInt8) : openB (sealB l) = (l, 0) := by
  have h : (sealB l).length - 4 = l.length := by rw [seal_len]; omega
  unfold openB
  rw [if_neg (by rw [seal_len]; omega), h]
  simp [sealB]
theorem open_spec {b x : List UInt8} (h : openB b = (x, 0)) : b = sealB x := by
  unfold openB at h
  split at h
  · cases h
  split at h
  · rename_i h1
    cases h
    rw [sealB, h1, List.take_append_drop]
  · cases h
theorem open_one {l : List UInt8} {i : Nat} (hi : i < (sealB l).length) {x : UInt8} (hx : (sealB l)[i] ≠ x) : openB ((sealB l).set i x) = ([], 4) := by
  have hl := seal_len l
  have h4 : ((sealB l).set i x).length - 4 = l.length := by simp [hl]
  unfold openB
  rw [if_neg (by simp [hl]), h4]
  rw [if_neg]
  by_cases h : i < l.length
  · have e1 : ((sealB l).set i x).take l.length = l.set i x := by
      rw [sealB, List.set_append_left _ _ h, List.take_left' (by simp)]
    have e2 : ((sealB l).set i x).drop l.length = le4 (crcSum l) := by
      rw [sealB, List.set_append_left _ _ h, List.drop_left' (by simp)]
    have e3 : l[i] ≠ x := by
      intro e; apply hx; rw [← e]; simp only [sealB]; rw [List.getElem_append_left h]
    rw [e1, e2]
    intro e
    exact crcSum_one h e3 (le4_inj (crcSum_lt _) (crcSum_lt _) e)
  · have e1 : ((sealB l).set i x).take l.length = l := by
      rw [sealB, List.set_append_right _ _ (by omega), List.take_left' rfl]
    have e2 : ((sealB l).set i x).drop l.length = (le4 (crcSum l)).set (i - l.length) x := by
      rw [sealB, List.set_append_right _ _ (by omega), List.drop_left' rfl]
    rw [e1, e2]
    intro e
    apply hx
    have hlt : i - l.length < (le4 (crcSum l)).length := by simp only [le4, List.length_cons, List.length_nil]; omega
    have e3 : (sealB l)[i] = (le4 (crcSum l))[i - l.length] := by
      simp only [sealB]; rw [List.getElem_append_right (by omega)]
    rw [e3]
    have e4 : ((le4 (crcSum l)).set (i - l.length) x)[i - l.length]'(by simpa using hlt) = x := by simp
    rw [← e4]
    congr 1
end Go.Sp
