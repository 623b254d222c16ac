/-
  The engine, part 3: what an operation yields that writes nothing.
-/
import Derived.Test.YtbijponhndknlaaDoorE2
import Derived.IntWalk
import Derived.Lib.Strings
import Derived.Lib.MinMax
set_option linter.unusedVariables false
set_option linter.unusedSimpArgs false
namespace Go.Sp
open Go.RowKit

/-! ### Facts on types, found by their numbers -/
def isAggD : TypeDesc → Bool
  | .struct _ | .array _ _ => true
  | _ => false
def tiB (P : Program) (t : Nat) (agg : Bool) (size : Nat) : Bool :=
  match P.underlying t, P.info? t with
  | some d, some i => Nat.beq i.size size && (match isAggD d, agg with | true, true => true | false, false => true | _, _ => false)
  | _, _ => false
class TI (P : Program) (t : Nat) (agg : outParam Bool) (size : outParam Nat) : Prop where
  ok : tiB P t agg size = true
def siB (P : Program) (t e size bytes : Nat) : Bool :=
  match P.underlying t, P.info? e with
  | some (.slice e'), some i => Nat.beq e' e && Nat.beq i.size size && Nat.beq i.bytes bytes
  | _, _ => false
class SI (P : Program) (t : Nat) (e size bytes : outParam Nat) : Prop where
  ok : siB P t e size bytes = true
def fiB (P : Program) (s i off ft fsz : Nat) : Bool :=
  match P.underlying s with
  | some (.struct fs) => match fs.toList[i]? with
    | some f => Nat.beq f.offset off && Nat.beq f.type ft && (match P.info? ft with | some j => Nat.beq j.size fsz && !(Nat.beq fsz 0) | none => false)
    | none => false
  | _ => false
class FI (P : Program) (s i : Nat) (off ft fsz : outParam Nat) : Prop where
  ok : fiB P s i off ft fsz = true
def aiB (P : Program) (t len e size : Nat) : Bool :=
  match P.underlying t, P.info? e with
  | some (.array n e'), some i => Nat.beq n len && Nat.beq e' e && Nat.beq i.size size
  | _, _ => false
class AI (P : Program) (t : Nat) (len e size : outParam Nat) : Prop where
  ok : aiB P t len e size = true
class ZI (P : Program) (t : Nat) (z : outParam Value) : Prop where
  ok : (P.info? t).bind (·.zero) = some z
def kiB (P : Program) (t : Nat) (k : IntKind) : Bool :=
  match P.underlying t with
  | some (.int k') => k' == k
  | _ => false
class KI (P : Program) (t : Nat) (k : outParam IntKind) : Prop where
  ok : kiB P t k = true
class StrI (P : Program) (t : Nat) : Prop where
  ok : (match P.underlying t with | some .string => true | _ => false) = true
class BoolI (P : Program) (t : Nat) : Prop where
  ok : (match P.underlying t with | some .bool => true | _ => false) = true
class NifI (P : Program) (t : Nat) : Prop where
  ok : (match P.underlying t with | some (.interface _) => false | some _ => true | none => false) = true
class IfI (P : Program) (t : Nat) : Prop where
  ok : (match P.underlying t with | some (.interface _) => true | _ => false) = true
def piB (P : Program) (t e : Nat) : Bool :=
  match P.underlying t with
  | some (.pointer e') => Nat.beq e' e
  | _ => false
class PI (P : Program) (t : Nat) (e : outParam Nat) : Prop where
  ok : piB P t e = true

theorem TI.parts {P : Program} {t : Nat} {agg : Bool} {size : Nat} (h : TI P t agg size) : ∃ d i, P.underlying t = some d ∧ P.info? t = some i ∧ i.size = size ∧ isAggD d = agg := by
  have := h.ok
  unfold tiB at this
  split at this
  · rename_i d i h1 h2
    simp only [Bool.and_eq_true] at this
    refine ⟨d, i, h1, h2, Nat.eq_of_beq_eq_true this.1, ?_⟩
    have h3 := this.2
    cases hd : isAggD d <;> cases agg <;> simp_all
  · cases this
theorem SI.parts {P : Program} {t e size bytes : Nat} (h : SI P t e size bytes) : ∃ i, P.underlying t = some (.slice e) ∧ P.info? e = some i ∧ i.size = size ∧ i.bytes = bytes := by
  have := h.ok
  unfold siB at this
  split at this
  · rename_i e' i h1 h2
    simp only [Bool.and_eq_true] at this
    have := Nat.eq_of_beq_eq_true this.1.1
    subst this
    exact ⟨i, h1, h2, by apply Nat.eq_of_beq_eq_true; simp_all, by apply Nat.eq_of_beq_eq_true; simp_all⟩
  · cases this
theorem FI.parts {P : Program} {s i off ft fsz : Nat} (h : FI P s i off ft fsz) : ∃ fs f j, P.underlying s = some (.struct fs) ∧ fs[i]? = some f ∧ f.offset = off ∧ f.type = ft ∧ P.info? ft = some j ∧ j.size = fsz ∧ fsz ≠ 0 := by
  have := h.ok
  unfold fiB at this
  split at this
  · rename_i fs h1
    split at this
    · rename_i f h2
      simp only [Bool.and_eq_true] at this
      obtain ⟨⟨h3, h4⟩, h5⟩ := this
      split at h5
      · rename_i j h6
        simp only [Bool.and_eq_true, Bool.not_eq_true'] at h5
        exact ⟨fs, f, j, h1, by simpa using h2, Nat.eq_of_beq_eq_true h3, Nat.eq_of_beq_eq_true h4, h6, Nat.eq_of_beq_eq_true h5.1, Nat.ne_of_beq_eq_false h5.2⟩
      · cases h5
    · cases this
  · cases this
theorem AI.parts {P : Program} {t len e size : Nat} (h : AI P t len e size) : ∃ i, P.underlying t = some (.array len e) ∧ P.info? e = some i ∧ i.size = size := by
  have := h.ok
  unfold aiB at this
  split at this
  · rename_i n e' i h1 h2
    simp only [Bool.and_eq_true] at this
    have e1 := Nat.eq_of_beq_eq_true this.1.1
    have e2 := Nat.eq_of_beq_eq_true this.1.2
    subst e1; subst e2
    exact ⟨i, h1, h2, Nat.eq_of_beq_eq_true this.2⟩
  · cases this
theorem KI.parts {P : Program} {t : Nat} {k : IntKind} (h : KI P t k) : P.underlying t = some (.int k) := by
  have := h.ok
  unfold kiB at this
  split at this
  · rename_i k' h1; rw [h1]; simp at this; rw [this]
  · cases this
theorem StrI.parts {P : Program} {t : Nat} (h : StrI P t) : P.underlying t = some .string := by
  have := h.ok
  split at this
  · assumption
  · cases this
theorem BoolI.parts {P : Program} {t : Nat} (h : BoolI P t) : P.underlying t = some .bool := by
  have := h.ok
  split at this
  · assumption
  · cases this
theorem PI.parts {P : Program} {t e : Nat} (h : PI P t e) : P.underlying t = some (.pointer e) := by
  have := h.ok
  unfold piB at this
  split at this
  · rename_i e' h1; have := Nat.eq_of_beq_eq_true this; subst this; exact h1
  · cases this

theorem arr_map {α β : Type} (f : α → β) (xs : Array α) : xs.map f = (xs.toList.map f).toArray := by cases xs; simp

/-! ### Values -/
/-- A string by its bytes. -/
abbrev st (l : List UInt8) : Value := .string ⟨l.toArray⟩
abbrev i64 (n : Int) : Value := .int .i64 n
abbrev u8 (b : UInt8) : Value := .int .u8 (b.toNat : Int)

/-- In every world of this kind the operation yields v, and leaves the world alone. -/
def Pr (P : Program) (σ : Stb) (L : List Res) (ρ : Env) (op : Op) (t : TypeId) (v : Value) : Prop :=
  ∀ n a w, Fits n ρ a → Inv σ L w → ∀ d p es g, (execOp a.eval ⟨d, op, t, p, es, g⟩).run P w = .ok (.value v) w

def nthO : List Oper → Nat → Option Oper
  | [], _ => none
  | o :: _, 0 => some o
  | _ :: l, i + 1 => nthO l i
/-- What a guard says: none: it cannot be told. -/
def gd (ops : List Oper) (ρ : Env) : Option (Nat × Bool) → Option Bool
  | none => some true
  | some (j, want) => match nthO ops j with
    | some o => match o.dst with
      | some d => match get ρ d with
        | some (.bool b) => match b, want with
          | true, true => some true
          | false, false => some true
          | true, false => some false
          | false, true => some false
        | some (.tuple _) => some false
        | _ => none
      | none => none
    | none => none

theorem nthO_eq : ∀ (l : List Oper) (i : Nat), nthO l i = l[i]?
  | [], i => by simp [nthO]
  | o :: l, 0 => by simp [nthO]
  | o :: l, i + 1 => by simp [nthO, nthO_eq l i]

theorem gd_wanted {n : Nat} {ops : List Oper} {ρ : Env} {a : Act} (ha : Fits n ρ a) {o : Oper} {b : Bool} (h : gd ops ρ o.guard = some b) :
    Region.wanted o (yielded ops.toArray a.tmps) = b := by
  unfold Region.wanted
  cases hg : o.guard with
  | none => rw [hg] at h; simp [gd] at h; simp [h]
  | some jw =>
    obtain ⟨j, want⟩ := jw
    rw [hg] at h
    simp only [gd] at h
    split at h
    · rename_i o' ho'
      split at h
      · rename_i d hd
        have hops : ops.toArray[j]? = some o' := by rw [nthO_eq] at ho'; simpa using ho'
        split at h
        · rename_i b' hb'
          have := ha.at_ d _ hb'
          simp only [yielded, hops, Option.bind_some, hd, this]
          cases b' <;> cases want <;> simp_all
        · rename_i hb'
          have := ha.at_ d _ hb'
          simp only [yielded, hops, Option.bind_some, hd, this]
          cases h
          cases want <;> rfl
        · cases h
      · cases h
    · cases h

section
variable {P : Program} {c : Cx} {k : List Kt} {σ : Stb} {L : List Res} {ρ : Env} {ops l : List Oper}

/-- An operation that yields a value. -/
theorem l_p {d : Nat} {op : Op} {t : TypeId} {p : String} {es : Array Edge} {g : Option (Nat × Bool)} {v : Value} (hg : gd ops ρ g = some true) (hd : Nat.blt d c.n = true) (hp : Pr P σ L ρ op t v)
    (h : Wl P c ops l k σ L ((d, v) :: ρ)) : Wl P c ops (⟨some d, op, t, p, es, g⟩ :: l) k σ L ρ := by
  intro w hI a ha
  simp only [wpList]
  rw [gd_wanted ha (o := ⟨some d, op, t, p, es, g⟩) hg]
  simp only [if_true]
  refine .inl ?_
  simp only [Oper.wp, hp c.n a w ha hI, Oper.upon]
  exact h w hI _ (ha.put d v hd)
theorem l_p0 {op : Op} {t : TypeId} {p : String} {es : Array Edge} {g : Option (Nat × Bool)} {v : Value} (hg : gd ops ρ g = some true) (hp : Pr P σ L ρ op t v)
    (h : Wl P c ops l k σ L ρ) : Wl P c ops (⟨none, op, t, p, es, g⟩ :: l) k σ L ρ := by
  intro w hI a ha
  simp only [wpList]
  rw [gd_wanted ha (o := ⟨none, op, t, p, es, g⟩) hg]
  simp only [if_true]
  refine .inl ?_
  simp only [Oper.wp, hp c.n a w ha hI, Oper.upon]
  exact h w hI _ ha
/-- An operation whose guard says no. -/
theorem l_skip {d : Nat} {op : Op} {t : TypeId} {p : String} {es : Array Edge} {g : Option (Nat × Bool)} (hg : gd ops ρ g = some false) (hd : Nat.blt d c.n = true)
    (h : Wl P c ops l k σ L ((d, undef) :: ρ)) : Wl P c ops (⟨some d, op, t, p, es, g⟩ :: l) k σ L ρ := by
  intro w hI a ha
  simp only [wpList]
  rw [gd_wanted ha (o := ⟨some d, op, t, p, es, g⟩) hg]
  exact h w hI _ (ha.put d undef hd)
theorem l_skip0 {op : Op} {t : TypeId} {p : String} {es : Array Edge} {g : Option (Nat × Bool)} (hg : gd ops ρ g = some false)
    (h : Wl P c ops l k σ L ρ) : Wl P c ops (⟨none, op, t, p, es, g⟩ :: l) k σ L ρ := by
  intro w hI a ha
  simp only [wpList]
  rw [gd_wanted ha (o := ⟨none, op, t, p, es, g⟩) hg]
  exact h w hI _ ha

theorem Wl.sub {ρ' : Env} (h : Wl P c ops l k σ L ρ') (hs : Sub ρ' ρ) : Wl P c ops l k σ L ρ := fun w hI a ha => h w hI a (ha.sub hs)

/-- A test is parted on: the slot d holds whether p. -/
theorem l_split (d : Nat) {p : Prop} {_ : Decidable p} (hv : get ρ d = some (.bool (decide p))) (ht : p → Wl P c ops l k σ L ((d, .bool true) :: ρ)) (hf : ¬ p → Wl P c ops l k σ L ((d, .bool false) :: ρ)) :
    Wl P c ops l k σ L ρ := by
  intro w hI a ha
  have key : ∀ b : Bool, a.tmps[d]? = some (.bool b) → Fits c.n ((d, .bool b) :: ρ) a := fun b hb =>
    ⟨ha.size, ha.defers, fun i v hi => by
      rw [get_cons] at hi
      split at hi
      · rename_i e; subst e; cases hi; exact hb
      · exact ha.at_ i v hi⟩
  have h0 := ha.at_ d _ hv
  by_cases h : p
  · exact ht h w hI a (key true (by simpa [h] using h0))
  · exact hf h w hI a (key false (by simpa [h] using h0))
theorem l_splitb (d : Nat) {b : Bool} (hv : get ρ d = some (.bool b)) (ht : b = true → Wl P c ops l k σ L ((d, .bool true) :: ρ)) (hf : b = false → Wl P c ops l k σ L ((d, .bool false) :: ρ)) :
    Wl P c ops l k σ L ρ := by
  intro w hI a ha
  have key : ∀ b : Bool, a.tmps[d]? = some (.bool b) → Fits c.n ((d, .bool b) :: ρ) a := fun b hb =>
    ⟨ha.size, ha.defers, fun i v hi => by
      rw [get_cons] at hi
      split at hi
      · rename_i e; subst e; cases hi; exact hb
      · exact ha.at_ i v hi⟩
  have h0 := ha.at_ d _ hv
  cases b with
  | true => exact ht rfl w hI a (key true h0)
  | false => exact hf rfl w hI a (key false h0)

/-! ### The rules -/
theorem p_move {x : Operand} {t : TypeId} {v : Value} (hx : ev ρ x = some v) : Pr P σ L ρ (.move x) t v := by
  intro n a w ha hI d p es g; simp only [execOp, ha.ev hx]; rfl
theorem p_assign {x : Operand} {t : TypeId} {v : Value} (hx : ev ρ x = some v) : Pr P σ L ρ (.assign x) t v := by
  intro n a w ha hI d p es g; simp only [execOp, ha.ev hx]; rfl
theorem p_pickt {x y z : Operand} {t : TypeId} {v : Value} (hx : ev ρ x = some (.bool true)) (hy : ev ρ y = some v) : Pr P σ L ρ (.pick x y z) t v := by
  intro n a w ha hI d p es g
  simp [execOp, ha.ev hx, ha.ev hy, asBool]
theorem p_pickf {x y z : Operand} {t : TypeId} {v : Value} (hx : ev ρ x = some (.bool false)) (hy : ev ρ z = some v) : Pr P σ L ρ (.pick x y z) t v := by
  intro n a w ha hI d p es g
  simp [execOp, ha.ev hx, ha.ev hy, asBool]
theorem p_ext {x : Operand} {i : Nat} {t : TypeId} {vs : List Value} {v : Value} (hx : ev ρ x = some (.tuple vs.toArray)) (hv : vs[i]? = some v) : Pr P σ L ρ (.extract x i) t v := by
  intro n a w ha hI d p es g
  simp [execOp, ha.ev hx, Instr.extract, hv]

theorem p_bin {bop : BinOp} {t t' u : TypeId} {x y : Operand} {vx vy v : Value} (hx : ev ρ x = some vx) (hy : ev ρ y = some vy)
    (hr : ∀ w, (eqGuard bop t x y vx vy).run P w = .ok () w ∧ (binOp bop t vx vy).run P w = .ok v w) : Pr P σ L ρ (.binOp bop t x y t') u v := by
  intro n a w ha hI d p es g
  obtain ⟨h1, h2⟩ := hr w
  simp [execOp, ha.ev hx, ha.ev hy, h1, h2, Sem.run_bind, Result.andThen]
theorem eqGuard_int {bop : BinOp} {t : TypeId} {x y : Operand} {j k : IntKind} {m n : Int} (w : World) : (eqGuard bop t x y (.int j m) (.int k n)).run P w = .ok () w := by
  unfold eqGuard; cases bop <;> simp
theorem eqGuard_str {bop : BinOp} {t : TypeId} {x y : Operand} {m n : ByteArray} (w : World) : (eqGuard bop t x y (.string m) (.string n)).run P w = .ok () w := by
  unfold eqGuard; cases bop <;> simp
theorem eqGuard_bool {bop : BinOp} {t : TypeId} {x y : Operand} {m n : Bool} (w : World) : (eqGuard bop t x y (.bool m) (.bool n)).run P w = .ok () w := by
  unfold eqGuard; cases bop <;> simp
theorem eqGuard_slice {bop : BinOp} {t : TypeId} {x y : Operand} {A B : Option Addr} {m n e f : Nat} (w : World) : (eqGuard bop t x y (.slice A m e) (.slice B n f)).run P w = .ok () w := by
  unfold eqGuard; cases bop <;> simp
theorem eqGuard_map {bop : BinOp} {t : TypeId} {x y : Operand} {A B : Option Nat} (w : World) : (eqGuard bop t x y (.map A) (.map B)).run P w = .ok () w := by
  unfold eqGuard; cases bop <;> simp
theorem eqGuard_ptr {bop : BinOp} {t : TypeId} {x y : Operand} {A B : Option Addr} (w : World) : (eqGuard bop t x y (.pointer A) (.pointer B)).run P w = .ok () w := by
  unfold eqGuard; cases bop <;> simp

theorem run_equalIn_bool (d : Nat) {t : TypeId} (p q : Bool) (h : P.underlying t = some .bool) (w : World) : (Op.equalIn (d + 1) t (.bool p) (.bool q)).run P w = .ok (p == q) w := by
  simp [Op.equalIn, run_underlying h]
theorem run_equalIn_slnil (d : Nat) {t e1 : TypeId} (A : Option Addr) (n e : Nat) (h : P.underlying t = some (.slice e1)) (w : World) : (Op.equalIn (d + 1) t (.slice A n e) (.slice none 0 0)).run P w = .ok A.isNone w := by
  cases A <;> simp [Op.equalIn, run_underlying h]

section
variable {t t' u : TypeId} {x y : Operand} {κ : IntKind} {m n : Int}
theorem p_add (hx : ev ρ x = some (.int .i64 m)) (hy : ev ρ y = some (.int .i64 n)) (h : -9223372036854775808 ≤ m + n ∧ m + n ≤ 9223372036854775807) : Pr P σ L ρ (.binOp .add t x y t') u (.int .i64 (m + n)) :=
  p_bin hx hy fun w => ⟨eqGuard_int w, by simp [binOp, Op.intArith, IntWalk.i64_in _ h]⟩
theorem p_sub (hx : ev ρ x = some (.int .i64 m)) (hy : ev ρ y = some (.int .i64 n)) (h : -9223372036854775808 ≤ m - n ∧ m - n ≤ 9223372036854775807) : Pr P σ L ρ (.binOp .sub t x y t') u (.int .i64 (m - n)) :=
  p_bin hx hy fun w => ⟨eqGuard_int w, by simp [binOp, Op.intArith, IntWalk.i64_in _ h]⟩
theorem p_mul (hx : ev ρ x = some (.int .i64 m)) (hy : ev ρ y = some (.int .i64 n)) (h : -9223372036854775808 ≤ m * n ∧ m * n ≤ 9223372036854775807) : Pr P σ L ρ (.binOp .mul t x y t') u (.int .i64 (m * n)) :=
  p_bin hx hy fun w => ⟨eqGuard_int w, by simp [binOp, Op.intArith, IntWalk.i64_in _ h]⟩
theorem p_addw (hx : ev ρ x = some (.int κ m)) (hy : ev ρ y = some (.int κ n)) : Pr P σ L ρ (.binOp .add t x y t') u (.int κ (κ.wrap (m + n))) :=
  p_bin hx hy fun w => ⟨eqGuard_int w, by simp [binOp, Op.intArith]⟩
theorem p_subw (hx : ev ρ x = some (.int κ m)) (hy : ev ρ y = some (.int κ n)) : Pr P σ L ρ (.binOp .sub t x y t') u (.int κ (κ.wrap (m - n))) :=
  p_bin hx hy fun w => ⟨eqGuard_int w, by simp [binOp, Op.intArith]⟩
theorem p_mulw (hx : ev ρ x = some (.int κ m)) (hy : ev ρ y = some (.int κ n)) : Pr P σ L ρ (.binOp .mul t x y t') u (.int κ (κ.wrap (m * n))) :=
  p_bin hx hy fun w => ⟨eqGuard_int w, by simp [binOp, Op.intArith]⟩
theorem p_lt (hx : ev ρ x = some (.int κ m)) (hy : ev ρ y = some (.int κ n)) : Pr P σ L ρ (.binOp .lss t x y t') u (.bool (decide (m < n))) :=
  p_bin hx hy fun w => ⟨eqGuard_int w, by simp [binOp, Op.intCmp]⟩
theorem p_le (hx : ev ρ x = some (.int κ m)) (hy : ev ρ y = some (.int κ n)) : Pr P σ L ρ (.binOp .leq t x y t') u (.bool (decide (m ≤ n))) :=
  p_bin hx hy fun w => ⟨eqGuard_int w, by simp [binOp, Op.intCmp]⟩
theorem p_gt (hx : ev ρ x = some (.int κ m)) (hy : ev ρ y = some (.int κ n)) : Pr P σ L ρ (.binOp .gtr t x y t') u (.bool (decide (n < m))) :=
  p_bin hx hy fun w => ⟨eqGuard_int w, by simp [binOp, Op.intCmp]⟩
theorem p_ge (hx : ev ρ x = some (.int κ m)) (hy : ev ρ y = some (.int κ n)) : Pr P σ L ρ (.binOp .geq t x y t') u (.bool (decide (n ≤ m))) :=
  p_bin hx hy fun w => ⟨eqGuard_int w, by simp [binOp, Op.intCmp]⟩
theorem p_eq (hx : ev ρ x = some (.int κ m)) (hy : ev ρ y = some (.int κ n)) : Pr P σ L ρ (.binOp .eql t x y t') u (.bool (decide (m = n))) :=
  p_bin hx hy fun w => ⟨eqGuard_int w, by simp only [binOp, Op.intCmp, ne_eq, not_true_eq_false, if_false, Sem.run_pure]; congr 2⟩
theorem p_ne (hx : ev ρ x = some (.int κ m)) (hy : ev ρ y = some (.int κ n)) : Pr P σ L ρ (.binOp .neq t x y t') u (.bool (decide (¬ m = n))) :=
  p_bin hx hy fun w => ⟨eqGuard_int w, by simp only [binOp, Op.intCmp, ne_eq, not_true_eq_false, if_false, Sem.run_pure]; congr 2; by_cases h : m = n <;> simp [h]⟩
theorem p_quo (hx : ev ρ x = some (.int .i64 m)) (hy : ev ρ y = some (.int .i64 n)) (h : 0 ≤ m ∧ m ≤ 9223372036854775807 ∧ 1 ≤ n) : Pr P σ L ρ (.binOp .quo t x y t') u (.int .i64 (m / n)) :=
  p_bin hx hy fun w => ⟨eqGuard_int w, by
    have : n ≠ 0 := by omega
    simp [binOp, Op.intDiv, this, IntWalk.i64_quo m n h]⟩
theorem p_rem (hx : ev ρ x = some (.int .i64 m)) (hy : ev ρ y = some (.int .i64 n)) (h : 0 ≤ m ∧ 1 ≤ n) : Pr P σ L ρ (.binOp .rem t x y t') u (.int .i64 (m % n)) :=
  p_bin hx hy fun w => ⟨eqGuard_int w, by
    have : n ≠ 0 := by omega
    simp [binOp, Op.intDiv, this, IntWalk.rem_in m n h.1]⟩
theorem p_quou (hx : ev ρ x = some (.int .u64 m)) (hy : ev ρ y = some (.int .u64 n)) (h : 0 ≤ m ∧ m ≤ 18446744073709551615 ∧ 1 ≤ n) : Pr P σ L ρ (.binOp .quo t x y t') u (.int .u64 (m / n)) :=
  p_bin hx hy fun w => ⟨eqGuard_int w, by
    have : n ≠ 0 := by omega
    simp [binOp, Op.intDiv, this, IntWalk.u64_quo m n h]⟩
theorem p_quo32 (hx : ev ρ x = some (.int .u32 m)) (hy : ev ρ y = some (.int .u32 n)) (h : 0 ≤ m ∧ m ≤ 4294967295 ∧ 1 ≤ n) : Pr P σ L ρ (.binOp .quo t x y t') u (.int .u32 (m / n)) :=
  p_bin hx hy fun w => ⟨eqGuard_int w, by
    have : n ≠ 0 := by omega
    simp [binOp, Op.intDiv, this, IntWalk.u32_quo m n h]⟩
theorem p_remk (hx : ev ρ x = some (.int κ m)) (hy : ev ρ y = some (.int κ n)) (h : 0 ≤ m ∧ 1 ≤ n) : Pr P σ L ρ (.binOp .rem t x y t') u (.int κ (m % n)) :=
  p_bin hx hy fun w => ⟨eqGuard_int w, by
    have : n ≠ 0 := by omega
    simp [binOp, Op.intDiv, this, IntWalk.rem_in m n h.1]⟩
theorem p_bits {bop : BinOp} (hb : bop = .and ∨ bop = .or ∨ bop = .xor ∨ bop = .andNot) (hx : ev ρ x = some (.int κ m)) (hy : ev ρ y = some (.int κ n)) {r : Int} (hr : ∀ w, (Op.intBits bop κ m n).run P w = .ok (.int κ r) w) :
    Pr P σ L ρ (.binOp bop t x y t') u (.int κ r) :=
  p_bin hx hy fun w => ⟨eqGuard_int w, by rcases hb with rfl | rfl | rfl | rfl <;> simp [binOp, hr]⟩
theorem p_shl {κ' : IntKind} (hx : ev ρ x = some (.int κ m)) (hy : ev ρ y = some (.int κ' n)) (h : 0 ≤ n ∧ n ≤ κ.bits) : Pr P σ L ρ (.binOp .shl t x y t') u (.int κ (κ.wrap (m * 2 ^ n.toNat))) :=
  p_bin hx hy fun w => ⟨eqGuard_int w, by
    have h1 : ¬ n < 0 := by omega
    have h2 : min n.toNat κ.bits = n.toNat := by omega
    simp [binOp, Op.shift, h1, h2]⟩
theorem p_shr {κ' : IntKind} (hx : ev ρ x = some (.int κ m)) (hy : ev ρ y = some (.int κ' n)) (h : 0 ≤ n ∧ n ≤ κ.bits) : Pr P σ L ρ (.binOp .shr t x y t') u (.int κ (m / 2 ^ n.toNat)) :=
  p_bin hx hy fun w => ⟨eqGuard_int w, by
    have h1 : ¬ n < 0 := by omega
    have h2 : min n.toNat κ.bits = n.toNat := by omega
    simp only [binOp, Op.shift, h1, h2, if_false, Sem.run_pure]
    rw [Int.fdiv_eq_ediv_of_nonneg _ (Int.le_of_lt (Int.pow_pos (by decide)))]⟩
end

theorem p_shrn {t t' u : TypeId} {x y : Operand} {κ κ' : IntKind} {q : Nat} {n : Int} (s : Nat) (hx : ev ρ x = some (.int κ (q : Int))) (hy : ev ρ y = some (.int κ' n)) (hn : n = (s : Int)) (h : s ≤ κ.bits) : Pr P σ L ρ (.binOp .shr t x y t') u (.int κ ((q / 2 ^ s : Nat) : Int)) := by
  subst hn
  have := p_shr (P := P) (σ := σ) (L := L) (t := t) (t' := t') (u := u) hx hy ⟨by omega, by omega⟩
  rw [Int.toNat_natCast] at this
  rwa [Int.natCast_ediv, Int.natCast_pow]
theorem p_convb {t t' u : TypeId} {x : Operand} {κ : IntKind} {q : Nat} [hs : KI P t κ] [hd : KI P t' .u8] (hx : ev ρ x = some (.int κ (q : Int))) : Pr P σ L ρ (.convert t t' x) u (u8 (UInt8.ofNat q)) := by
  intro n a w ha hI d pp es g
  simp [execOp, ha.ev hx, convert, run_underlying hs.parts, run_underlying hd.parts, Conv.intToInt, IntKind.wrap_u8]

section
variable {t t' u : TypeId} {x y : Operand} {a b : List UInt8}
theorem p_cat (hx : ev ρ x = some (st a)) (hy : ev ρ y = some (st b)) (h : a.length + b.length ≤ 9223372036854775807) : Pr P σ L ρ (.binOp .add t x y t') u (st (a ++ b)) :=
  p_bin hx hy fun w => ⟨eqGuard_str w, by
    have := run_string_add_sum (P := P) (w := w) ⟨a.toArray⟩ ⟨b.toArray⟩ (by simpa [ByteArray.size] using h)
    rw [binOp_string_add, this, ByteArray.mk_append_mk]⟩
theorem p_seq (hx : ev ρ x = some (st a)) (hy : ev ρ y = some (st b)) : Pr P σ L ρ (.binOp .eql t x y t') u (.bool (decide (a = b))) :=
  p_bin hx hy fun w => ⟨eqGuard_str w, by
    rw [binOp_string_eql, ByteArray.toList_mk, ByteArray.toList_mk, Sem.run_pure]; congr 2; by_cases h : a = b <;> simp [h]⟩
theorem p_sne (hx : ev ρ x = some (st a)) (hy : ev ρ y = some (st b)) : Pr P σ L ρ (.binOp .neq t x y t') u (.bool (decide (¬ a = b))) :=
  p_bin hx hy fun w => ⟨eqGuard_str w, by
    rw [binOp_string_neq, ByteArray.toList_mk, ByteArray.toList_mk, Sem.run_pure]; congr 2; by_cases h : a = b <;> simp [h]⟩
theorem p_slt (hx : ev ρ x = some (st a)) (hy : ev ρ y = some (st b)) : Pr P σ L ρ (.binOp .lss t x y t') u (.bool (Op.bytesLess a b)) :=
  p_bin hx hy fun w => ⟨eqGuard_str w, by
    rw [binOp_string_lss, ByteArray.toList_mk, ByteArray.toList_mk, Sem.run_pure]⟩
theorem p_sgt (hx : ev ρ x = some (st a)) (hy : ev ρ y = some (st b)) : Pr P σ L ρ (.binOp .gtr t x y t') u (.bool (!(Op.bytesLess a b || a == b))) :=
  p_bin hx hy fun w => ⟨eqGuard_str w, by simp [binOp, Op.stringOp]⟩
theorem p_beq {p q : Bool} [hb : BoolI P t] (hx : ev ρ x = some (.bool p)) (hy : ev ρ y = some (.bool q)) : Pr P σ L ρ (.binOp .eql t x y t') u (.bool (p == q)) :=
  p_bin hx hy fun w => ⟨eqGuard_bool w, by simp [binOp, Op.equal, Op.maxDepth, run_equalIn_bool 9999 p q hb.parts]⟩
theorem p_bne {p q : Bool} [hb : BoolI P t] (hx : ev ρ x = some (.bool p)) (hy : ev ρ y = some (.bool q)) : Pr P σ L ρ (.binOp .neq t x y t') u (.bool (p != q)) :=
  p_bin hx hy fun w => ⟨eqGuard_bool w, by simp [binOp, Op.equal, Op.maxDepth, run_equalIn_bool 9999 p q hb.parts]; (cases p <;> cases q <;> rfl)⟩
theorem p_slnil {A : Option Addr} {n e e1 s1 b1 : Nat} [hs : SI P t e1 s1 b1] (hx : ev ρ x = some (.slice A n e)) (hy : ev ρ y = some (.slice none 0 0)) : Pr P σ L ρ (.binOp .eql t x y t') u (.bool A.isNone) :=
  p_bin hx hy fun w => ⟨eqGuard_slice w, by
    obtain ⟨i, h1, _⟩ := hs.parts
    simp [binOp, Op.equal, Op.maxDepth, run_equalIn_slnil 9999 A n e h1]; try (cases A <;> rfl)⟩
theorem p_slnnil {A : Option Addr} {n e e1 s1 b1 : Nat} [hs : SI P t e1 s1 b1] (hx : ev ρ x = some (.slice A n e)) (hy : ev ρ y = some (.slice none 0 0)) : Pr P σ L ρ (.binOp .neq t x y t') u (.bool A.isSome) :=
  p_bin hx hy fun w => ⟨eqGuard_slice w, by
    obtain ⟨i, h1, _⟩ := hs.parts
    simp [binOp, Op.equal, Op.maxDepth, run_equalIn_slnil 9999 A n e h1]; try (cases A <;> rfl)⟩
end

section
variable {t u : TypeId} {x y : Operand}
theorem p_notd {p : Prop} {_ : Decidable p} (hx : ev ρ x = some (.bool (decide p))) : Pr P σ L ρ (.unOp .not t x) u (.bool (decide (¬ p))) := by
  intro n a w ha hI d pp es g
  simp [execOp, ha.ev hx, Op.unary]
theorem p_not {b : Bool} (hx : ev ρ x = some (.bool b)) : Pr P σ L ρ (.unOp .not t x) u (.bool (!b)) := by
  intro n a w ha hI d pp es g
  simp [execOp, ha.ev hx, Op.unary]
theorem p_nott (hx : ev ρ x = some (.bool true)) : Pr P σ L ρ (.unOp .not t x) u (.bool false) := p_not hx
theorem p_notf (hx : ev ρ x = some (.bool false)) : Pr P σ L ρ (.unOp .not t x) u (.bool true) := p_not hx
theorem p_neg {m : Int} (hx : ev ρ x = some (.int .i64 m)) (h : -9223372036854775807 ≤ m ∧ m ≤ 9223372036854775807) : Pr P σ L ρ (.unOp .neg t x) u (.int .i64 (-m)) := by
  intro n a w ha hI d pp es g
  simp [execOp, ha.ev hx, Op.unary, Op.intArith, IntWalk.i64_in (-m) (by omega)]
theorem p_negw {κ : IntKind} {m : Int} (hx : ev ρ x = some (.int κ m)) : Pr P σ L ρ (.unOp .neg t x) u (.int κ (κ.wrap (0 - m))) := by
  intro n a w ha hI d pp es g
  simp [execOp, ha.ev hx, Op.unary, Op.intArith]
theorem p_conv {κ κ' : IntKind} {m : Int} {t' : TypeId} [hs : KI P t κ'] [hd : KI P t' κ] (hx : ev ρ x = some (.int κ' m)) : Pr P σ L ρ (.convert t t' x) u (.int κ (κ.wrap m)) := by
  intro n a w ha hI d pp es g
  simp [execOp, ha.ev hx, convert, run_underlying hs.parts, run_underlying hd.parts, Conv.intToInt]
theorem p_conv64 {κ' : IntKind} {m : Int} {t' : TypeId} [hs : KI P t κ'] [hd : KI P t' .i64] (hx : ev ρ x = some (.int κ' m)) (h : -9223372036854775808 ≤ m ∧ m ≤ 9223372036854775807) : Pr P σ L ρ (.convert t t' x) u (.int .i64 m) := by
  have := p_conv (P := P) (σ := σ) (L := L) (ρ := ρ) (u := u) (t := t) (t' := t') hx
  rwa [IntWalk.i64_in m h] at this
theorem p_convu64 {κ' : IntKind} {m : Int} {t' : TypeId} [hs : KI P t κ'] [hd : KI P t' .u64] (hx : ev ρ x = some (.int κ' m)) (h : 0 ≤ m ∧ m ≤ 18446744073709551615) : Pr P σ L ρ (.convert t t' x) u (.int .u64 m) := by
  have := p_conv (P := P) (σ := σ) (L := L) (ρ := ρ) (u := u) (t := t) (t' := t') hx
  rwa [IntWalk.u64_in m h] at this
theorem p_convu32 {κ' : IntKind} {m : Int} {t' : TypeId} [hs : KI P t κ'] [hd : KI P t' .u32] (hx : ev ρ x = some (.int κ' m)) (h : 0 ≤ m ∧ m ≤ 4294967295) : Pr P σ L ρ (.convert t t' x) u (.int .u32 m) := by
  have := p_conv (P := P) (σ := σ) (L := L) (ρ := ρ) (u := u) (t := t) (t' := t') hx
  rwa [IntWalk.u32_in m h] at this
theorem p_convss {a : List UInt8} {t' : TypeId} [hs : StrI P t] [hd : StrI P t'] (hx : ev ρ x = some (st a)) : Pr P σ L ρ (.convert t t' x) u (st a) := by
  intro n b w ha hI d pp es g
  simp [execOp, ha.ev hx, convert, run_underlying hs.parts, run_underlying hd.parts]
theorem p_iface {v : Value} [hs : NifI P t] (hx : ev ρ x = some v) : Pr P σ L ρ (.makeInterface t x) u (.iface t v) := by
  intro n a w ha hI d pp es g
  have := hs.ok
  split at this
  · cases this
  · rename_i dd hne h
    simp only [execOp, ha.ev hx, Instr.makeInterface, Sem.run_bind, run_underlying h, Result.andThen]
    cases dd <;> first | rfl | exact absurd h (hne _)
  · cases this
theorem p_mkfn {fn : Go.Fn} {xs ys : Array Operand} {vs us : List Value} (hx : evs ρ xs.toList = some vs) (hy : evs ρ ys.toList = some us) : Pr P σ L ρ (.makeFunc fn xs ys) u (.func fn vs.toArray us.toArray) := by
  intro n a w ha hI d pp es g
  have e1 : xs.map a.eval = vs.toArray := by rw [← ha.evs hx, arr_map]
  have e2 : ys.map a.eval = us.toArray := by rw [← ha.evs hy, arr_map]
  simp [execOp, e1, e2, Instr.makeFunc]
theorem p_ncp {A : Addr} (hx : ev ρ x = some (.pointer (some A))) : Pr P σ L ρ (.nilCheck x) u (.pointer (some A)) := by
  intro n a w ha hI d pp es g
  simp [execOp, ha.ev hx]
theorem p_ncf {f : Nat} {xs ys : Array Value} (hx : ev ρ x = some (.func (.func f) xs ys)) : Pr P σ L ρ (.nilCheck x) u (.func (.func f) xs ys) := by
  intro n a w ha hI d pp es g
  simp [execOp, ha.ev hx]
theorem p_nci {t1 : TypeId} {v : Value} (hx : ev ρ x = some (.iface t1 v)) : Pr P σ L ρ (.nilCheck x) u (.iface t1 v) := by
  intro n a w ha hI d pp es g
  simp [execOp, ha.ev hx]

/-! builtins -/
theorem p_lens {a : List UInt8} [hs : StrI P t] (hx : ev ρ x = some (st a)) : Pr P σ L ρ (.call ⟨.builtin .len, #[x], #[t]⟩) u (.int .i64 a.length) := by
  intro n b w ha hI d pp es g
  simp [execOp, resolve, invoke, builtin, ha.ev hx, run_len_string w t u _ hs.parts, goInt, Lib.size_eq]
theorem p_lensl {A : Option Addr} {m e e1 s1 b1 : Nat} [hs : SI P t e1 s1 b1] (hx : ev ρ x = some (.slice A m e)) : Pr P σ L ρ (.call ⟨.builtin .len, #[x], #[t]⟩) u (.int .i64 m) := by
  intro n b w ha hI d pp es g
  obtain ⟨i, h1, _⟩ := hs.parts
  simp [execOp, resolve, invoke, builtin, ha.ev hx, Builtin.len_, run_underlying h1, goInt]
theorem p_capsl {A : Option Addr} {m e e1 s1 b1 : Nat} [hs : SI P t e1 s1 b1] (hx : ev ρ x = some (.slice A m e)) : Pr P σ L ρ (.call ⟨.builtin .cap, #[x], #[t]⟩) u (.int .i64 e) := by
  intro n b w ha hI d pp es g
  obtain ⟨i, h1, _⟩ := hs.parts
  simp [execOp, resolve, invoke, builtin, ha.ev hx, Builtin.cap_, run_underlying h1, goInt]
theorem p_max {κ : IntKind} {m n : Int} {ts : Array TypeId} (hx : ev ρ x = some (.int κ m)) (hy : ev ρ y = some (.int κ n)) : Pr P σ L ρ (.call ⟨.builtin .max, #[x, y], ts⟩) u (.int κ (max m n)) := by
  intro n' b w ha hI d pp es g
  simp [execOp, resolve, invoke, builtin, ha.ev hx, ha.ev hy, Lib.run_max_ints]
theorem p_min {κ : IntKind} {m n : Int} {ts : Array TypeId} (hx : ev ρ x = some (.int κ m)) (hy : ev ρ y = some (.int κ n)) : Pr P σ L ρ (.call ⟨.builtin .min, #[x, y], ts⟩) u (.int κ (min m n)) := by
  intro n' b w ha hI d pp es g
  simp [execOp, resolve, invoke, builtin, ha.ev hx, ha.ev hy, Lib.run_min_ints]

/-! strings, by index and by slice -/
theorem p_six {a : List UInt8} {κ : IntKind} (i : Nat) [hs : StrI P t] (hx : ev ρ x = some (st a)) {m : Int} (hy : ev ρ y = some (.int κ m)) (hm : m = (i : Int)) (hi : i < a.length) : Pr P σ L ρ (.index t x y) u (u8 a[i]) := by
  intro n b w ha hI d pp es g
  subst hm
  have h2 : (0 : Int) ≤ i ∧ (i : Int) < (⟨a.toArray⟩ : ByteArray).size := ⟨by omega, by rw [Lib.size_eq]; simpa using hi⟩
  have h3 := run_index_string (P := P) w t ⟨a.toArray⟩ κ (i : Int) hs.parts
  rw [dif_pos h2] at h3
  simp only [execOp, ha.ev hx, ha.ev hy, Sem.run_bind, h3, Result.andThen]
  rfl
theorem p_ssl {a : List UInt8} {κ κ' : IntKind} (i j : Nat) [hs : StrI P t] (hx : ev ρ x = some (st a)) {lo hi : Operand} {m m' : Int} (hl : ev ρ lo = some (.int κ m)) (hh : ev ρ hi = some (.int κ' m')) (hm : m = (i : Int)) (hm' : m' = (j : Int)) (hij : i ≤ j) (hj : j ≤ a.length) :
    Pr P σ L ρ (.slice t x (some lo) (some hi) none) u (st ((a.take j).drop i)) := by
  intro n b w ha hI d pp es g
  subst hm; subst hm'
  have h3 := run_slice_string (P := P) w t ⟨a.toArray⟩ κ κ' (i : Int) (j : Int) hs.parts (by omega) (by omega) (by rw [Lib.size_eq]; simpa using hj)
  have hp : ∀ z, underlying t = z → True := fun _ _ => trivial
  simp only [execOp, ha.ev hx, ha.ev hl, ha.ev hh, Sem.run_bind, Instr.sliceAt, run_underlying hs.parts, Result.andThen, Option.map_some, Option.map_none, h3, ByteArray.extract_mk, Int.toNat_natCast, List.drop_take]
  rfl
theorem p_ssll {a : List UInt8} {κ : IntKind} (i : Nat) [hs : StrI P t] (hx : ev ρ x = some (st a)) {lo : Operand} {m : Int} (hl : ev ρ lo = some (.int κ m)) (hm : m = (i : Int)) (hi : i ≤ a.length) :
    Pr P σ L ρ (.slice t x (some lo) none none) u (st (a.drop i)) := by
  intro n b w ha hI d pp es g
  subst hm
  have h3 := run_slice_string_from_if (P := P) w t ⟨a.toArray⟩ κ (i : Int) hs.parts
  rw [if_pos ⟨by omega, by rw [Lib.size_eq]; simpa using hi⟩] at h3
  simp only [execOp, ha.ev hx, ha.ev hl, Sem.run_bind, Instr.sliceAt, run_underlying hs.parts, Result.andThen, Option.map_some, Option.map_none, h3, ByteArray.extract_mk, Int.toNat_natCast, Lib.size_eq]
  rw [List.take_of_length_le (by simp)]
  rfl
theorem p_sslh {a : List UInt8} {κ : IntKind} (j : Nat) [hs : StrI P t] (hx : ev ρ x = some (st a)) {hi : Operand} {m' : Int} (hh : ev ρ hi = some (.int κ m')) (hm' : m' = (j : Int)) (hj : j ≤ a.length) :
    Pr P σ L ρ (.slice t x none (some hi) none) u (st (a.take j)) := by
  intro n b w ha hI d pp es g
  subst hm'
  have h3 := run_slice_string_to_if (P := P) w t ⟨a.toArray⟩ κ (j : Int) hs.parts
  rw [if_pos ⟨by omega, by rw [Lib.size_eq]; simpa using hj⟩] at h3
  simp only [execOp, ha.ev hx, ha.ev hh, Sem.run_bind, Instr.sliceAt, run_underlying hs.parts, Result.andThen, Option.map_some, Option.map_none, h3, ByteArray.extract_mk, Int.toNat_natCast, List.drop_zero, Nat.sub_zero]
  rfl
end
end
end Go.Sp
