/-
  The engine, part 5: the rules for memory.
-/
import Derived.Test.YtbijponhndknlaaDoorE4
set_option linter.unusedVariables false
set_option linter.unusedSimpArgs false
namespace Go.Sp
open Go.RowKit

section
variable {P : Program} {c : Cx} {k : List Kt} {σ : Stb} {L : List Res} {ρ : Env} {ops l : List Oper}

theorem run_isAgg {t : TypeId} {d : TypeDesc} (h : P.underlying t = some d) (w : World) : (isAgg t).run P w = .ok (isAggD d) w := by
  unfold isAgg
  rw [Sem.run_bind, run_underlying h w]
  cases d <;> rfl
theorem run_sizeOf {t : TypeId} {i : TypeInfo} (h : P.info? t = some i) (w : World) : (sizeOf t).run P w = .ok i.size w := by
  simp [sizeOf, typeInfo, h]
theorem run_typeInfo {t : TypeId} {i : TypeInfo} (h : P.info? t = some i) (w : World) : (typeInfo t).run P w = .ok i w := by
  simp [typeInfo, h]
theorem run_zeroValue {t : TypeId} {z : Value} (h : (P.info? t).bind (·.zero) = some z) (w : World) : (zeroValue t).run P w = .ok z w := by
  cases hi : P.info? t with
  | none => simp [hi] at h
  | some i => have h' : i.zero = some z := by simpa [hi] using h
              simp [zeroValue, typeInfo, hi, h']

/-! ### Loads -/
theorem p_ld1 {t u : TypeId} {x : Operand} {p v : Value} {r : List Value} {sz : Nat} [ht : TI P t false sz] (hx : ev ρ x = some p) (hr : Rds σ L p (v :: r)) : Pr P σ L ρ (.load t x) u v := by
  intro n a w ha hI d pp es g
  obtain ⟨dd, i, h1, h2, h3, h4⟩ := ht.parts
  obtain ⟨A, rfl, hc⟩ := hr w hI
  have h0 : w.cell? A = some v := by simpa [Addr.add] using hc 0 v rfl
  simp only [execOp, ha.ev hx, Instr.loadAt, Instr.sureAddr, loadVar, Sem.run_bind, Sem.run_pure, Result.andThen_ok, run_isAgg h1, h4, if_false, Bool.false_eq_true, run_load, h0]
theorem p_ldn {t u : TypeId} {x : Operand} {p : Value} {r : List Value} {sz : Nat} [ht : TI P t true sz] (hx : ev ρ x = some p) (hr : Rds σ L p r) {xs : List Value} (hxs : r.take sz = xs) (hl : xs.length = sz) : Pr P σ L ρ (.load t x) u (.agg xs.toArray) := by
  intro n a w ha hI d pp es g
  obtain ⟨dd, i, h1, h2, h3, h4⟩ := ht.parts
  obtain ⟨A, rfl, hc⟩ := hr.take sz w hI
  rw [hxs] at hc
  have h5 := run_loadCells_list (P := P) w A xs hc
  rw [hl] at h5
  simp only [execOp, ha.ev hx, Instr.loadAt, Instr.sureAddr, loadVar, Sem.run_bind, Sem.run_pure, Result.andThen_ok, run_isAgg h1, h4, if_true, run_sizeOf h2, h3, h5]

theorem p_fa {s i off ft fsz : Nat} {u : TypeId} {x : Operand} {p : Value} {r : List Value} [hf : FI P s i off ft fsz] (hx : ev ρ x = some p) (hr : Rds σ L p r) : Pr P σ L ρ (.fieldAddr s x i) u (padd p off) := by
  intro n a w ha hI d pp es g
  obtain ⟨fs, f, j, h1, h2, h3, h4, h5, h6, h7⟩ := hf.parts
  obtain ⟨A, rfl⟩ := hr.isP hI
  have h8 : j.size ≠ 0 := h6 ▸ h7
  simp only [execOp, ha.ev hx, Instr.fieldAt, Sem.run_bind, run_underlying h1, Result.andThen_ok, h2, Instr.sureAddr, Sem.run_pure, fieldPlace, h4, run_sizeOf h5, Sem.run_ite, h8, if_false, h3, padd]
theorem p_ix {t u e sz b1 : Nat} {x y : Operand} {A : Option Addr} {n cc : Nat} {κ : IntKind} {m : Int} [hs : SI P t e sz b1] (j : Nat) {r : List Value} (hx : ev ρ x = some (.slice A n cc)) (hy : ev ρ y = some (.int κ m)) (hm : m = (j : Int)) (hj : j < n)
    (hr : Rds σ L (ixp (.slice A n cc) sz j) r) : Pr P σ L ρ (.indexAddr t x y) u (ixp (.slice A n cc) sz j) := by
  intro n' a w ha hI d pp es g
  obtain ⟨i, h1, h2, h3, h4⟩ := hs.parts
  obtain ⟨A', hA⟩ := hr.isP hI
  cases A with
  | none => simp [ixp] at hA
  | some a' =>
    subst hm
    have hc : 0 ≤ (j : Int) ∧ (j : Int) < (n : Int) := ⟨by omega, by omega⟩
    simp [execOp, ha.ev hx, ha.ev hy, Instr.indexAt, asIntOf, run_underlying h1, hc, run_sizeOf h2, h3, ixp]
    intro hh; omega
theorem p_ixa {t u len e sz : Nat} {x y : Operand} {p : Value} {κ : IntKind} {m : Int} [hs : AI P t len e sz] (j : Nat) {r : List Value} (hx : ev ρ x = some p) (hy : ev ρ y = some (.int κ m)) (hm : m = (j : Int)) (hj : j < len)
    (hr : Rds σ L p r) : Pr P σ L ρ (.indexAddr t x y) u (padd p (j * sz)) := by
  intro n' a w ha hI d pp es g
  obtain ⟨i, h1, h2, h3⟩ := hs.parts
  obtain ⟨A', rfl⟩ := hr.isP hI
  subst hm
  have hc : 0 ≤ (j : Int) ∧ (j : Int) < (len : Int) := ⟨by omega, by omega⟩
  simp [execOp, ha.ev hx, ha.ev hy, Instr.indexAt, Instr.sureAddr, asIntOf, run_underlying h1, hc, run_sizeOf h2, h3, padd]
  intro hh; omega
/-- A field of a struct that is a value. -/
theorem p_fld1 {s i off ft fsz : Nat} {u : TypeId} {x : Operand} {xs : List Value} {v : Value} [hf : FI P s i off ft fsz] [ht : TI P ft false fsz] (hx : ev ρ x = some (.agg xs.toArray)) (hv : xs[off]? = some v) : Pr P σ L ρ (.field s x i) u v := by
  intro n a w ha hI d pp es g
  obtain ⟨fs, f, j, h1, h2, h3, h4, h5, h6, h7⟩ := hf.parts
  obtain ⟨dd, i', h1', h2', h3', h4'⟩ := ht.parts
  simp [execOp, ha.ev hx, Instr.field, run_underlying h1, h2, h3, h4, asAgg, part, run_isAgg h1', h4', hv]
theorem p_fldn {s i off ft fsz : Nat} {u : TypeId} {x : Operand} {xs ys : List Value} [hf : FI P s i off ft fsz] [ht : TI P ft true fsz] (hx : ev ρ x = some (.agg xs.toArray)) (hv : (xs.drop off).take fsz = ys) : Pr P σ L ρ (.field s x i) u (.agg ys.toArray) := by
  intro n a w ha hI d pp es g
  obtain ⟨fs, f, j, h1, h2, h3, h4, h5, h6, h7⟩ := hf.parts
  obtain ⟨dd, i', h1', h2', h3', h4'⟩ := ht.parts
  subst hv
  simp [execOp, ha.ev hx, Instr.field, run_underlying h1, h2, h3, h4, asAgg, part, run_isAgg h1', h4', run_sizeOf h2', h3']

/-! ### New variables -/
theorem Inv.box {w : World} (hI : Inv σ L w) (cs : List Value) (T : TypeId) : Inv σ (Bx w.heap.size cs T :: L) (w.alloc (.cells cs.toArray T)) :=
  hI.grow rfl rfl rfl (by simp) (fun b hb => Below.heap_alloc _ _ _ hb) trivial (fun b hb => by
    cases hb; exact ⟨Nat.le_refl _, _, heap_alloc_new _ _, rfl⟩) (Nat.le_refl _)
theorem l_box {d : Nat} {T : TypeId} {x : Operand} {t : TypeId} {p : String} {es : Array Edge} {g : Option (Nat × Bool)} {v : Value} {cs : List Value} (hg : gd ops ρ g = some true) (hd : Nat.blt d c.n = true) (hx : ev ρ x = some v) (hc : cl v = cs)
    (h : ∀ b, Wl P c ops l k σ (Bx b cs T :: L) ((d, .pointer (some ⟨b, 0, none⟩)) :: ρ)) : Wl P c ops (⟨some d, .box T x, t, p, es, g⟩ :: l) k σ L ρ := by
  intro w hI a ha
  simp only [wpList]
  rw [gd_wanted ha (o := ⟨some d, .box T x, t, p, es, g⟩) hg]
  simp only [if_true]
  refine .inl ?_
  have e : v.cells = cs.toArray := by rw [← hc, ← cl_eq]
  simp only [Oper.wp, execOp, ha.ev hx, Instr.box, newVar, newRow, e, Sem.run_bind, run_newObj, Result.andThen_ok, Sem.run_pure, Oper.upon, World.alloc_eq]
  exact h _ _ (hI.box cs T) _ (ha.put d _ hd)
theorem l_alloc {d : Nat} {T : TypeId} {t : TypeId} {p : String} {es : Array Edge} {g : Option (Nat × Bool)} {z : Value} {cs : List Value} [hz : ZI P T z] (hg : gd ops ρ g = some true) (hd : Nat.blt d c.n = true) (hc : cl z = cs)
    (h : ∀ b, Wl P c ops l k σ (Bx b cs T :: L) ((d, .pointer (some ⟨b, 0, none⟩)) :: ρ)) : Wl P c ops (⟨some d, .alloc T, t, p, es, g⟩ :: l) k σ L ρ := by
  intro w hI a ha
  simp only [wpList]
  rw [gd_wanted ha (o := ⟨some d, .alloc T, t, p, es, g⟩) hg]
  simp only [if_true]
  refine .inl ?_
  have e : z.cells = cs.toArray := by rw [← hc, ← cl_eq]
  simp only [Oper.wp, execOp, Instr.alloc, run_zeroValue hz.ok, newVar, newRow, e, Sem.run_bind, run_newObj, Result.andThen_ok, Sem.run_pure, Oper.upon, World.alloc_eq]
  exact h _ _ (hI.box cs T) _ (ha.put d _ hd)

/-! ### Stores -/
def boff : Value → Option (Nat × Nat)
  | .pointer (some ⟨b, o, none⟩) => some (b, o)
  | _ => none
theorem boff_eq {p : Value} {b o : Nat} (h : boff p = some (b, o)) : p = .pointer (some ⟨b, o, none⟩) := by
  unfold boff at h
  split at h
  · cases h; rfl
  · cases h
def putN : List Value → Nat → List Value → Option (List Value)
  | cs, _, [] => some cs
  | [], _, _ :: _ => none
  | c :: cs, 0, v :: vs => match putN cs 0 vs with | some r => some (v :: r) | none => none
  | c :: cs, o + 1, vs => match putN cs o vs with | some r => some (c :: r) | none => none
theorem putN_eq : ∀ (cs : List Value) (o : Nat) (vs r : List Value), putN cs o vs = some r → (vs = [] ∨ o + vs.length ≤ cs.length) ∧ r = if vs = [] then cs else cs.take o ++ vs ++ cs.drop (o + vs.length)
  | cs, o, [], r, h => by simp [putN] at h; simp [h]
  | [], o, v :: vs, r, h => by cases o <;> simp [putN] at h
  | x :: cs, 0, v :: vs, r, h => by
    simp only [putN] at h
    split at h
    · rename_i q hq
      cases h
      obtain ⟨h1, h2⟩ := putN_eq cs 0 vs q hq
      subst h2
      refine ⟨.inr ?_, ?_⟩
      · rcases h1 with rfl | h1
        · simp
        · simp; omega
      · by_cases hv : vs = []
        · subst hv; simp
        · simp [hv]
    · cases h
  | x :: cs, o + 1, v :: vs, r, h => by
    simp only [putN] at h
    split at h
    · rename_i q hq
      cases h
      obtain ⟨h1, h2⟩ := putN_eq cs o (v :: vs) q hq
      subst h2
      refine ⟨.inr ?_, ?_⟩
      · rcases h1 with h1 | h1
        · cases h1
        · simp at h1 ⊢; omega
      · have e : o + 1 + (v :: vs).length = (o + (v :: vs).length) + 1 := by omega
        simp only [reduceCtorEq, if_false, e, List.take_succ_cons, List.drop_succ_cons, List.cons_append]
    · cases h

def One (v : Value) : Prop := v.oneCell' = true
theorem ones_of {vs : List Value} (h : vs.all (·.oneCell') = true) : ∀ v ∈ vs, v.oneCell' = true := by simpa using h

theorem l_st {t u : TypeId} {x y : Operand} {p : String} {es : Array Edge} {g : Option (Nat × Bool)} {q v : Value} {b o : Nat} {cs cs' vs : List Value} {T : TypeId} {L' : List Res} {agg : Bool} {sz : Nat} [ht : TI P t agg sz]
    (hg : gd ops ρ g = some true) (hx : ev ρ x = some q) (ho : boff q = some (b, o)) (hy : ev ρ y = some v) (hc : cl v = vs) (hl : vs.length = sz) (h1 : vs.all (·.oneCell') = true) (hp : putN cs o vs = some cs') (hu : Upd (Bx b cs T) (Bx b cs' T) L L')
    (h : Wl P c ops l k σ L' ρ) : Wl P c ops (⟨none, .store t x y, u, p, es, g⟩ :: l) k σ L ρ := by
  intro w hI a ha
  simp only [wpList]
  rw [gd_wanted ha (o := ⟨none, .store t x y, u, p, es, g⟩) hg]
  simp only [if_true]
  refine .inl ?_
  obtain ⟨dd, i, h2, h3, h4, h5⟩ := ht.parts
  have hq := boff_eq ho
  subst hq
  have e : v.cells.toList = vs := by rw [cl_eq, hc]
  have es : v.cells.size = i.size := by rw [h4, ← hl, ← e]; simp
  obtain ⟨ob, hob, hok⟩ := hI.own _ hu.has.mem b rfl
  have : ob = .cells cs.toArray T (0, 0) := hok
  subst this
  obtain ⟨hb1, hb2⟩ := putN_eq _ _ _ _ hp
  by_cases hv0 : vs = []
  · subst hv0
    simp only [if_true] at hb2
    subst hb2
    have hst : (storeCells (⟨b, o, none⟩ : Addr) v.cells.toList 0).run P w = .ok () w := by rw [e]; rfl
    simp only [Oper.wp, execOp, ha.ev hx, ha.ev hy, Instr.storeAt, Instr.sureAddr, Sem.run_bind, Sem.run_pure, Result.andThen_ok, storeVar, run_sizeOf h3, es, ne_eq, not_true_eq_false, if_false, hst, Oper.upon]
    exact h w (hI.upd hu rfl rfl rfl (Nat.le_refl _) (fun _ _ _ => rfl) trivial (fun b' hb' => by cases hb'; exact ⟨.inl rfl, _, hob, rfl⟩) (Nat.le_refl _)) _ ha
  · have hb3 : o + vs.length ≤ cs.length := hb1.resolve_left hv0
    rw [if_neg hv0] at hb2
    have hst := run_storeCells_my P b o T (0, 0) vs 0 cs.toArray w hob (.inl rfl) (by simpa using hb3) (ones_of h1)
    simp only [Nat.add_zero, List.toList_toArray, ← hb2] at hst
    rw [← e] at hst
    simp only [Oper.wp, execOp, ha.ev hx, ha.ev hy, Instr.storeAt, Instr.sureAddr, Sem.run_bind, Sem.run_pure, Result.andThen_ok, storeVar, run_sizeOf h3, es, ne_eq, not_true_eq_false, if_false, hst, Oper.upon]
    refine h _ (Inv.upd (w' := w.setRow b cs'.toArray) hI hu rfl rfl rfl (by simp) (fun b' _ hb' => setRow_blk _ _ _ _ fun (e : b' = b) => hb' (by rw [e]; rfl)) trivial (fun b' hb' => ?_) (Nat.le_refl _)) _ ha
    cases hb'
    exact ⟨.inl rfl, _, setRow_same _ _ _ _ _ _ hob, rfl⟩

theorem l_sti {t u : TypeId} {x y : Operand} {p : String} {es : Array Edge} {g : Option (Nat × Bool)} {q v : Value} {b o : Nat} {cs cs1 cs' vs : List Value} {T T1 : TypeId} {L' : List Res} {agg : Bool} {sz : Nat} [ht : TI P t agg sz]
    (hg : gd ops ρ g = some true) (hx : ev ρ x = some q) (ho : boff q = some (b, o)) (hy : ev ρ y = some v) (hc : cl v = vs) [hh : HasBx b L cs T] (hp : putN cs o vs = some cs') (hl : vs.length = sz) (h1 : vs.all (·.oneCell') = true) [hu : UpdBx b cs' L cs1 T1 L'] (he : cs1 = cs ∧ T1 = T)
    (h : Wl P c ops l k σ L' ρ) : Wl P c ops (⟨none, .store t x y, u, p, es, g⟩ :: l) k σ L ρ := by
  obtain ⟨rfl, rfl⟩ := he
  exact l_st hg hx ho hy hc hl h1 hp hu.upd h

theorem flat_set {α : Type} {enc : α → List Value} {sz : Nat} : ∀ {xs : List α}, (∀ x ∈ xs, (enc x).length = sz) → ∀ {j : Nat}, j < xs.length → ∀ {e' : α},
    ((xs.set j e').map enc).flatten = (xs.map enc).flatten.take (j * sz) ++ enc e' ++ (xs.map enc).flatten.drop ((j + 1) * sz)
  | [], _, j, hj, _ => by simp at hj
  | x :: xs, hs, 0, _, e' => by
    have hx : (enc x).length = sz := hs x (List.mem_cons_self ..)
    simp [← hx]
  | x :: xs, hs, j + 1, hj, e' => by
    have hx : (enc x).length = sz := hs x (List.mem_cons_self ..)
    have ih := flat_set (fun y hy => hs y (List.mem_cons_of_mem _ hy)) (show j < xs.length by simpa using hj) (e' := e')
    have e1 : (j + 1) * sz = (enc x).length + j * sz := by rw [Nat.add_mul, hx]; omega
    have e2 : (j + 1 + 1) * sz = (enc x).length + (j + 1) * sz := by rw [Nat.add_mul (j + 1), hx]; omega
    simp only [List.set_cons_succ, List.map_cons, List.flatten_cons, ih]
    rw [e2, List.drop_length_add_append, e1, List.take_length_add_append, ← e1]
    simp only [List.append_assoc]
theorem flat_self {α : Type} {enc : α → List Value} {sz : Nat} {xs : List α} (hs : ∀ x ∈ xs, (enc x).length = sz) {j : Nat} (hj : j < xs.length) :
    (xs.map enc).flatten.take (j * sz) ++ enc xs[j] ++ (xs.map enc).flatten.drop ((j + 1) * sz) = (xs.map enc).flatten := by
  have := flat_set hs hj (e' := xs[j])
  rw [← this]; simp
theorem flat_mid {α : Type} {enc : α → List Value} {sz : Nat} {xs : List α} (hs : ∀ x ∈ xs, (enc x).length = sz) {j : Nat} (hj : j < xs.length) {off : Nat} {vs : List Value} (h : off + vs.length ≤ sz) :
    (xs.map enc).flatten.take (j * sz) ++ ((enc xs[j]).take off ++ vs ++ (enc xs[j]).drop (off + vs.length)) ++ (xs.map enc).flatten.drop ((j + 1) * sz) = (xs.map enc).flatten.take (j * sz + off) ++ vs ++ (xs.map enc).flatten.drop (j * sz + off + vs.length) := by
  have hf := flat_self hs hj
  have hl := flat_len hs
  have hx : (enc xs[j]).length = sz := hs _ (List.getElem_mem hj)
  generalize hF : (xs.map enc).flatten = F at *
  have hj1 : (j + 1) * sz ≤ xs.length * sz := Nat.mul_le_mul_right _ hj
  rw [Nat.add_mul, Nat.one_mul] at hj1
  have ha : (F.take (j * sz)).length = j * sz := by simp; omega
  have e1 : F.take (j * sz + off) = F.take (j * sz) ++ (enc xs[j]).take off := by
    rw [← hf]
    simp only [List.append_assoc]
    rw [List.take_append_of_le_length (i := j * sz) (by omega)]
    rw [List.take_append, ha]
    rw [show j * sz + off - j * sz = off by omega, List.take_append_of_le_length (by omega)]
    rw [List.take_of_length_le (l := List.take (j * sz) F) (by omega), List.take_take]
    simp
  have e2 : F.drop (j * sz + off + vs.length) = (enc xs[j]).drop (off + vs.length) ++ F.drop ((j + 1) * sz) := by
    rw [show F.drop (j * sz + off + vs.length) = (F.take (j * sz) ++ (enc xs[j]) ++ F.drop ((j + 1) * sz)).drop (j * sz + off + vs.length) by rw [hf]]
    rw [List.append_assoc, List.drop_append, ha, List.drop_of_length_le (by omega), List.nil_append]
    rw [show j * sz + off + vs.length - j * sz = off + vs.length by omega, List.drop_append_of_le_length (by omega)]
  rw [e1, e2]
  simp
theorem seg_take (l vs : List Value) (o m : Nat) (h : o + vs.length ≤ m) (hm : m ≤ l.length) :
    (l.take o ++ vs ++ l.drop (o + vs.length)).take m = (l.take m).take o ++ vs ++ (l.take m).drop (o + vs.length) := by
  have h1 : (l.take o).length = o := by simp; omega
  rw [List.take_take, Nat.min_eq_left (by omega), List.append_assoc, List.take_append, h1, List.take_of_length_le (by omega), List.take_append, List.take_of_length_le (l := vs) (by omega)]
  rw [List.drop_take, ← List.append_assoc]
  congr 2
  omega

/-- A store to cells of an element of a row that is owned. -/
theorem l_sto {α : Type} {t u : TypeId} {x y : Operand} {p : String} {es : Array Edge} {g : Option (Nat × Bool)} {v : Value} {vs : List Value} {E : TypeId} {L' : List Res} {agg : Bool} {sz tz : Nat} {enc : α → List Value} {sv : Value} {xs : List α} (j off : Nat) (e' : α) {q : Value} [ht : TI P t agg tz]
    (hg : gd ops ρ g = some true) (hx : ev ρ x = some q) (hq : q = padd (ixp sv sz j) off) (hy : ev ρ y = some v) (hc : cl v = vs) (hl : vs.length = tz) (h1 : vs.all (·.oneCell') = true) (hj : j < xs.length) (hp : putN (enc xs[j]) off vs = some (enc e'))
    (hu : Upd (own sz enc E sv xs) (own sz enc E sv (xs.set j e')) L L') (h : Wl P c ops l k σ L' ρ) : Wl P c ops (⟨none, .store t x y, u, p, es, g⟩ :: l) k σ L ρ := by
  intro w hI a ha
  simp only [wpList]
  rw [gd_wanted ha (o := ⟨none, .store t x y, u, p, es, g⟩) hg]
  simp only [if_true]
  refine .inl ?_
  obtain ⟨dd, i, h2, h3, h4, h5⟩ := ht.parts
  have e : v.cells.toList = vs := by rw [cl_eq, hc]
  have es : v.cells.size = i.size := by rw [h4, ← hl, ← e]; simp
  obtain ⟨hs, ⟨rfl, rfl⟩ | ⟨gg, cap, cur, fr, rfl, hgg, hnf, hle, hm, hcs, htk⟩⟩ := own.cells hu.has hI
  · simp at hj
  have hq' : q = .pointer (some ⟨gg, j * sz + off, none⟩) := by rw [hq]; simp [ixp, padd, add_at]
  subst hq'
  obtain ⟨hb1, hb2⟩ := putN_eq _ _ _ _ hp
  have hxj : (enc xs[j]).length = sz := hs _ (List.getElem_mem hj)
  have hjs : (j + 1) * sz ≤ xs.length * sz := Nat.mul_le_mul_right _ hj
  have hxs : xs.length * sz ≤ cap * sz := Nat.mul_le_mul_right _ hle
  rw [Nat.add_mul, Nat.one_mul] at hjs
  have he' : (enc e').length = sz := by
    rw [hb2]; split
    · exact hxj
    · rename_i hv; have := hb1.resolve_left hv; simp; omega
  have hset : (List.map enc (xs.set j e')).flatten = if vs = [] then (xs.map enc).flatten else (xs.map enc).flatten.take (j * sz + off) ++ vs ++ (xs.map enc).flatten.drop (j * sz + off + vs.length) := by
    have := flat_set hs hj (e' := e')
    rw [this, hb2]
    split
    · exact flat_self hs hj
    · rename_i hv
      exact flat_mid hs hj (by have := hb1.resolve_left hv; omega)
  have hs' : ∀ z ∈ xs.set j e', (enc z).length = sz := fun z hz => by
    rcases List.mem_or_eq_of_mem_set hz with h | h
    · exact hs z h
    · rw [h]; exact he'
  have hpr : (own sz enc E (.slice (some ⟨gg, 0, none⟩) xs.length cap) (xs.set j e')).pr := ⟨hs', fun hn => by simp [Value.ownBlock] at hn, some ⟨gg, 0, none⟩, cap, by simp⟩
  by_cases hv0 : vs = []
  · subst hv0
    rw [if_pos rfl] at hset
    have hst : (storeCells (⟨gg, j * sz + off, none⟩ : Addr) v.cells.toList 0).run P w = .ok () w := by rw [e]; rfl
    simp only [Oper.wp, execOp, ha.ev hx, ha.ev hy, Instr.storeAt, Instr.sureAddr, Sem.run_bind, Sem.run_pure, Result.andThen_ok, storeVar, run_sizeOf h3, es, ne_eq, not_true_eq_false, if_false, hst, Oper.upon]
    refine h w (hI.upd hu rfl rfl rfl (Nat.le_refl _) (fun _ _ _ => rfl) hpr (fun b' hb' => ⟨.inl hb', _, ?_, gg, cap, cur, fr, by simp, rfl, hnf, by simpa using hle, hm, hcs, by rw [List.length_set, hset]; exact htk⟩) (Nat.le_refl _)) _ ha
    have : gg = b' := by simpa [own, Value.ownBlock] using hb'
    rw [← this]; exact hgg
  · have hb3 : off + vs.length ≤ sz := by have := hb1.resolve_left hv0; omega
    rw [if_neg hv0] at hset
    have hst := run_storeCells_my P gg (j * sz + off) E fr vs 0 cur w hgg hnf (by rw [hcs]; omega) (ones_of h1)
    simp only [Nat.add_zero] at hst
    rw [← e] at hst
    simp only [Oper.wp, execOp, ha.ev hx, ha.ev hy, Instr.storeAt, Instr.sureAddr, Sem.run_bind, Sem.run_pure, Result.andThen_ok, storeVar, run_sizeOf h3, es, ne_eq, not_true_eq_false, if_false, hst, Oper.upon]
    rw [e]
    have hcl : cur.toList.length = cap * sz := by simpa using hcs
    refine h _ (Inv.upd (w' := w.setRow gg (cur.toList.take (j * sz + off) ++ vs ++ cur.toList.drop (j * sz + off + vs.length)).toArray) hI hu rfl rfl rfl (by simp) (fun b' _ hb' => setRow_blk _ _ _ _ fun (e : b' = gg) => hb' (by rw [e]; rfl)) hpr (fun b' hb' => ?_) (Nat.le_refl _)) _ ha
    refine ⟨.inl hb', .cells (cur.toList.take (j * sz + off) ++ vs ++ cur.toList.drop (j * sz + off + vs.length)).toArray E fr, ?_, gg, cap, (cur.toList.take (j * sz + off) ++ vs ++ cur.toList.drop (j * sz + off + vs.length)).toArray, fr, by simp, rfl, ?_, by simpa using hle, hm, ?_, ?_⟩
    · have : gg = b' := by simpa [own, Value.ownBlock] using hb'
      rw [← this]; exact setRow_same _ _ _ _ _ _ hgg
    · have : (cur.toList.take (j * sz + off) ++ vs ++ cur.toList.drop (j * sz + off + vs.length)).toArray.size = cur.size := by simp; omega
      rw [this]; exact hnf
    · simp; omega
    · simp only [List.length_set, List.toList_toArray]
      rw [hset, ← htk]
      exact seg_take _ _ _ _ (by omega) (by omega)

end
end Go.Sp
