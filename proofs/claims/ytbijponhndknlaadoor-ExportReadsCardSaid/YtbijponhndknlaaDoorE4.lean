/-
  The engine, part 4: what is read of memory; what makes and writes memory.
-/
import Derived.Test.YtbijponhndknlaaDoorE3
set_option linter.unusedVariables false
set_option linter.unusedSimpArgs false
namespace Go.Sp
open Go.RowKit

/-- A variable's block. -/
def Bx (b : Nat) (cs : List Value) (T : TypeId) : Res := ⟨some b, fun o => o = .cells cs.toArray T (0, 0), True⟩
class HasBx (b : Nat) (L : List Res) (cs : outParam (List Value)) (T : outParam TypeId) : Prop where
  has : Has (Bx b cs T) L
instance (priority := high) HasBx.z {b : Nat} {cs : List Value} {T : TypeId} {L : List Res} : HasBx b (Bx b cs T :: L) cs T := ⟨.z⟩
instance HasBx.s {b : Nat} {cs : List Value} {T : TypeId} {x : Res} {L : List Res} [h : HasBx b L cs T] : HasBx b (x :: L) cs T := ⟨.s h.has⟩
class UpdBx (b : Nat) (cs' : List Value) (L : List Res) (cs : outParam (List Value)) (T : outParam TypeId) (L' : outParam (List Res)) : Prop where
  upd : Upd (Bx b cs T) (Bx b cs' T) L L'
instance (priority := high) UpdBx.z {b : Nat} {cs cs' : List Value} {T : TypeId} {L : List Res} : UpdBx b cs' (Bx b cs T :: L) cs T (Bx b cs' T :: L) := ⟨.z⟩
instance UpdBx.s {b : Nat} {cs cs' : List Value} {T : TypeId} {x : Res} {L L' : List Res} [h : UpdBx b cs' L cs T L'] : UpdBx b cs' (x :: L) cs T (x :: L') := ⟨.s h.upd⟩
/-- The cells of a value. -/
def cl : Value → List Value
  | .agg cs => cs.toList
  | v => [v]
theorem cl_eq (v : Value) : v.cells.toList = cl v := by cases v <;> simp [Value.cells, cl]

/-- No cell of the row is frozen. -/
def NF (fr : Nat × Nat) (n : Nat) : Prop := fr.2 = 0 ∨ n ≤ fr.1
/-- A row that is owned: the slice v has the elements l. -/
def own {α : Type} (sz : Nat) (enc : α → List Value) (E : TypeId) (v : Value) (l : List α) : Res :=
  ⟨v.ownBlock, fun o => ∃ g cap cur fr, v = .slice (some ⟨g, 0, none⟩) l.length cap ∧ o = .cells cur E fr ∧ NF fr cur.size ∧ l.length ≤ cap ∧ cap ≤ maxLen ∧ cur.size = cap * sz ∧ cur.toList.take (l.length * sz) = (l.map enc).flatten,
    (∀ x ∈ l, (enc x).length = sz) ∧ (v.ownBlock = none → v = .slice none 0 0 ∧ l = []) ∧ ∃ A c, v = .slice A l.length c⟩

/-- A slice in stable memory. -/
structure Sl {α : Type} (σ : Stb) (sz : Nat) (enc : α → List Value) (v : Value) (l : List α) : Prop where
  form : ∃ A cap, v = .slice A l.length cap ∧ l.length ≤ cap ∧ cap ≤ maxLen ∧ (A = none → l = [] ∧ cap = 0) ∧
    ∀ ad, A = some ad → l ≠ [] → ad.spot = none ∧ ∃ cs E fr, σ.blk ad.block = some (.cells cs E fr) ∧ ∀ j u, (l.map enc).flatten[j]? = some u → cs[ad.off + j]? = some u
  size : ∀ x ∈ l, (enc x).length = sz

theorem Sl.up {α : Type} {σ σ' : Stb} {sz : Nat} {enc : α → List Value} {v : Value} {l : List α} (h : Sl σ sz enc v l) (hσ : σ.le σ') : Sl σ' sz enc v l := by
  obtain ⟨⟨A, cap, h1, h2, h3, h4, h5⟩, h6⟩ := h
  refine ⟨⟨A, cap, h1, h2, h3, h4, fun ad ha hl => ?_⟩, h6⟩
  obtain ⟨h7, cs, E, fr, h8, h9⟩ := h5 ad ha hl
  exact ⟨h7, cs, E, fr, hσ.blk _ _ h8, h9⟩

theorem Sl.len {α : Type} {σ : Stb} {sz : Nat} {enc : α → List Value} {A : Option Addr} {n c : Nat} {l : List α} (h : Sl σ sz enc (.slice A n c) l) : n = l.length := by
  obtain ⟨⟨A', cap, h1, _⟩, _⟩ := h
  cases h1; rfl
theorem Sl.of_none {α : Type} {σ : Stb} {sz : Nat} {enc : α → List Value} {A : Option Addr} {n c : Nat} {l : List α} (h : Sl σ sz enc (.slice A n c) l) (hA : A = Option.none) : l = [] ∧ c = 0 := by
  obtain ⟨⟨A', cap, h1, _, _, h4, _⟩, _⟩ := h
  cases h1; exact h4 hA
theorem Sl.bound {α : Type} {σ : Stb} {sz : Nat} {enc : α → List Value} {v : Value} {l : List α} (h : Sl σ sz enc v l) : l.length ≤ 9223372036854775807 := by
  obtain ⟨⟨A', cap, h1, h2, h3, _⟩, _⟩ := h
  simp only [maxLen] at h3; omega
theorem Sl.nil {α : Type} (σ : Stb) (sz : Nat) (enc : α → List Value) : Sl σ sz enc (.slice none 0 0) ([] : List α) :=
  ⟨⟨none, 0, rfl, by simp, by simp [maxLen], fun _ => ⟨rfl, rfl⟩, fun ad h => by cases h⟩, by simp⟩

/-- What a pointer points at, in whatever world of this kind. -/
def Rds (σ : Stb) (L : List Res) (p : Value) (x : List Value) : Prop :=
  ∀ w, Inv σ L w → ∃ a, p = .pointer (some a) ∧ ∀ j u, x[j]? = some u → w.cell? (a.add j) = some u
def padd : Value → Nat → Value
  | .pointer (some a), n => .pointer (some (a.add n))
  | v, _ => v
def ixp : Value → Nat → Nat → Value
  | .slice (some a) _ _, sz, k => .pointer (some (a.add (k * sz)))
  | v, _, _ => v

theorem add_add (a : Addr) (i j : Nat) : (a.add i).add j = a.add (i + j) := by
  unfold Addr.add
  by_cases hi : i = 0
  · subst hi; simp
  · by_cases hj : j = 0
    · subst hj; simp
    · simp [hi, hj, Nat.add_assoc]
theorem add_at (g o j : Nat) : (⟨g, o, none⟩ : Addr).add j = ⟨g, o + j, none⟩ := by unfold Addr.add; split <;> simp_all
theorem add_off (a : Addr) (h : a.spot = none) (j : Nat) : a.add j = ⟨a.block, a.off + j, none⟩ := by
  cases a; simp only at h; subst h; exact add_at _ _ _

theorem Rds.bx {σ : Stb} {L : List Res} {b : Nat} {cs : List Value} {T : TypeId} (h : Has (Bx b cs T) L) : Rds σ L (.pointer (some ⟨b, 0, none⟩)) cs := by
  intro w hI
  obtain ⟨o, ho, hok⟩ := hI.own _ h.mem b rfl
  have : o = .cells cs.toArray T (0, 0) := hok
  subst this
  exact ⟨_, rfl, fun j u hu => by rw [add_at, cell_of_row w b _ _ _ _ ho]; simpa using hu⟩
theorem Rds.bxi {σ : Stb} {L : List Res} {b : Nat} {cs : List Value} {T : TypeId} [h : HasBx b L cs T] : Rds σ L (.pointer (some ⟨b, 0, none⟩)) cs := Rds.bx h.has
theorem Rds.of {σ : Stb} {L : List Res} {p : Value} {x y : List Value} (h : Rds σ L p x) (e : x = y) : Rds σ L p y := e ▸ h
theorem Rds.fld {σ : Stb} {L : List Res} {p : Value} {x y : List Value} {off : Nat} (h : Rds σ L p x) (hd : x.drop off = y) : Rds σ L (padd p off) y := by
  intro w hI
  obtain ⟨a, rfl, ha⟩ := h w hI
  refine ⟨a.add off, rfl, fun j u hu => ?_⟩
  subst hd
  rw [add_add]
  exact ha _ _ (by simpa using hu)
theorem Rds.fld0 {σ : Stb} {L : List Res} {p : Value} {x : List Value} {off : Nat} (h : Rds σ L p x) : Rds σ L (padd p off) (x.drop off) := h.fld rfl
theorem Rds.isP {σ : Stb} {L : List Res} {p : Value} {x : List Value} (h : Rds σ L p x) {w : World} (hI : Inv σ L w) : ∃ a, p = .pointer (some a) := by
  obtain ⟨a, h1, _⟩ := h w hI
  exact ⟨a, h1⟩
theorem Rds.take {σ : Stb} {L : List Res} {p : Value} {x : List Value} (h : Rds σ L p x) (n : Nat) : Rds σ L p (x.take n) := by
  intro w hI
  obtain ⟨a, h1, h2⟩ := h w hI
  exact ⟨a, h1, fun j u hu => h2 j u (by rw [List.getElem?_take] at hu; split at hu <;> simp_all)⟩

theorem flat_at {α : Type} {enc : α → List Value} {sz : Nat} : ∀ {l : List α}, (∀ x ∈ l, (enc x).length = sz) → ∀ {k : Nat} (hk : k < l.length) (j : Nat) (u : Value), (enc l[k])[j]? = some u → (l.map enc).flatten[k * sz + j]? = some u
  | [], _, k, hk, _, _, _ => by simp at hk
  | x :: l, hs, 0, _, j, u, hu => by
    simp only [List.map_cons, List.flatten_cons, Nat.zero_mul, Nat.zero_add]
    simp only [List.getElem_cons_zero] at hu
    have : j < (enc x).length := (List.getElem?_eq_some_iff.1 hu).1
    rw [List.getElem?_append_left this]; exact hu
  | x :: l, hs, k + 1, hk, j, u, hu => by
    simp only [List.map_cons, List.flatten_cons]
    simp only [List.getElem_cons_succ] at hu
    have hx : (enc x).length = sz := hs x (List.mem_cons_self ..)
    have ih := flat_at (fun y hy => hs y (List.mem_cons_of_mem _ hy)) (by simpa using hk) j u hu
    have e : (k + 1) * sz + j = sz + (k * sz + j) := by rw [Nat.add_mul]; omega
    rw [e, List.getElem?_append_right (by omega), hx]
    simpa using ih

theorem Rds.ix {α : Type} {σ : Stb} {L : List Res} {sz : Nat} {enc : α → List Value} {v : Value} {l : List α} (h : Sl σ sz enc v l) {k : Nat} (hk : k < l.length) : Rds σ L (ixp v sz k) (enc l[k]) := by
  obtain ⟨⟨A, cap, h1, h2, h3, h4, h5⟩, h6⟩ := h
  intro w hI
  cases A with
  | none => have := (h4 rfl).1; subst this; simp at hk
  | some a =>
    obtain ⟨h7, cs, E, fr, h8, h9⟩ := h5 a rfl (by intro e; subst e; simp at hk)
    subst h1
    refine ⟨a.add (k * sz), rfl, fun j u hu => ?_⟩
    rw [add_add, add_off a h7, cell_of_row w _ _ _ _ _ (hI.agree _ _ h8)]
    exact h9 _ _ (flat_at h6 hk j u hu)

theorem own.cells {α : Type} {σ : Stb} {L : List Res} {sz : Nat} {enc : α → List Value} {E : TypeId} {v : Value} {l : List α} (h : Has (own sz enc E v l) L) {w : World} (hI : Inv σ L w) :
    (∀ x ∈ l, (enc x).length = sz) ∧ ((v = .slice none 0 0 ∧ l = []) ∨ ∃ g cap cur fr, v = .slice (some ⟨g, 0, none⟩) l.length cap ∧ w.heap[g]? = some (.cells cur E fr) ∧ NF fr cur.size ∧ l.length ≤ cap ∧ cap ≤ maxLen ∧ cur.size = cap * sz ∧ cur.toList.take (l.length * sz) = (l.map enc).flatten) := by
  obtain ⟨hp1, hp2, A, cc, hp3⟩ := hI.pr _ h.mem
  refine ⟨hp1, ?_⟩
  cases hb : v.ownBlock with
  | none => exact .inl (hp2 hb)
  | some b =>
    obtain ⟨o, ho, g, cap, cur, fr, rfl, rfl, h1, h2, h3, h4, h5⟩ := hI.own _ h.mem b hb
    simp [Value.ownBlock] at hb
    subst hb
    exact .inr ⟨g, cap, cur, fr, rfl, ho, h1, h2, h3, h4, h5⟩

theorem Rds.ixo {α : Type} {σ : Stb} {L : List Res} {sz : Nat} {enc : α → List Value} {E : TypeId} {v : Value} {l : List α} (h : Has (own sz enc E v l) L) {k : Nat} (hk : k < l.length) : Rds σ L (ixp v sz k) (enc l[k]) := by
  intro w hI
  obtain ⟨hs, ⟨rfl, rfl⟩ | ⟨g, cap, cur, fr, rfl, hg, _, h2, h3, h4, h5⟩⟩ := own.cells h hI
  · simp at hk
  · refine ⟨(⟨g, 0, none⟩ : Addr).add (k * sz), rfl, fun j u hu => ?_⟩
    rw [add_add, add_at, cell_of_row w _ _ _ _ _ hg]
    have := flat_at hs hk j u hu
    rw [← h5, List.getElem?_take] at this
    split at this
    · simpa using this
    · cases this

/-- What a slice or a string has, as it is handed to append or copy: m elements, these cells. -/
def Src (P : Program) (σ : Stb) (L : List Res) (tx : TypeId) (sz : Nat) (x : Value) (m : Nat) (cs : List Value) : Prop :=
  (P.underlying tx = some .string ∨ ∃ e', P.underlying tx = some (.slice e')) ∧ cs.length = m * sz ∧
  ∀ w, Inv σ L w → (Builtin.lenOf x).run P w = .ok m w ∧ (∀ n, n ≤ m → (Builtin.firstCells sz n x).run P w = .ok (cs.take (n * sz)).toArray w)

theorem run_firstCells_sl (P : Program) (w : World) (sz n : Nat) (a : Addr) (len cap : Nat) (cs : List Value) (hn : n * sz ≤ cs.length) (hc : ∀ j u, cs[j]? = some u → w.cell? (a.add j) = some u) :
    (Builtin.firstCells sz n (.slice (some a) len cap)).run P w = .ok (cs.take (n * sz)).toArray w := by
  have := run_loadCells_list (P := P) w a (cs.take (n * sz)) (fun j v hv => hc j v (by rw [List.getElem?_take] at hv; split at hv <;> simp_all))
  rw [List.length_take, Nat.min_eq_left hn] at this
  simp only [Builtin.firstCells, this]

theorem flat_len {α : Type} {enc : α → List Value} {sz : Nat} : ∀ {l : List α}, (∀ x ∈ l, (enc x).length = sz) → (l.map enc).flatten.length = l.length * sz
  | [], _ => by simp
  | x :: l, h => by
    have ih := flat_len (l := l) (fun y hy => h y (List.mem_cons_of_mem _ hy))
    simp only [List.map_cons, List.flatten_cons, List.length_append, h x (List.mem_cons_self ..), ih, List.length_cons, Nat.add_mul, Nat.one_mul]
    omega

theorem Src.sl {α : Type} {P : Program} {σ : Stb} {L : List Res} {sz : Nat} {enc : α → List Value} {v : Value} {l : List α} {tx e1 s1 b1 : Nat} [hs : SI P tx e1 s1 b1] (h : Sl σ sz enc v l) : Src P σ L tx sz v l.length (l.map enc).flatten := by
  obtain ⟨i, h1, _⟩ := hs.parts
  refine ⟨.inr ⟨_, h1⟩, flat_len h.size, fun w hI => ?_⟩
  obtain ⟨⟨A, cap, rfl, h2, h3, h4, h5⟩, h6⟩ := h
  refine ⟨rfl, fun n hn => ?_⟩
  have hle : n * sz ≤ (l.map enc).flatten.length := by rw [flat_len h6]; exact Nat.mul_le_mul_right _ hn
  cases A with
  | none => have := (h4 rfl).1; subst this; simp [Builtin.firstCells]
  | some a =>
    by_cases hl : l = []
    · subst hl
      simp at hn; subst hn
      exact run_firstCells_sl P w sz 0 a _ _ _ (by simp) (by simp)
    · obtain ⟨h7, cs, E, fr, h8, h9⟩ := h5 a rfl hl
      refine run_firstCells_sl P w sz n a _ _ _ hle fun j u hu => ?_
      rw [add_off a h7, cell_of_row w _ _ _ _ _ (hI.agree _ _ h8)]
      exact h9 _ _ hu
theorem Src.own {α : Type} {P : Program} {σ : Stb} {L : List Res} {sz : Nat} {enc : α → List Value} {E : TypeId} {v : Value} {l : List α} {tx e1 s1 b1 : Nat} [hs : SI P tx e1 s1 b1] (h : Has (own sz enc E v l) L) (hsz : ∀ x ∈ l, (enc x).length = sz) : Src P σ L tx sz v l.length (l.map enc).flatten := by
  obtain ⟨i, h1, _⟩ := hs.parts
  refine ⟨.inr ⟨_, h1⟩, flat_len hsz, fun w hI => ?_⟩
  obtain ⟨h6, ⟨rfl, rfl⟩ | ⟨g, cap, cur, fr, rfl, hg, _, h2, h3, h4, h5⟩⟩ := own.cells h hI
  · refine ⟨rfl, fun n hn => ?_⟩
    simp [Builtin.firstCells]
  · refine ⟨rfl, fun n hn => ?_⟩
    refine run_firstCells_sl P w sz n _ _ _ _ (by rw [flat_len h6]; exact Nat.mul_le_mul_right _ hn) fun j u hu => ?_
    rw [add_at, cell_of_row w _ _ _ _ _ hg]
    rw [← h5, List.getElem?_take] at hu
    split at hu
    · simpa using hu
    · cases hu
theorem Src.bx {P : Program} {σ : Stb} {L : List Res} {sz m c b : Nat} {cs : List Value} {E : TypeId} {tx e1 s1 b1 : Nat} [hs : SI P tx e1 s1 b1] (h : Has (Bx b cs E) L) (hl : cs.length = m * sz) : Src P σ L tx sz (.slice (some ⟨b, 0, none⟩) m c) m cs := by
  obtain ⟨i, h1, _⟩ := hs.parts
  refine ⟨.inr ⟨_, h1⟩, hl, fun w hI => ⟨rfl, fun n hn => ?_⟩⟩
  obtain ⟨a, ha, hc⟩ := Rds.bx (σ := σ) h w hI
  cases ha
  exact run_firstCells_sl P w sz n _ _ _ _ (by rw [hl]; exact Nat.mul_le_mul_right _ hn) hc
theorem Src.str {P : Program} {σ : Stb} {L : List Res} {tx : TypeId} [hs : StrI P tx] (l : List UInt8) : Src P σ L tx 1 (st l) l.length (l.map u8) := by
  refine ⟨.inl hs.parts, by simp, fun w hI => ⟨by simp [Builtin.lenOf, Lib.size_eq], fun n hn => ?_⟩⟩
  simp only [Builtin.firstCells, ByteArray.extract_mk, List.drop_zero, Nat.sub_zero, Nat.mul_one, Sem.run_pure, ← List.map_take]
  congr 1
  simp

theorem run_storeCells_my (P : Program) (g o : Nat) (t : TypeId) (fz : Nat × Nat) : ∀ (vs : List Value) (i : Nat) (cur : Array Value) (w : World), w.heap[g]? = some (.cells cur t fz) → NF fz cur.size → o + i + vs.length ≤ cur.size → (∀ v ∈ vs, v.oneCell' = true) →
    (storeCells ⟨g, o, none⟩ vs i).run P w = .ok () (w.setRow g (cur.toList.take (o + i) ++ vs ++ cur.toList.drop (o + i + vs.length)).toArray)
  | [], i, cur, w, hg, _, _, _ => by
    simp only [storeCells, List.append_nil, List.length_nil, Nat.add_zero, List.take_append_drop, Array.toArray_toList]
    rw [setRow_self w g cur t fz hg]
    rfl
  | v :: rest, i, cur, w, hg, hfz, hl, h1 => by
    have hi : o + i < cur.size := by simp at hl; omega
    have hadd : (⟨g, o, none⟩ : Addr).add i = ⟨g, o + i, none⟩ := by unfold Addr.add; split <;> simp_all
    have hcell : w.cell? ⟨g, o + i, none⟩ = some cur[o + i] := by simp [World.cell?, hg, hi]
    have hfro : w.frozen? ⟨g, o + i, none⟩ = false := by
      obtain ⟨lo, hi'⟩ := fz
      simp only [World.frozen?, hg, Bool.and_eq_false_iff, decide_eq_false_iff_not]
      simp only [NF] at hfz
      omega
    have hst : (store ((⟨g, o, none⟩ : Addr).add i) v).run P w = .ok () (w.setRow g (cur.setIfInBounds (o + i) v)) := by
      rw [hadd, run_store P w _ v _ (h1 v (by simp)), hcell]
      simp [hfro, setCell_eq_setRow w g (o + i) cur t fz v hg]
    have ih := run_storeCells_my P g o t fz rest (i + 1) (cur.setIfInBounds (o + i) v) (w.setRow g (cur.setIfInBounds (o + i) v)) (setRow_heap w g cur _ t _ hg) (by simpa using hfz) (by simp at hl ⊢; omega) (fun x hx => h1 x (by simp [hx]))
    simp only [storeCells, Sem.run_bind, hst, Result.andThen_ok, ih, setRow_setRow]
    congr 3
    have e := list_seg_step cur.toList (o + i) v rest (by simp at hl ⊢; omega)
    simpa [Array.toList_setIfInBounds, Nat.add_assoc] using e

theorem setRow_blk (w : World) (g : Nat) (cs : Array Value) (k : Nat) (h : k ≠ g) : (w.setRow g cs).heap[k]? = w.heap[k]? := setRow_other w g k cs h
theorem setRow_same (w : World) (g : Nat) (cur cs : Array Value) (t : TypeId) (fr : Nat × Nat) (hg : w.heap[g]? = some (.cells cur t fr)) : (w.setRow g cs).heap[g]? = some (.cells cs t fr) := setRow_heap w g cur cs t fr hg

end Go.Sp
