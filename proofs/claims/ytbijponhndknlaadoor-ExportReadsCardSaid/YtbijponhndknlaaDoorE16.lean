/-
  The engine, part 16: what an argument is, by its reading; arguments behind a call.
-/
import Derived.Test.YtbijponhndknlaaDoorE15
import Derived.Carry
import Derived.ChangeArms
set_option linter.unusedVariables false
set_option linter.unusedSimpArgs false
namespace Go.Sp
open Go.RowKit Go.ChangeShapes
/-- Cells of a type that can be read are those of some a; what is known of it. -/
structure Opn (P : Program) (W : World) (t : Nat) (sz : Nat) {A : Type} (enc : A → List Value) (ok : A → Prop) : Prop where
  op : ∀ (H : Type) (en : TypeId × Value → H) fuel cs x, DataW.trod en P W 0 (fun _ => true) true fuel t cs = some x → ∃ a, cs = enc a ∧ ok a
  size : ∀ a, (enc a).length = sz
section
variable {P : Program} {W : World} {t sz : Nat}
theorem opn_int {κ : IntKind} [h : KI P t κ] : Opn P W t 1 (fun m : Int => [.int κ m]) (fun m => (Lit.int κ m).wf = true) :=
  ⟨fun H en fuel cs x hx => by obtain ⟨n, h1, _, h3⟩ := DataW.trod_int h.parts hx; exact ⟨n, h1, h3⟩, fun _ => rfl⟩
theorem opn_string [h : StrI P t] : Opn P W t 1 (fun s : List UInt8 => [st s]) (fun s => s.length ≤ 9223372036854775807) :=
  ⟨fun H en fuel cs x hx => by
    obtain ⟨s, h1, _, h3⟩ := DataW.trod_string h.parts hx
    refine ⟨s.data.toList, h1, ?_⟩
    have h4 : s.data.toList.length = s.size := Array.length_toList
    have h5 : maxLen = 9223372036854775807 := rfl
    omega, fun _ => rfl⟩
theorem opn_bool [h : BoolI P t] : Opn P W t 1 (fun b : Bool => [.bool b]) (fun _ => True) :=
  ⟨fun H en fuel cs x hx => by
    cases fuel with
    | zero => simp [DataW.trod] at hx
    | succ n =>
      unfold DataW.trod at hx
      rw [h.parts] at hx
      split at hx <;> simp_all, fun _ => rfl⟩
theorem mapM_get {α β : Type} (f : α → Option β) : ∀ (l : List α) (r : List β), l.mapM f = some r → r.length = l.length ∧ ∀ (i : Nat) (a : α), l[i]? = some a → ∃ b, f a = some b ∧ r[i]? = some b
  | [], r, h => by simp at h; subst h; simp
  | x :: l, r, h => by
    simp only [List.mapM_cons, Option.bind_eq_bind, Option.bind_eq_some_iff, Option.pure_def, Option.some.injEq] at h
    obtain ⟨b, hb, bs, hbs, rfl⟩ := h
    obtain ⟨h1, h2⟩ := mapM_get f l bs hbs
    refine ⟨by simp [h1], fun i a ha => ?_⟩
    cases i with
    | zero => simp at ha; subst ha; exact ⟨b, hb, rfl⟩
    | succ i => simpa using h2 i a (by simpa using ha)
theorem cells_get {w : World} {a : Addr} {n : Nat} {cs : List Value} (h : w.cells? 0 a n = some cs) : cs.length = n ∧ ∀ j u, cs[j]? = some u → w.cell? (a.add j) = some u := by
  unfold World.cells? at h
  simp only [Nat.zero_le, if_true] at h
  obtain ⟨h1, h2⟩ := mapM_get _ _ _ h
  refine ⟨by simpa using h1, fun j u hj => ?_⟩
  have hlt : j < cs.length := (List.getElem?_eq_some_iff.1 hj).1
  have hlt2 : j < n := by simpa [h1] using hlt
  obtain ⟨b, hb, hr⟩ := h2 j j (by simp [hlt2])
  rw [hj] at hr; cases hr; exact hb
theorem choose_list {α β : Type} (Q : Nat → β → Prop) : ∀ (n : Nat), (∀ i, i < n → ∃ b, Q i b) → ∃ l : List β, l.length = n ∧ ∀ i (h : i < l.length), Q i l[i]
  | 0, _ => ⟨[], rfl, fun i h => by simp at h⟩
  | n + 1, hq => by
    obtain ⟨l, hl, h⟩ := choose_list (α := α) Q n fun i hi => hq i (by omega)
    obtain ⟨b, hb⟩ := hq n (by omega)
    refine ⟨l ++ [b], by simp [hl], fun i hi => ?_⟩
    by_cases hin : i < l.length
    · rw [List.getElem_append_left hin]; exact h i hin
    · have : i = n := by simp at hi; omega
      subst this
      rw [List.getElem_append_right (by omega)]; simpa [hl] using hb
theorem cell_block {w : World} {a : Addr} {u : Value} (h : w.cell? a = some u) : a.spot = none ∧ ∃ cs E fr, w.heap[a.block]? = some (.cells cs E fr) ∧ cs[a.off]? = some u := by
  unfold World.cell? at h
  split at h
  · rename_i cs E fr hb
    split at h
    · cases h
    · rename_i hs
      refine ⟨by cases hq : a.spot <;> simp_all, cs, E, fr, hb, h⟩
  · cases h
theorem opn_slice {e b1 : Nat} [h : SI P t e sz b1] {A : Type} {enc : A → List Value} {ok : A → Prop} (ho : Opn P W e sz enc ok) (hsz : 0 < sz) :
    Opn P W t 1 (fun p : Value × List A => [p.1]) (fun p => Sl (Stb.of W) sz enc p.1 p.2 ∧ (∃ A c, p.1 = .slice A p.2.length c) ∧ ∀ x ∈ p.2, ok x) := by
  obtain ⟨inf, h1, h2, h3, h4⟩ := h.parts
  refine ⟨fun H en fuel cs x hx => ?_, fun _ => rfl⟩
  have hce : P.cellsOf e = sz := by simp [Program.cellsOf, h2, h3]
  rcases DataW.trod_slice h1 hx with ⟨rfl, _⟩ | ⟨a, len, cap, elems, rest, n, rfl, rfl, _, _, hle, hm, hel, hget, _⟩
  · exact ⟨(.slice none 0 0, []), rfl, Sl.nil .., ⟨none, 0, rfl⟩, by simp⟩
  · rw [hce] at hget
    have hq : ∀ i, i < len → ∃ y : A, ok y ∧ ∀ j u, (enc y)[j]? = some u → W.cell? (a.add (i * sz + j)) = some u := fun i hi => by
      have hb := hget i hi
      rw [List.getElem?_eq_getElem (by omega), Option.bind_eq_some_iff] at hb
      obtain ⟨vs, hv, hd⟩ := hb
      obtain ⟨y, hy, hok⟩ := ho.op H en n vs _ hd
      obtain ⟨_, hcell⟩ := cells_get hv
      subst hy
      exact ⟨y, hok, fun j u hu => by have := hcell j u hu; rwa [add_add] at this⟩
    obtain ⟨l, hll, hl2⟩ := choose_list (α := Unit) _ len hq
    have hm' : maxLen = 9223372036854775807 := rfl
    refine ⟨(.slice (some a) len cap, l), rfl, ⟨⟨some a, cap, by rw [hll], by simp only; omega, hm, (fun h => by cases h), fun ad had hne => ?_⟩, fun x _ => ho.size x⟩, ⟨some a, cap, by rw [hll]⟩, fun x hx => ?_⟩
    · cases had
      simp only at hne
      have hpos : 0 < l.length := List.length_pos_iff.2 hne
      have h0 := (hl2 0 hpos).2
      obtain ⟨u0, hu0⟩ : ∃ u, (enc l[0])[0]? = some u := ⟨(enc l[0])[0]'(by rw [ho.size]; exact hsz), by simp⟩
      have hc0 := h0 0 u0 hu0
      have hz : a.add (0 * sz + 0) = a := by simp [Addr.add]
      rw [hz] at hc0
      obtain ⟨hs, cs, E, fr, hb, _⟩ := cell_block hc0
      refine ⟨hs, cs, E, fr, hb, fun j u hu => ?_⟩
      simp only at hu
      have hfl := flat_len (enc := enc) (sz := sz) (l := l) (fun x _ => ho.size x)
      have hj : j < l.length * sz := by rw [← hfl]; exact (List.getElem?_eq_some_iff.1 hu).1
      have hqi : j / sz < l.length := Nat.div_lt_of_lt_mul (by rw [Nat.mul_comm]; exact hj)
      have hr : j % sz < sz := Nat.mod_lt _ hsz
      have h5 := flat_at (enc := enc) (sz := sz) (l := l) (fun x _ => ho.size x) hqi (j % sz) ((enc l[j / sz])[j % sz]'(by rw [ho.size]; exact hr)) (by simp)
      rw [Nat.div_add_mod', hu] at h5
      cases h5
      have h6 := (hl2 (j / sz) hqi).2 (j % sz) _ (List.getElem?_eq_getElem (by rw [ho.size]; exact hr))
      rw [Nat.div_add_mod', add_off a hs, cell_of_row W _ _ _ _ _ hb] at h6
      exact h6
    · obtain ⟨i, hi, rfl⟩ := List.mem_iff_getElem.1 hx
      exact (hl2 i hi).1
/-- Fields, one behind the other. -/
structure FOpn (P : Program) (W : World) (fs : List Field) (off tot : Nat) {A : Type} (enc : A → List Value) (ok : A → Prop) : Prop where
  op : ∀ (H : Type) (en : TypeId × Value → H) fuel (cs : List Value) xs, cs.length = tot → fs.mapM (fun f => DataW.trod en P W 0 (fun _ => true) true fuel f.type ((cs.drop f.offset).take (P.cellsOf f.type))) = some xs → ∃ a, cs.drop off = enc a ∧ ok a
  size : ∀ a, off + (enc a).length = tot
theorem fopn_one {f : Field} {off tot sz : Nat} {A : Type} {enc : A → List Value} {ok : A → Prop} (h : Opn P W f.type sz enc ok) (ho : f.offset = off) (hs : P.cellsOf f.type = sz) (ht : off + sz = tot) : FOpn P W [f] off tot enc ok :=
  ⟨fun H en fuel cs xs hl hx => by
    obtain ⟨_, hg⟩ := mapM_get _ _ _ hx
    obtain ⟨b, hb, _⟩ := hg 0 f rfl
    obtain ⟨a, ha, hok⟩ := h.op H en fuel _ b hb
    rw [ho, hs, List.take_of_length_le (by simp; omega)] at ha
    exact ⟨a, ha, hok⟩, fun a => by rw [h.size]; exact ht⟩
theorem fopn_cons {f : Field} {fs : List Field} {off tot sz : Nat} {A B : Type} {enc : A → List Value} {ok : A → Prop} {enc2 : B → List Value} {ok2 : B → Prop} (h : Opn P W f.type sz enc ok) (ho : f.offset = off) (hs : P.cellsOf f.type = sz) (h2 : FOpn P W fs (off + sz) tot enc2 ok2) :
    FOpn P W (f :: fs) off tot (fun p : A × B => enc p.1 ++ enc2 p.2) (fun p => ok p.1 ∧ ok2 p.2) :=
  ⟨fun H en fuel cs xs hl hx => by
    simp only [List.mapM_cons, Option.bind_eq_bind, Option.bind_eq_some_iff, Option.pure_def, Option.some.injEq] at hx
    obtain ⟨b, hb, bs, hbs, _⟩ := hx
    obtain ⟨a, ha, hok⟩ := h.op H en fuel _ b hb
    obtain ⟨a2, ha2, hok2⟩ := h2.op H en fuel cs bs hl hbs
    rw [ho, hs] at ha
    refine ⟨(a, a2), ?_, hok, hok2⟩
    simp only
    rw [← ha, ← ha2, ← List.drop_drop, List.take_append_drop], fun a => by
    have h1 := h.size a.1
    have h3 := h2.size a.2
    simp only [List.length_append]; omega⟩
theorem opn_struct {fs : Array Field} {tot : Nat} {A : Type} {enc : A → List Value} {ok : A → Prop} (hu : P.underlying t = some (.struct fs)) (hc : P.cellsOf t = tot) (h : FOpn P W fs.toList 0 tot enc ok) : Opn P W t tot enc ok := by
  refine ⟨fun H en fuel cs x hx => ?_, fun a => by have := h.size a; omega⟩
  cases fuel with
  | zero => simp [DataW.trod] at hx
  | succ n =>
    unfold DataW.trod at hx
    rw [hu] at hx
    simp only at hx
    split at hx
    · rename_i hl
      rw [Option.map_eq_some_iff] at hx
      obtain ⟨xs, hxs, _⟩ := hx
      obtain ⟨a, ha, hok⟩ := h.op H en n cs xs (by rw [hl, hc]) hxs
      exact ⟨a, by simpa using ha, hok⟩
    · cases hx
theorem okWide_cells {r : Reach} {b0 : Nat} {v : Value} {d : TypeDesc} (hu : P.underlying t = some d) (ha : isAggD d = false) (h : Value.okWide P W r b0 t v) : v.cells.toList = [v] := by
  have : ∀ cs, v ≠ .agg cs := by
    rintro cs rfl
    unfold Value.okWide Cell.okWide Cell.ok at h
    rw [hu] at h
    cases d <;> simp_all [isAggD]
  cases v <;> simp_all [Value.cells]
theorem okWide_agg {r : Reach} {b0 : Nat} {v : Value} {d : TypeDesc} (hu : P.underlying t = some d) (ha : isAggD d = true) (h : Value.okWide P W r b0 t v) : v = .agg v.cells := by
  unfold Value.okWide at h
  rw [hu] at h
  cases d <;> simp_all [isAggD]
  · obtain ⟨cs, rfl, _⟩ := h; rfl
  · obtain ⟨cs, rfl, _⟩ := h; rfl
variable {H : Type} {en : TypeId × Value → H}
theorem arg_one {r : Reach} {b0 : Nat} {v : Value} {d : DataW H} {ps : List MemPlace} {A : Type} {enc : A → List Value} {ok : A → Prop} {s : Nat} [hT : TI P t false s] (ho : Opn P W t sz enc ok) (hval : Value.okWide P W r b0 t v) (hd : DataW.Trod en P W 0 (fun _ => true) true t v d ps) :
    ∃ a, [v] = enc a ∧ ok a := by
  obtain ⟨dd, i, h1, h2, h3, h4⟩ := hT.parts
  obtain ⟨fuel, hf⟩ := hd
  rw [okWide_cells h1 h4 hval] at hf
  exact ho.op H en fuel _ _ hf
theorem open_agg {r : Reach} {b0 : Nat} {v : Value} {d : DataW H} {ps : List MemPlace} {A : Type} {enc : A → List Value} {ok : A → Prop} {s : Nat} [hT : TI P t true s] (ho : Opn P W t sz enc ok) (hval : Value.okWide P W r b0 t v) (hd : DataW.Trod en P W 0 (fun _ => true) true t v d ps) :
    ∃ a, v = .agg (enc a).toArray ∧ ok a := by
  obtain ⟨dd, i, h1, h2, h3, h4⟩ := hT.parts
  obtain ⟨fuel, hf⟩ := hd
  obtain ⟨a, ha, hok⟩ := ho.op H en fuel _ _ hf
  refine ⟨a, ?_, hok⟩
  rw [okWide_agg h1 h4 hval, ← ha]
/-- All arguments read behind the call as they did. -/
theorem below_trodAll (hl : laidOutB P = true) {W' : World} (hb : Below W.heap.size W W') : ∀ (ts : List TypeId) (vs : List Value) (ds : List (DataW H)) (ps : List MemPlace), (ts.all fun t => P.readableRec t && decide (t < P.types.size)) = true → DataW.TrodAll en P W 0 (fun _ => true) true ts vs ds ps → (∀ x ∈ ps, x.block < W.heap.size) →
    DataW.TrodAll en P W' 0 (fun b => decide (b < W.heap.size)) true ts vs ds ps
  | [], [], [], ps, _, h, _ => h
  | t :: ts, v :: vs, d :: ds, ps, hr, h, hlt => by
    simp only [List.all_cons, Bool.and_eq_true, decide_eq_true_eq] at hr
    obtain ⟨p, q, h1, h2, rfl⟩ := h
    exact ⟨p, q, Below.trod hl hr.1.1 hr.1.2 h1 hb (fun x hx => hlt x (by simp [hx])), below_trodAll hl hb ts vs ds q (by simpa using hr.2) h2 (fun x hx => hlt x (by simp [hx])), rfl⟩
  | [], _ :: _, _, _, _, h, _ => by cases h
  | [], [], _ :: _, _, _, h, _ => by cases h
  | _ :: _, [], _, _, _, h, _ => by cases h
  | _ :: _, _ :: _, [], _, _, h, _ => by cases h
theorem trodAll_cons {w : World} {sp : Nat → Bool} {t : TypeId} {ts : List TypeId} {vs : List Value} {ds : List (DataW H)} {ps : List MemPlace} (h : DataW.TrodAll en P w 0 sp true (t :: ts) vs ds ps) :
    ∃ v vs' d ds' p q, vs = v :: vs' ∧ ds = d :: ds' ∧ ps = p ++ q ∧ DataW.Trod en P w 0 sp true t v d p ∧ DataW.TrodAll en P w 0 sp true ts vs' ds' q := by
  match vs, ds, h with
  | v :: vs', d :: ds', h => obtain ⟨p, q, h1, h2, h3⟩ := h; exact ⟨v, vs', d, ds', p, q, rfl, rfl, h3, h1, h2⟩
theorem trodAll_nil {w : World} {sp : Nat → Bool} {vs : List Value} {ds : List (DataW H)} {ps : List MemPlace} (h : DataW.TrodAll en P w 0 sp true [] vs ds ps) : vs = [] ∧ ds = [] ∧ ps = [] := by
  match vs, ds, h with
  | [], [], h => exact ⟨rfl, rfl, h⟩
end
end Go.Sp
