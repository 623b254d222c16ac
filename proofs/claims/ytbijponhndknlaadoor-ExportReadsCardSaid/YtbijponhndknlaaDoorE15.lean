/-
  The engine, part 15: slices.SortFunc, by the shelf's contract.
-/
import Derived.Test.YtbijponhndknlaaDoorE14
import Derived.Shelf.SlSortCmp.NoneTotal
set_option linter.unusedVariables false
set_option linter.unusedSimpArgs false
namespace Go.Sp
open Go.RowKit
theorem own_map {α β : Type} (f : β → α) (sz : Nat) (enc : α → List Value) (E : TypeId) (v : Value) (l : List β) : own sz (fun b => enc (f b)) E v l = own sz enc E v (l.map f) := by
  unfold own
  simp only [List.length_map, List.map_map, List.forall_mem_map, List.map_eq_nil_iff]
  rfl
theorem grow_of {W w' : World} (h : Inv (Stb.of W) [] w') : ∃ q os', w' = Sort.grow (W.drewN q) os' := by
  have hsz : W.heap.size ≤ w'.heap.size := h.size
  have hdr : W.drawn ≤ w'.drawn := h.drawn
  have hos := h.os
  have hout := h.output
  have htape := h.tape
  have hag : ∀ b, b < W.heap.size → w'.heap[b]? = W.heap[b]? := fun b hb => by
    have h1 : (Stb.of W).blk b = some W.heap[b] := by simp [Stb.of, hb]
    rw [h.agree b _ h1]; simp [hb]
  refine ⟨w'.drawn - W.drawn, w'.heap.extract W.heap.size w'.heap.size, ?_⟩
  have hheap : w'.heap = W.heap ++ w'.heap.extract W.heap.size w'.heap.size := by
    apply Array.ext_getElem?
    intro i
    by_cases hi : i < W.heap.size
    · rw [hag i hi, Array.getElem?_append_left hi]
    · rw [Array.getElem?_append_right (by omega), Array.getElem?_extract]
      by_cases h2 : i < w'.heap.size
      · rw [if_pos (by omega)]; congr 1; omega
      · rw [if_neg (by omega)]; simp; omega
  obtain ⟨h1, h2, h3, h4, h5⟩ := w'
  simp only at *
  simp only [Sort.grow, World.drewN]
  rw [hos, hout, htape]
  simp only [Stb.of, World.mk.injEq, true_and, and_true]
  exact ⟨hheap, by omega⟩
section
variable {P : Program} {ρ : Shelf.Ren}
theorem enters_fn {f : Nat} (h : ∃ fn, P.funcs[f]? = some fn ∧ fn.body.isNone = false ∧ (fn.name == "runtime.NumGoroutine") = false) : ∀ args w, (callFunc f args).run P w = .ok (.enter f args) w := by
  obtain ⟨fn, h1, h2, h3⟩ := h
  intro args w
  simp only [callFunc, Sem.run_bind, run_program, Result.andThen_ok, h1, h3, h2, Bool.false_eq_true, if_false, Sem.run_pure]
theorem flatK_eq {α : Type} [Inhabited α] (enc : α → List Value) (k : Nat) (l : List α) (hk : ∀ x, (enc x).length = k) : (Sort.flatK enc k l.toArray).toList = (l.map enc).flatten := by
  have hfl := flat_len (enc := enc) (sz := k) (l := l) (fun x _ => hk x)
  apply List.ext_getElem?
  intro t
  by_cases ht : t < l.length * k
  · have hk0 : 0 < k := by rcases Nat.eq_zero_or_pos k with h | h; (subst h; simp at ht); exact h
    have hq : t / k < l.length := Nat.div_lt_of_lt_mul (by rw [Nat.mul_comm]; exact ht)
    have hr : t % k < k := Nat.mod_lt _ hk0
    have h1 := flat_at (enc := enc) (sz := k) (l := l) (fun x _ => hk x) hq (t % k) ((enc l[t / k])[t % k]'(by rw [hk]; exact hr)) (by simp)
    rw [Nat.div_add_mod'] at h1
    rw [h1]
    have h2 := Sort.get_flatK enc k l.toArray t (by simpa using ht)
    have h3 : t < (Sort.flatK enc k l.toArray).size := by simpa using ht
    rw [getElem!_pos _ t h3] at h2
    rw [Array.getElem?_toList, Array.getElem?_eq_getElem h3, h2]
    have h4 : l.toArray[t / k]! = l[t / k] := by rw [getElem!_pos _ _ (by simpa using hq)]; simp
    rw [h4, getElem!_pos _ _ (by rw [hk]; exact hr)]
  · rw [List.getElem?_eq_none (by simp; omega), List.getElem?_eq_none (by omega)]
theorem run_isAggT {t sz : Nat} (h : TI P t true sz) (w : World) : (isAgg t).run P w = .ok true w := by
  obtain ⟨d, i, h1, h2, h3, h4⟩ := h.parts
  rw [run_isAgg h1, h4]
theorem run_sizeT {t sz : Nat} {b : Bool} (h : TI P t b sz) (w : World) : (Go.sizeOf t).run P w = .ok sz w := by
  obtain ⟨d, i, h1, h2, h3, h4⟩ := h.parts
  rw [run_sizeOf h2, h3]
/-- All elements may be. -/
theorem sort_all {α : Type} [Inhabited α] (L : Proofs.SlLaysF0.n6 P ρ) {k : Nat} (hT : TI P (ρ.t 24) true k) {enc : α → List Value} (hk : ∀ x, (enc x).length = k) (h1 : ∀ x, ∀ v ∈ enc x, v.oneCell' = true) (cf : α → α → Int) (hO : Sort.SWO (Proofs.ltOf cf)) {g : Nat} {cb : List Value}
    (hg : ∃ fn, P.funcs[g]? = some fn ∧ fn.body.isNone = false ∧ (fn.name == "runtime.NumGoroutine") = false) {σ : Stb} {F : List Res}
    (hcmp : ∀ x y W, Fn P g ([.agg (enc x).toArray, .agg (enc y).toArray] ++ cb) W fun v w' => v = i64 (cf x y) ∧ Inv (Stb.of W) [] w') {E : TypeId} {A : Option Addr} {cc : Nat} {l : List α} (hl : l.length < 4611686018427387904)
    (hfun : ∃ fn, P.funcs[ρ.f 6]? = some fn ∧ fn.body.isNone = false ∧ (fn.name == "runtime.NumGoroutine") = false) {w : World} (hI : Inv σ (own k enc E (.slice A l.length cc) l :: F) w) :
    Fn P (ρ.f 6) [.slice A l.length cc, .func (.func g) ⟨[]⟩ ⟨cb⟩] w fun v w' => v = .tuple #[] ∧ ∃ l' : List α, l'.Perm l ∧ l'.Pairwise (fun x y => Proofs.ltOf cf y x = false) ∧ Inv σ (own k enc E (.slice A l.length cc) l' :: F) w' := by
  refine ⟨hfun, ?_⟩
  obtain ⟨hsz, ⟨he, rfl⟩ | ⟨b, cap, cur, fr, he, hb, hnf, hle, hm, hcs, htk⟩⟩ := own.cells (L := own k enc E (.slice A l.length cc) l :: F) .z hI
  · refine (Proofs.AnyF.slices_SortFunc_none { L with } A cc (.func (.func g) ⟨[]⟩ ⟨cb⟩) w).mono fun e w' ⟨h2, h3⟩ => ?_
    subst h2; subst h3
    exact ⟨rfl, [], .refl _, .nil, hI⟩
  · cases he
    have hxs : l.length * k ≤ cc * k := Nat.mul_le_mul_right _ hle
    have hflat := flatK_eq enc k l hk
    have hfl := flat_len (enc := enc) (sz := k) (l := l) (fun x _ => hk x)
    have hH : Sort.HoldsK enc k w b 0 l.toArray := by
      intro j hj
      rw [Sort.size_flatK, List.size_toArray] at hj
      have hj2 : j < (Sort.flatK enc k l.toArray).size := by simpa using hj
      have h2 : (Sort.flatK enc k l.toArray)[j]? = cur[j]? := by
        rw [← Array.getElem?_toList, hflat, ← htk, List.getElem?_take, if_pos hj, Array.getElem?_toList]
      rw [Nat.zero_add]
      refine ⟨?_, ?_⟩
      · rw [cell_of_row w b _ _ _ _ hb, ← h2, Array.getElem?_eq_getElem hj2, getElem!_pos (Sort.flatK enc k l.toArray) _ hj2]; rfl
      · obtain ⟨lo, hi⟩ := fr
        simp only [World.frozen?, hb, Bool.and_eq_false_iff, decide_eq_false_iff_not]
        simp only [NF] at hnf
        omega
    have hblk : b < w.heap.size := (Array.getElem?_eq_some_iff.1 hb).1
    have hcon := Proofs.AnyQ.slices_SortFunc { L with } k (run_isAggT hT) (run_sizeT hT) enc hk h1 cf hO g cb.toArray b 0 cc l.toArray w (enters_fn hg)
      (fun m os dk _ x y => by
        have hc := (hcmp x y (Proofs.sortWorldK enc k w b 0 m dk os)).calls
        rw [← List.append_toArray] at hc
        refine hc.mono fun e w' he => ?_
        cases e with
        | returned v => obtain ⟨h2, h3⟩ := he; exact ⟨by rw [h2], grow_of h3⟩
        | panicked c => exact he.elim
        | outgrown => exact he.elim) hH hblk (by simpa using hl)
    refine hcon.mono fun e w' ⟨h2, d', m, os, hp, hs, hw⟩ => ?_
    subst h2
    refine ⟨rfl, d'.toList, ?_, ?_, ?_⟩
    · have h3 := hp.2.2
      have hds : d'.size = l.length := by simpa using hp.1
      have e1 : (d'.extract 0 l.toArray.size) = d' := by rw [List.size_toArray, ← hds, Array.extract_size]
      have e2 : (l.toArray.extract 0 l.toArray.size) = l.toArray := Array.extract_size ..
      rw [e1, e2] at h3
      simpa using h3
    · rw [List.pairwise_iff_getElem]
      intro i j hi hj hij
      have hds : d'.size = l.length := by simpa using hp.1
      simp only [Array.length_toList] at hi hj
      have := hs i j (Nat.zero_le _) hij (by simpa [hds] using hj)
      rw [getElem!_pos d' i (by omega), getElem!_pos d' j (by omega)] at this
      simpa using this
    · have hds : d'.size = l.length := by simpa using hp.1
      have hdl : d'.toList.length = l.length := by simpa using hds
      have hflat' := flatK_eq enc k d'.toList hk
      rw [Array.toArray_toList] at hflat'
      have hput : w'.heap[b]? = some (.cells (Sort.putCells id 0 (Sort.flatK enc k d') cur) E fr) := by
        rw [hw]
        simp only [Proofs.sortWorldK, Sort.grow, Sort.putRowK, Sort.putRow, Sort.mapBlock, Sort.ahead]
        rw [Array.getElem?_append_left (by simpa using hblk), Array.getElem?_modify, if_pos rfl, hb]; rfl
      refine hI.chg (by rw [hw]; rfl) (by rw [hw]; rfl) (by rw [hw]; rfl) (by rw [hw]; simp [Proofs.sortWorldK, Sort.grow, Sort.putRowK, Sort.putRow, Sort.mapBlock, Sort.ahead]) (fun b' hb' hne => ?_) ⟨fun x _ => hk x, fun hn => by simp [Value.ownBlock] at hn, some ⟨b, 0, none⟩, cc, by rw [hdl]⟩ (fun b' hb' => ?_)
        (by rw [hw]; exact Nat.le_add_right _ _)
      · have hne' : b ≠ b' := fun e => hne (by rw [← e]; rfl)
        rw [hw]
        simp only [Proofs.sortWorldK, Sort.grow, Sort.putRowK, Sort.putRow, Sort.mapBlock, Sort.ahead]
        rw [Array.getElem?_append_left (by simpa using hb'), Array.getElem?_modify, if_neg hne']
      · have e : b = b' := by simpa [own, Value.ownBlock] using hb'
        subst e
        refine ⟨.inl rfl, _, hput, b, cc, _, fr, by rw [hdl], rfl, ?_, by rw [hdl]; exact hle, hm, ?_, ?_⟩
        · simpa [Sort.putCells] using hnf
        · simpa [Sort.putCells] using hcs
        · rw [← hflat', hdl]
          apply List.ext_getElem?
          intro i
          rw [List.getElem?_take]
          split
          · rename_i hi
            have hi2 : i < (Sort.flatK enc k d').size := by rw [Sort.size_flatK, hds]; exact hi
            have hi3 : i < cur.size := by rw [hcs]; omega
            rw [Array.getElem?_toList, Array.getElem?_toList, Array.getElem?_eq_getElem hi2]
            have hv : (Sort.flatK enc k d')[i]! = (Sort.flatK enc k d')[i] := getElem!_pos (Sort.flatK enc k d') i hi2
            simp only [Sort.putCells, Array.getElem?_mapIdx, Array.getElem?_eq_getElem hi3, Option.map_some, Nat.zero_le, true_and, Nat.zero_add, hi2, if_true, Nat.sub_zero, hv, id]
          · rename_i hi
            rw [List.getElem?_eq_none (by simp [hds]; omega)]
/-- Sorted by a function value that answers without touching what was there. -/
theorem sort_func {α : Type} (L : Proofs.SlLaysF0.n6 P ρ) {k : Nat} [hT : TI P (ρ.t 24) true k] {enc : α → List Value} (hk : ∀ x, (enc x).length = k) (h1 : ∀ x, ∀ v ∈ enc x, v.oneCell' = true) (cf : α → α → Int) (hO : Sort.SWO (Proofs.ltOf cf)) {g : Nat} {cb : List Value} (p : α → Prop)
    (hg : ∃ fn, P.funcs[g]? = some fn ∧ fn.body.isNone = false ∧ (fn.name == "runtime.NumGoroutine") = false) {σ : Stb}
    (hcmp : ∀ x y, p x → p y → ∀ W, Fn P g ([.agg (enc x).toArray, .agg (enc y).toArray] ++ cb) W fun v w' => v = i64 (cf x y) ∧ Inv (Stb.of W) [] w') {E : TypeId} {A : Option Addr} {cc : Nat} {l : List α} (hp : ∀ x ∈ l, p x) (hl : l.length < 4611686018427387904)
    (hfun : ∃ fn, P.funcs[ρ.f 6]? = some fn ∧ fn.body.isNone = false ∧ (fn.name == "runtime.NumGoroutine") = false) :
    Sq1 P (ρ.f 6) [.slice A l.length cc, .func (.func g) ⟨[]⟩ ⟨cb⟩] σ (own k enc E (.slice A l.length cc) l) fun v σ' r => v = .tuple #[] ∧ σ' = σ ∧ ∃ l' : List α, l'.Perm l ∧ l'.Pairwise (fun x y => Proofs.ltOf cf y x = false) ∧ r = own k enc E (.slice A l.length cc) l' := by
  intro F w hI
  cases hl0 : l with
  | nil =>
    subst hl0
    refine ⟨hfun, (Proofs.AnyF.slices_SortFunc_none { L with } A cc (.func (.func g) ⟨[]⟩ ⟨cb⟩) w).mono fun e w' ⟨h2, h3⟩ => ?_⟩
    subst h2; subst h3
    exact ⟨σ, _, .refl σ, ⟨rfl, rfl, [], .refl _, .nil, rfl⟩, hI⟩
  | cons x r =>
    rw [← hl0]
    have : Inhabited { x // p x } := ⟨⟨x, hp x (by simp [hl0])⟩⟩
    have hat : l = (l.attach.map fun y => (⟨y.1, hp y.1 y.2⟩ : { x // p x })).map Subtype.val := by simp [List.map_map, Function.comp_def]
    generalize (l.attach.map fun y => (⟨y.1, hp y.1 y.2⟩ : { x // p x })) = q at hat
    subst hat
    have e0 := fun (m : List { x // p x }) n => own_map (Subtype.val : { x // p x } → α) k enc E (.slice A n cc) m
    rw [List.length_map, ← e0] at hI
    have := sort_all (enc := fun y : { x // p x } => enc y.1) L hT (fun y => hk y.1) (fun y => h1 y.1) (fun x y => cf x.1 y.1)
      ⟨fun x => hO.irrefl x.1, fun x y z => hO.trans x.1 y.1 z.1, fun x y z => hO.ntrans x.1 y.1 z.1⟩ hg (fun x y W => hcmp x.1 y.1 x.2 y.2 W) (by simpa using hl) hfun hI
    rw [List.length_map]
    refine this.mono fun v w' ⟨h2, l', h3, h4, h5⟩ => ⟨σ, _, .refl σ, ⟨h2, rfl, l'.map Subtype.val, h3.map _, ?_, rfl⟩, ?_⟩
    · rw [List.pairwise_map]; exact h4
    · rw [← e0]; exact h5
/-- What such a function value is, by its contract. -/
theorem cmp_of {g : Nat} {args : List Value} {v : Value} (h : ∀ σ, SpV P g args σ v) (W : World) : Fn P g args W fun u w' => u = v ∧ Inv (Stb.of W) [] w' := (h (Stb.of W)).run (Inv.of W)
end
end Go.Sp
