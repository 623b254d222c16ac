/-
  The engine, part 8: cuts, make, conversions; calls; regions whose order is open.
-/
import Derived.Test.YtbijponhndknlaaDoorE7
set_option linter.unusedVariables false
set_option linter.unusedSimpArgs false
namespace Go.Sp
open Go.RowKit

section
variable {P : Program} {c : Cx} {k : List Kt} {σ : Stb} {L : List Res} {ρ : Env} {ops l : List Oper}

theorem run_sliceBound {κ : IntKind} (w : World) (y j : Nat) (code : BoundsCode) (h : j ≤ y) : (Instr.sliceBound (.int κ (j : Int)) y code).run P w = .ok j w := by
  have : 0 ≤ (j : Int) ∧ (j : Int) ≤ (y : Int) := ⟨by omega, by omega⟩
  simp [Instr.sliceBound, asIntOf, this]
theorem p_cut {t u e sz b1 : Nat} {x lo hi : Operand} {κ κ' : IntKind} {A : Option Addr} {n cc : Nat} {m m' : Int} [hs : SI P t e sz b1] (i j : Nat) (hx : ev ρ x = some (.slice A n cc)) (hl : ev ρ lo = some (.int κ m)) (hh : ev ρ hi = some (.int κ' m'))
    (hm : m = (i : Int)) (hm' : m' = (j : Int)) (hij : i ≤ j) (hj : j ≤ cc) : Pr P σ L ρ (.slice t x (some lo) (some hi) none) u (slsub (.slice A n cc) sz i j) := by
  intro n' a w ha hI d pp es g
  subst hm; subst hm'
  obtain ⟨ii, h1, h2, h3, h4⟩ := hs.parts
  simp [execOp, ha.ev hx, ha.ev hl, ha.ev hh, Instr.sliceAt, Instr.slice, Instr.sliceBounds, run_underlying h1, run_sizeOf h2, h3, run_sliceBound w _ _ _ hj, run_sliceBound w _ _ _ hij, slsub]
theorem p_cutl {t u e sz b1 : Nat} {x lo : Operand} {κ : IntKind} {A : Option Addr} {n cc : Nat} {m : Int} [hs : SI P t e sz b1] (i : Nat) (hx : ev ρ x = some (.slice A n cc)) (hl : ev ρ lo = some (.int κ m))
    (hm : m = (i : Int)) (hi : i ≤ n) : Pr P σ L ρ (.slice t x (some lo) none none) u (slsub (.slice A n cc) sz i n) := by
  intro n' a w ha hI d pp es g
  subst hm
  obtain ⟨ii, h1, h2, h3, h4⟩ := hs.parts
  simp [execOp, ha.ev hx, ha.ev hl, Instr.sliceAt, Instr.slice, Instr.sliceBounds, run_underlying h1, run_sizeOf h2, h3, run_sliceBound w _ _ _ hi, slsub]
theorem p_cuth {t u e sz b1 : Nat} {x hi : Operand} {κ' : IntKind} {A : Option Addr} {n cc : Nat} {m' : Int} [hs : SI P t e sz b1] (j : Nat) (hx : ev ρ x = some (.slice A n cc)) (hh : ev ρ hi = some (.int κ' m'))
    (hm' : m' = (j : Int)) (hj : j ≤ cc) : Pr P σ L ρ (.slice t x none (some hi) none) u (slsub (.slice A n cc) sz 0 j) := by
  intro n' a w ha hI d pp es g
  subst hm'
  obtain ⟨ii, h1, h2, h3, h4⟩ := hs.parts
  simp [execOp, ha.ev hx, ha.ev hh, Instr.sliceAt, Instr.slice, Instr.sliceBounds, run_underlying h1, run_sizeOf h2, h3, run_sliceBound w _ _ _ hj, slsub]

/-! ### make -/
def rep (z : Value) (n : Nat) : List (List Value) := List.replicate n (cl z)
theorem l_mk {α : Type} {d : Nat} {x y : Operand} {t ty : TypeId} {p : String} {es : Array Edge} {g : Option (Nat × Bool)} {e sz bytes : Nat} {enc : α → List Value} {z : Value} {m m' : Int} {κ κ' : IntKind} (n n' : Nat) (z0 : α) [hs : SI P t e sz bytes] [hz : ZI P e z]
    (hg : gd ops ρ g = some true) (hd : Nat.blt d c.n = true) (hx : ev ρ x = some (.int κ m)) (hy : ev ρ y = some (.int κ' m')) (hm : m = (n : Int)) (hm' : m' = (n' : Int)) (hnn : n ≤ n') (hn : n' ≤ 9223372036854775807) (hb : n' * bytes ≤ 281474976710656)
    (hz0 : enc z0 = cl z) (hzs : (cl z).length = sz)
    (h : ∀ A, Wl P c ops l k σ (own sz enc e (.slice A n n') (List.replicate n z0) :: L) ((d, .slice A n n') :: ρ)) :
    Wl P c ops (⟨some d, .makeSlice t x y, ty, p, es, g⟩ :: l) k σ L ρ := by
  intro w hI a ha
  simp only [wpList]
  rw [gd_wanted ha (o := ⟨some d, .makeSlice t x y, ty, p, es, g⟩) hg]
  simp only [if_true]
  refine .inl ?_
  subst hm; subst hm'
  obtain ⟨i, h1, h2, h3, h4⟩ := hs.parts
  have hzc : z.cells.size = sz := by rw [← hzs, ← cl_eq]; simp
  have w1 : IntKind.i64.wrap (n : Int) = n := IntWalk.i64_in _ (by omega)
  have w2 : IntKind.i64.wrap (n' : Int) = n' := IntWalk.i64_in _ (by omega)
  have hb' : ¬ ((i.bytes : Int) * (n' : Int) > 2 ^ 48) := by
    rw [h4]
    have : ((bytes * n' : Nat) : Int) ≤ 281474976710656 := by rw [Nat.mul_comm]; omega
    simp only [Int.natCast_mul] at this
    omega
  have e1 : (execOp a.eval ⟨some d, .makeSlice t x y, ty, p, es, g⟩).run P w = .ok (.value (.slice (some ⟨w.heap.size, 0, none⟩) n n')) (w.alloc (.cells ((Array.range (n' * sz)).map ((if n' * sz = 0 then (#[] : Array Value) else z.cells)[· % (if n' * sz = 0 then (#[] : Array Value) else z.cells).size]!)) e)) := by
    have c1 : ¬ ((n' : Int) < 0) := by omega
    have c2 : ¬ ((n : Int) < 0) := by omega
    have c3 : ¬ ((n : Int) > (n' : Int)) := by omega
    simp only [execOp, ha.ev hx, ha.ev hy, Instr.makeSlice, asInt, asIntOf, run_underlying h1, run_typeInfo h2, Sem.run_bind, Sem.run_pure, Result.andThen_ok, w1, w2, h3, run_sizeOf h2, Int.toNat_natCast, run_askRoom]
    simp only [c1, c2, c3, hb', decide_false, Bool.or_false, Bool.false_eq_true, if_false, Sem.run_bind, Sem.run_pure, Result.andThen_ok, run_askRoom, run_sizeOf h2, h3]
    by_cases h0 : n' * sz = 0
    · simp [h0, newRow]
    · simp [h0, newRow, run_zeroValue hz.ok]
  simp only [Oper.wp, e1, Oper.upon]
  have hlen : ∀ n, (List.map enc (List.replicate n z0)).flatten = (List.replicate n (cl z)).flatten := fun n => by simp [hz0]
  refine h (some ⟨w.heap.size, 0, none⟩) _ ?_ _ (ha.put d _ hd)
  refine hI.grow rfl rfl rfl (by simp) (fun b hb => Below.heap_alloc _ _ _ hb) ⟨fun q hq => ?_, fun hn => by simp [Value.ownBlock] at hn, _, _, by rw [List.length_replicate]⟩ (fun b hb => ?_) (Nat.le_refl _)
  · rw [List.eq_of_mem_replicate hq, hz0, hzs]
  · have hb' : w.heap.size = b := by simpa [Sp.own, Value.ownBlock] using hb
    subst hb'
    refine ⟨Nat.le_refl _, _, heap_alloc_new _ _, w.heap.size, n', _, (0, 0), by rw [List.length_replicate], rfl, .inl rfl, by simpa using hnn, by simp only [maxLen]; omega, by simp, ?_⟩
    rw [hlen]
    simp only [List.length_replicate]
    apply List.ext_getElem?
    intro q
    rw [List.getElem?_take]
    have hle : n * sz ≤ n' * sz := Nat.mul_le_mul_right _ hnn
    have hrl : (List.replicate n (cl z)).flatten.length = n * sz := by simp [hzs]
    split
    · rename_i hq
      have hsz : 0 < sz := by rcases Nat.eq_zero_or_pos sz with h | h; (subst h; simp at hq); exact h
      have h0 : ¬ n' * sz = 0 := by omega
      have hmod : q % sz < sz := Nat.mod_lt _ hsz
      have hr : (List.replicate n (cl z)).flatten[q]? = (cl z)[q % sz]? := by
        have hk : q / sz < n := Nat.div_lt_of_lt_mul (by rw [Nat.mul_comm]; exact hq)
        have := flat_at (enc := fun (_ : Nat) => cl z) (l := List.replicate n 0) (sz := sz) (fun x _ => hzs) (k := q / sz) (by simpa using hk) (q % sz) ((cl z)[q % sz]'(by omega)) (by simp)
        rw [List.map_replicate, Nat.div_add_mod'] at this
        rw [this]; simp [hzs, hmod]
      rw [hr]
      simp only [h0, if_false, Array.toList_map, Array.toList_range, hzc]
      rw [List.getElem?_map, List.getElem?_range (by omega)]
      have hzl : z.cells.toList[q % sz]? = some ((cl z)[q % sz]'(by omega)) := by rw [cl_eq]; simp
      simp only [Option.map_some]
      have : z.cells[q % sz]! = (cl z)[q % sz]'(by omega) := by
        have h9 : z.cells[q % sz]? = some ((cl z)[q % sz]'(by omega)) := by rw [← hzl]; simp
        rw [getElem!_def, h9]
      rw [this]; simp
    · rename_i hq
      rw [List.getElem?_eq_none (by omega)]

/-! ### Conversions -/
theorem own.u8 (l : List UInt8) : ∀ x ∈ l, ([u8 x] : List Value).length = 1 := fun _ _ => rfl
abbrev eu8 (b : UInt8) : List Value := [u8 b]
theorem flat_u8 (l : List UInt8) : (l.map eu8).flatten = l.map u8 := by
  induction l with
  | nil => rfl
  | cons x l ih => simp only [List.map_cons, List.flatten_cons, ih]; rfl
theorem l_s2b {d : Nat} {x : Operand} {t t' ty : TypeId} {p : String} {es : Array Edge} {g : Option (Nat × Bool)} {e bytes : Nat} {b : List UInt8} [hst : StrI P t] [hs : SI P t' e 1 bytes] [hk : KI P e .u8]
    (hg : gd ops ρ g = some true) (hd : Nat.blt d c.n = true) (hx : ev ρ x = some (st b)) (hb : b.length ≤ 9223372036854775806)
    (h : ∀ A cc, Wl P c ops l k σ (own 1 eu8 e (.slice A b.length cc) b :: L) ((d, .slice A b.length cc) :: ρ)) :
    Wl P c ops (⟨some d, .convert t t' x, ty, p, es, g⟩ :: l) k σ L ρ := by
  intro w hI a ha
  simp only [wpList]
  rw [gd_wanted ha (o := ⟨some d, .convert t t' x, ty, p, es, g⟩) hg]
  simp only [if_true]
  refine .inl ?_
  obtain ⟨i, h1, h2, h3, h4⟩ := hs.parts
  have hsz : (⟨b.toArray⟩ : ByteArray).size = b.length := by rw [Lib.size_eq]
  have hr := Lib.run_convert_string_bytes (P := P) w t t' e ⟨b.toArray⟩ hst.parts h1 hk.parts
  rw [hsz] at hr
  simp only [Oper.wp, execOp, ha.ev hx, Sem.run_bind, hr, Result.andThen_ok, Sem.run_pure, Oper.upon]
  have hge := grownCap_ge w b.length 0 e
  have hcm : grownCap w b.length 0 e ≤ maxLen := grownCap_le_maxLen w _ 0 e (by simp only [maxLen]; omega)
  have hcs : (Lib.bytesCells w e ⟨b.toArray⟩).size = grownCap w b.length 0 e := by
    simp only [Lib.bytesCells, Array.size_append, Array.size_map, Array.size_replicate, hsz]
    have : b.toArray.size = b.length := by simp
    omega
  refine h (some ⟨w.heap.size, 0, none⟩) (grownCap w b.length 0 e) _ ?_ _ (ha.put d _ hd)
  refine hI.grow rfl rfl rfl (by rw [Lib.bytesWorld_size]; omega) (fun j hj => Lib.bytesWorld_at_old w e _ j hj) ⟨fun _ _ => rfl, fun hn => by simp [Value.ownBlock] at hn, _, _, rfl⟩ (fun j hj => ?_) (by first | exact Nat.le_refl _ | exact Nat.le_succ _ | exact Nat.le_add_right _ _)
  have hb' : w.heap.size = j := by simpa [Sp.own, Value.ownBlock] using hj
  subst hb'
  refine ⟨Nat.le_refl _, _, Lib.bytesWorld_at_new w e _, w.heap.size, _, _, _, rfl, rfl, .inr (Nat.le_refl _), hge, hcm, by rw [hcs]; omega, ?_⟩
  rw [flat_u8, Nat.mul_one]
  simp only [Lib.bytesCells, Array.toList_append, Array.toList_map]
  rw [List.take_append_of_le_length (by simp), List.take_of_length_le (by simp)]
theorem fold_bytes : ∀ (l : List UInt8) (s : ByteArray), ((l.map fun b => (b.toNat : Int)).foldl (fun r n => r.push (UInt8.ofNat n.toNat)) s) = ⟨(s.data.toList ++ l).toArray⟩
  | [], s => by simp
  | x :: l, s => by
    simp only [List.map_cons, List.foldl_cons]
    rw [fold_bytes l]
    congr 1
    simp [ByteArray.push]
theorem p_b2s {x : Operand} {t t' u e bytes : Nat} {A : Option Addr} {n cc : Nat} {b : List UInt8} [hs : SI P t e 1 bytes] [hk : KI P e .u8] [hst : StrI P t'] (hx : ev ρ x = some (.slice A n cc)) (hsrc : Src P σ L t 1 (.slice A n cc) b.length (b.map u8)) : Pr P σ L ρ (.convert t t' x) u (st b) := by
  intro n' a w ha hI d pp es g
  obtain ⟨i, h1, h2, h3, h4⟩ := hs.parts
  obtain ⟨hu, hcs, hsr⟩ := hsrc
  obtain ⟨hlen, hfc⟩ := hsr w hI
  have hfc' := hfc b.length (Nat.le_refl _)
  rw [Nat.mul_one, List.take_of_length_le (by simp)] at hfc'
  have key : (convert t t' (.slice A n cc)).run P w = .ok (st b) w := by
    have hn : n = b.length := by simpa [Builtin.lenOf] using hlen
    subst hn
    rw [run_convert_bytes_string w t t' e A _ cc h1 hk.parts hst.parts]
    cases A with
    | none =>
      simp [Builtin.firstCells] at hfc'
      have : b = [] := by cases b with | nil => rfl | cons x y => simp at hfc'
      subst this
      rfl
    | some ad =>
      have hl : (loadCells ad b.length).run P w = .ok ((b.map fun x => (x.toNat : Int)).map (Value.int .u8)).toArray w := by
        simp only [Builtin.firstCells, Nat.mul_one] at hfc'
        rw [hfc']; simp
      rw [run_bytesToString w ad b.length cc _ hl, fold_bytes]
      simp
  simp only [execOp, ha.ev hx, Sem.run_bind, key, Result.andThen_ok, Sem.run_pure]

/-- A block whose cells are a row's. -/
theorem Inv.ownb {α : Type} {w : World} {b : Nat} {cs : List Value} {E : TypeId} (hI : Inv σ (Bx b cs E :: L) w) (sz : Nat) (enc : α → List Value) (xs : List α) (n : Nat) (hn : n = xs.length) (hcs : cs = (xs.map enc).flatten) (hsz : ∀ x ∈ xs, (enc x).length = sz) (hle : xs.length ≤ 9223372036854775807) :
    Inv σ (Sp.own sz enc E (.slice (some ⟨b, 0, none⟩) n n) xs :: L) w := by
  subst hn; subst hcs
  refine hI.chg rfl rfl rfl (Nat.le_refl _) (fun _ _ _ => rfl) ⟨hsz, fun hn => by simp [Value.ownBlock] at hn, _, _, rfl⟩ (fun b' hb' => ?_) (Nat.le_refl _)
  have hb : b = b' := by simpa [Sp.own, Value.ownBlock] using hb'
  subst hb
  obtain ⟨o, ho, hok⟩ := hI.own _ (List.mem_cons_self ..) b rfl
  have hok' : o = .cells (xs.map enc).flatten.toArray E (0, 0) := hok
  subst hok'
  have hl := flat_len hsz
  exact ⟨.inl rfl, _, ho, b, xs.length, _, (0, 0), rfl, rfl, .inl rfl, Nat.le_refl _, by simp only [maxLen]; omega, by simp only [List.size_toArray, hl], by rw [List.toList_toArray, ← hl, List.take_length]⟩
theorem l_ownb {α : Type} {b : Nat} {cs : List Value} {E : TypeId} {L0 : List Res} (sz : Nat) (enc : α → List Value) (xs : List α) (n : Nat) (ho : Out (Bx b cs E) L L0) (hn : n = xs.length) (hcs : cs = (xs.map enc).flatten) (hsz : ∀ x ∈ xs, (enc x).length = sz) (hle : xs.length ≤ 9223372036854775807)
    (h : Wl P c ops l k σ (own sz enc E (.slice (some ⟨b, 0, none⟩) n n) xs :: L0) ρ) : Wl P c ops l k σ L ρ := fun w hI => h w ((hI.out ho).ownb sz enc xs n hn hcs hsz hle)
theorem t_ownb {α : Type} {b : Nat} {cs : List Value} {E : TypeId} {L0 : List Res} (sz : Nat) (enc : α → List Value) (xs : List α) (n : Nat) (ho : Out (Bx b cs E) L L0) (hn : n = xs.length) (hcs : cs = (xs.map enc).flatten) (hsz : ∀ x ∈ xs, (enc x).length = sz) (hle : xs.length ≤ 9223372036854775807)
    (h : Ws P c k σ (own sz enc E (.slice (some ⟨b, 0, none⟩) n n) xs :: L0) ρ) : Ws P c k σ L ρ := fun w hI => h w ((hI.out ho).ownb sz enc xs n hn hcs hsz hle)
/-- A row is given up: it stays as it is. -/
theorem Inv.fzo {α : Type} {w : World} {sz : Nat} {enc : α → List Value} {E : TypeId} {v : Value} {xs : List α} (hI : Inv σ (Sp.own sz enc E v xs :: L) w) : ∃ σ', σ.le σ' ∧ Inv σ' L w ∧ Sl σ' sz enc v xs := by
  obtain ⟨hsz, hcase⟩ := own.cells (L := Sp.own sz enc E v xs :: L) .z hI
  obtain ⟨σ', h1, h2, h3, h4⟩ := hI.freeze
  refine ⟨σ', h1, h2, ?_, hsz⟩
  rcases hcase with ⟨rfl, rfl⟩ | ⟨g, cap, cur, fr, rfl, hg, hnf, hle, hm, hc, htk⟩
  · exact ⟨none, 0, rfl, by simp, by simp [maxLen], fun _ => ⟨rfl, rfl⟩, fun ad h => by cases h⟩
  · obtain ⟨o, ho, g', cap', cur', fr', e1, e2, e3, e4, e5, e6, e7⟩ := h4 g rfl
    cases e1; subst e2
    refine ⟨some ⟨g, 0, none⟩, cap, rfl, hle, hm, (fun h => by cases h), fun ad ha hne => ?_⟩
    cases ha
    refine ⟨rfl, cur', E, fr', ho, fun j u hu => ?_⟩
    rw [← e7, List.getElem?_take] at hu
    split at hu
    · simpa using hu
    · cases hu
theorem l_fzo {α : Type} {sz : Nat} {enc : α → List Value} {E : TypeId} {v : Value} {xs : List α} {L0 : List Res} (ho : Out (own sz enc E v xs) L L0) (h : ∀ σ', σ.le σ' → Sl σ' sz enc v xs → Wl P c ops l k σ' L0 ρ) : Wl P c ops l k σ L ρ := by
  intro w hI
  obtain ⟨σ', h1, h2, h3⟩ := (hI.out ho).fzo
  exact h σ' h1 h3 w h2
theorem t_fzo {α : Type} {sz : Nat} {enc : α → List Value} {E : TypeId} {v : Value} {xs : List α} {L0 : List Res} (ho : Out (own sz enc E v xs) L L0) (h : ∀ σ', σ.le σ' → Sl σ' sz enc v xs → Ws P c k σ' L0 ρ) : Ws P c k σ L ρ := by
  intro w hI
  obtain ⟨σ', h1, h2, h3⟩ := (hI.out ho).fzo
  exact h σ' h1 h3 w h2
/-- What is known of a row that is owned. -/
theorem l_known {α : Type} {sz : Nat} {enc : α → List Value} {E : TypeId} {v : Value} {xs : List α} (hh : Has (own sz enc E v xs) L) (h : (∀ x ∈ xs, (enc x).length = sz) → (∃ A cc, v = .slice A xs.length cc) → xs.length ≤ 9223372036854775807 → Wl P c ops l k σ L ρ) : Wl P c ops l k σ L ρ := by
  intro w hI
  obtain ⟨hp1, hp2, hp3⟩ := hI.pr _ hh.mem
  obtain ⟨hsz, hcase⟩ := own.cells hh hI
  refine h hp1 hp3 ?_ w hI
  rcases hcase with ⟨_, rfl⟩ | ⟨g, cap, cur, fr, _, _, _, hle, hm, _⟩
  · simp
  · simp only [maxLen] at hm; omega
theorem t_known {α : Type} {sz : Nat} {enc : α → List Value} {E : TypeId} {v : Value} {xs : List α} (hh : Has (own sz enc E v xs) L) (h : (∀ x ∈ xs, (enc x).length = sz) → (∃ A cc, v = .slice A xs.length cc) → xs.length ≤ 9223372036854775807 → Ws P c k σ L ρ) : Ws P c k σ L ρ := by
  intro w hI
  obtain ⟨hp1, hp2, hp3⟩ := hI.pr _ hh.mem
  obtain ⟨hsz, hcase⟩ := own.cells hh hI
  refine h hp1 hp3 ?_ w hI
  rcases hcase with ⟨_, rfl⟩ | ⟨g, cap, cur, fr, _, _, _, hle, hm, _⟩
  · simp
  · simp only [maxLen] at hm; omega

/-! Bytes -/
theorem one_u8 (b : List UInt8) : (b.map u8).all (·.oneCell') = true := by
  rw [List.all_eq_true]
  intro x hx
  obtain ⟨y, _, rfl⟩ := List.mem_map.1 hx
  rfl
theorem all_flat {α : Type} {enc : α → List Value} (h : ∀ y, (enc y).all (·.oneCell') = true) (l : List α) : (l.map enc).flatten.all (·.oneCell') = true := by
  rw [List.all_eq_true]
  intro x hx
  obtain ⟨y, hy, hx⟩ := List.mem_flatten.1 hx
  obtain ⟨z, _, rfl⟩ := List.mem_map.1 hy
  exact List.all_eq_true.1 (h z) x hx
theorem Src.slu {tx e1 s1 b1 : Nat} {v : Value} {b : List UInt8} [hs : SI P tx e1 s1 b1] (h : Sl σ 1 eu8 v b) : Src P σ L tx 1 v b.length (b.map u8) := by
  have := Src.sl (P := P) (L := L) (hs := hs) h
  rwa [flat_u8] at this
theorem Src.ownu {tx e1 s1 b1 : Nat} {v : Value} {b : List UInt8} {E : TypeId} [hs : SI P tx e1 s1 b1] (h : Has (Sp.own 1 eu8 E v b) L) : Src P σ L tx 1 v b.length (b.map u8) := by
  have := Src.own (P := P) (σ := σ) (L := L) (hs := hs) h (fun _ _ => rfl)
  rwa [flat_u8] at this
theorem Src.bxu {tx e1 s1 b1 b c : Nat} {cs : List UInt8} {ws : List Value} {E : TypeId} {m : Nat} [hs : SI P tx e1 s1 b1] (h : Has (Bx b ws E) L) (hw : ws = cs.map u8) (hm : m = cs.length) : Src P σ L tx 1 (.slice (some ⟨b, 0, none⟩) m c) cs.length (cs.map u8) := by
  subst hw; subst hm
  exact Src.bx (hs := hs) h (by simp)
theorem l_appu {d : Nat} {s x : Operand} {t tx ty : TypeId} {p : String} {es : Array Edge} {g : Option (Nat × Bool)} {e : Nat} {z sv v : Value} {xs : List UInt8} (ys : List UInt8) {L0 : List Res} [hs : SI P t e 1 1] [hz : ZI P e z]
    (hg : gd ops ρ g = some true) (hd : Nat.blt d c.n = true) (hsv : ev ρ s = some sv) (hx : ev ρ x = some v) (ho : Out (own 1 eu8 e sv xs) L L0) (hsrc : Src P σ L tx 1 v ys.length (ys.map u8)) (hzs : (cl z).length = 1) (hb2 : xs.length + ys.length ≤ 140737488355328)
    (h : ∀ A cc, Wl P c ops l k σ (own 1 eu8 e (.slice A (xs.length + ys.length) cc) (xs ++ ys) :: L0) ((d, .slice A (xs.length + ys.length) cc) :: ρ)) :
    Wl P c ops (⟨some d, .call ⟨.builtin .append, #[s, x], #[t, tx]⟩, ty, p, es, g⟩ :: l) k σ L ρ :=
  l_app ys hg hd hsv hx ho hsrc (flat_u8 ys).symm rfl hzs (fun _ _ => rfl) (one_u8 ys) (by omega) (by omega) h
/-- A row's length may be told in another way. -/
theorem Inv.len {α : Type} {w : World} {sz : Nat} {enc : α → List Value} {E : TypeId} {A : Option Addr} {n m cc : Nat} {xs : List α} (h : n = m) (hI : Inv σ (Sp.own sz enc E (.slice A n cc) xs :: L) w) : Inv σ (Sp.own sz enc E (.slice A m cc) xs :: L) w := h ▸ hI

theorem Inv.oc {α : Type} {w : World} {sz : Nat} {enc : α → List Value} {E : TypeId} {A : Option Addr} {n m cc : Nat} {xs ys : List α} (h : n = m) (h2 : xs = ys) (hI : Inv σ (Sp.own sz enc E (.slice A n cc) xs :: L) w) : Inv σ (Sp.own sz enc E (.slice A m cc) ys :: L) w := h ▸ h2 ▸ hI
theorem gi {i : Nat} {κ : IntKind} {m n : Int} (h : get ρ i = some (.int κ m)) (e : m = n) : get ρ i = some (.int κ n) := e ▸ h
theorem gs {i : Nat} {A : Option Addr} {m n cc : Nat} (h : get ρ i = some (.slice A m cc)) (e : m = n) : get ρ i = some (.slice A n cc) := e ▸ h

/-! ### Calls -/
def appV : List Value → List Value → List Value
  | [], r => r
  | x :: l, r => x :: appV l r
/-- What is called, and with what. -/
def callee (ρ : Env) (f : Operand) (xs : List Operand) : Option (Nat × List Value) :=
  match ev ρ f with
  | some (.func (.func fid) ⟨fs⟩ ⟨cs⟩) => match evs ρ xs with
    | some vs => some (fid, appV fs (appV vs cs))
    | none => none
  | _ => none
theorem app_eq : ∀ (x r : List Value), appV x r = x ++ r
  | [], r => rfl
  | x :: l, r => by simp [appV, app_eq l r]

theorem run_call {fid : Nat} {as : List Value} {φ : Value → World → Prop} {f : Operand} {xs : Array Operand} {ts : Array TypeId} {n : Nat} {a : Act} {w : World} (ha : Fits n ρ a) (hc : callee ρ f xs.toList = some (fid, as)) (hf : Fn P fid as w φ)
    (d : Option Tmp) (ty : TypeId) (p : String) (es : Array Edge) (g : Option (Nat × Bool)) :
    (execOp a.eval ⟨d, .call ⟨.value f, xs, ts⟩, ty, p, es, g⟩).run P w = .ok (.enter fid as.toArray) w := by
  unfold callee at hc
  split at hc
  · rename_i fs cs hfe
    split at hc
    · rename_i vs hvs
      cases hc
      obtain ⟨fn, h1, h2, h3⟩ := hf.fun_
      have hargs : (xs.map a.eval) = vs.toArray := by rw [← ha.evs hvs, arr_map]
      simp only [execOp, resolve, hargs, ha.ev hfe, Deferred.ofValue, Sem.run_bind, Sem.run_pure, Result.andThen_ok, invoke, callFunc, run_program, h1, h3, h2, Bool.false_eq_true, if_false]
      congr 2
      simp [app_eq]
    · cases hc
  · cases hc

theorem l_call {d : Option Tmp} {f : Operand} {xs : Array Operand} {ts : Array TypeId} {ty : TypeId} {p : String} {es : Array Edge} {g : Option (Nat × Bool)} {fid : Nat} {as : List Value} {Ψ : Value → Stb → List Res → Prop}
    (hg : gd ops ρ g = some true) (hc : callee ρ f xs.toList = some (fid, as)) (hs : ∀ w, Inv σ L w → Fn P fid as w fun v w' => ∃ σ' L', Ψ v σ' L' ∧ Inv σ' L' w')
    (h : ∀ v σ' L', Ψ v σ' L' → ∀ w, Inv σ' L' w → ∀ a, Fits c.n ρ a → wpList P ops.toArray (U P c.fn c.R k) l (a.put d v) w) : Wl P c ops (⟨d, .call ⟨.value f, xs, ts⟩, ty, p, es, g⟩ :: l) k σ L ρ := by
  intro w hI a ha
  simp only [wpList]
  rw [gd_wanted ha (o := ⟨d, .call ⟨.value f, xs, ts⟩, ty, p, es, g⟩) hg]
  simp only [if_true]
  refine .inl ?_
  have hfn := hs w hI
  simp only [Oper.wp, run_call ha hc hfn, Oper.upon]
  refine hfn.calls.mono fun e w' he => ?_
  cases e with
  | returned v =>
    obtain ⟨σ', L', h1, h2⟩ := he
    exact h v σ' L' h1 w' h2 a ha
  | panicked ch => exact he.elim
  | outgrown => exact he.elim

theorem l_call0 {d : Nat} {f : Operand} {xs : Array Operand} {ts : Array TypeId} {ty : TypeId} {p : String} {es : Array Edge} {g : Option (Nat × Bool)} {fid : Nat} {as : List Value} {Φ : Value → Stb → Prop}
    (hg : gd ops ρ g = some true) (hd : Nat.blt d c.n = true) (hc : callee ρ f xs.toList = some (fid, as)) (hs : Sp0 P fid as σ Φ) (h : ∀ v σ', σ.le σ' → Φ v σ' → Wl P c ops l k σ' L ((d, v) :: ρ)) :
    Wl P c ops (⟨some d, .call ⟨.value f, xs, ts⟩, ty, p, es, g⟩ :: l) k σ L ρ :=
  l_call (Ψ := fun v σ' L' => σ.le σ' ∧ Φ v σ' ∧ L' = L) hg hc (fun w hI => (hs L w hI).mono fun v w' ⟨σ', h1, h2, h3⟩ => ⟨σ', L, ⟨h1, h2, rfl⟩, h3⟩)
    fun v σ' L' ⟨h1, h2, h3⟩ w hw a ha => by subst h3; exact h v σ' h1 h2 w hw _ (ha.put d v hd)
theorem l_call0n {f : Operand} {xs : Array Operand} {ts : Array TypeId} {ty : TypeId} {p : String} {es : Array Edge} {g : Option (Nat × Bool)} {fid : Nat} {as : List Value} {Φ : Value → Stb → Prop}
    (hg : gd ops ρ g = some true) (hc : callee ρ f xs.toList = some (fid, as)) (hs : Sp0 P fid as σ Φ) (h : ∀ v σ', σ.le σ' → Φ v σ' → Wl P c ops l k σ' L ρ) :
    Wl P c ops (⟨none, .call ⟨.value f, xs, ts⟩, ty, p, es, g⟩ :: l) k σ L ρ :=
  l_call (Ψ := fun v σ' L' => σ.le σ' ∧ Φ v σ' ∧ L' = L) hg hc (fun w hI => (hs L w hI).mono fun v w' ⟨σ', h1, h2, h3⟩ => ⟨σ', L, ⟨h1, h2, rfl⟩, h3⟩)
    fun v σ' L' ⟨h1, h2, h3⟩ w hw a ha => by subst h3; exact h v σ' h1 h2 w hw _ ha
theorem l_call1 {d : Nat} {f : Operand} {xs : Array Operand} {ts : Array TypeId} {ty : TypeId} {p : String} {es : Array Edge} {g : Option (Nat × Bool)} {fid : Nat} {as : List Value} {Φ : Value → Stb → Res → Prop}
    (hg : gd ops ρ g = some true) (hd : Nat.blt d c.n = true) (hc : callee ρ f xs.toList = some (fid, as)) (hs : Sp1 P fid as σ Φ) (h : ∀ v σ' r, σ.le σ' → Φ v σ' r → Wl P c ops l k σ' (r :: L) ((d, v) :: ρ)) :
    Wl P c ops (⟨some d, .call ⟨.value f, xs, ts⟩, ty, p, es, g⟩ :: l) k σ L ρ :=
  l_call (Ψ := fun v σ' L' => ∃ r, σ.le σ' ∧ Φ v σ' r ∧ L' = r :: L) hg hc (fun w hI => (hs L w hI).mono fun v w' ⟨σ', r, h1, h2, h3⟩ => ⟨σ', r :: L, ⟨r, h1, h2, rfl⟩, h3⟩)
    fun v σ' L' ⟨r, h1, h2, h3⟩ w hw a ha => by subst h3; exact h v σ' r h1 h2 w hw _ (ha.put d v hd)
theorem l_callq1 {d : Nat} {f : Operand} {xs : Array Operand} {ts : Array TypeId} {ty : TypeId} {p : String} {es : Array Edge} {g : Option (Nat × Bool)} {fid : Nat} {as : List Value} {r₀ : Res} {L0 : List Res} {Φ : Value → Stb → Res → Prop}
    (hg : gd ops ρ g = some true) (hd : Nat.blt d c.n = true) (hc : callee ρ f xs.toList = some (fid, as)) (ho : Out r₀ L L0) (hs : Sq1 P fid as σ r₀ Φ) (h : ∀ v σ' r, σ.le σ' → Φ v σ' r → Wl P c ops l k σ' (r :: L0) ((d, v) :: ρ)) :
    Wl P c ops (⟨some d, .call ⟨.value f, xs, ts⟩, ty, p, es, g⟩ :: l) k σ L ρ :=
  l_call (Ψ := fun v σ' L' => ∃ r, σ.le σ' ∧ Φ v σ' r ∧ L' = r :: L0) hg hc (fun w hI => (hs L0 w (hI.out ho)).mono fun v w' ⟨σ', r, h1, h2, h3⟩ => ⟨σ', r :: L0, ⟨r, h1, h2, rfl⟩, h3⟩)
    fun v σ' L' ⟨r, h1, h2, h3⟩ w hw a ha => by subst h3; exact h v σ' r h1 h2 w hw _ (ha.put d v hd)
theorem l_callq1n {f : Operand} {xs : Array Operand} {ts : Array TypeId} {ty : TypeId} {p : String} {es : Array Edge} {g : Option (Nat × Bool)} {fid : Nat} {as : List Value} {r₀ : Res} {L0 : List Res} {Φ : Value → Stb → Res → Prop}
    (hg : gd ops ρ g = some true) (hc : callee ρ f xs.toList = some (fid, as)) (ho : Out r₀ L L0) (hs : Sq1 P fid as σ r₀ Φ) (h : ∀ v σ' r, σ.le σ' → Φ v σ' r → Wl P c ops l k σ' (r :: L0) ρ) :
    Wl P c ops (⟨none, .call ⟨.value f, xs, ts⟩, ty, p, es, g⟩ :: l) k σ L ρ :=
  l_call (Ψ := fun v σ' L' => ∃ r, σ.le σ' ∧ Φ v σ' r ∧ L' = r :: L0) hg hc (fun w hI => (hs L0 w (hI.out ho)).mono fun v w' ⟨σ', r, h1, h2, h3⟩ => ⟨σ', r :: L0, ⟨r, h1, h2, rfl⟩, h3⟩)
    fun v σ' L' ⟨r, h1, h2, h3⟩ w hw a ha => by subst h3; exact h v σ' r h1 h2 w hw _ ha
theorem l_callq2 {d : Nat} {f : Operand} {xs : Array Operand} {ts : Array TypeId} {ty : TypeId} {p : String} {es : Array Edge} {g : Option (Nat × Bool)} {fid : Nat} {as : List Value} {r₀ : Res} {L0 : List Res} {Φ : Value → Stb → Res → Res → Prop}
    (hg : gd ops ρ g = some true) (hd : Nat.blt d c.n = true) (hc : callee ρ f xs.toList = some (fid, as)) (ho : Out r₀ L L0) (hs : Sq2 P fid as σ r₀ Φ) (h : ∀ v σ' s r, σ.le σ' → Φ v σ' s r → Wl P c ops l k σ' (s :: r :: L0) ((d, v) :: ρ)) :
    Wl P c ops (⟨some d, .call ⟨.value f, xs, ts⟩, ty, p, es, g⟩ :: l) k σ L ρ :=
  l_call (Ψ := fun v σ' L' => ∃ s r, σ.le σ' ∧ Φ v σ' s r ∧ L' = s :: r :: L0) hg hc (fun w hI => (hs L0 w (hI.out ho)).mono fun v w' ⟨σ', s, r, h1, h2, h3⟩ => ⟨σ', s :: r :: L0, ⟨s, r, h1, h2, rfl⟩, h3⟩)
    fun v σ' L' ⟨s, r, h1, h2, h3⟩ w hw a ha => by subst h3; exact h v σ' s r h1 h2 w hw _ (ha.put d v hd)

/-! ### A region whose order is open, all of whose operations are quiet -/
def Wq (P : Program) (c : Cx) (ops : List Oper) (l : List Oper) (k : List Kt) (σ : Stb) (L : List Res) (ρ : Env) : Prop :=
  ∀ a, Fits c.n ρ a → wpQuiet P ops.toArray (Inv σ L) (fun a' => ∀ w', Inv σ L w' → U P c.fn c.R k .normal a' w') l a
class DrawI (P : Program) : Prop where
  ok : P.follows .mixedOrders = true
theorem t_draw {id : Nat} {l : List Oper} [hm : DrawI P] (hB : Region.lexB .any l.toArray = true) (h : Wq P c l l k σ L ρ) : Ws P c (.code (.region id l.toArray true) :: k) σ L ρ :=
  fun w hI a ha => wp_region_quiet (C := Inv σ L) hm.ok hB hI.drew (by simpa using h a ha)
theorem q_nil (h : Ws P c k σ L ρ) : Wq P c ops [] k σ L ρ := fun a ha => wpQuiet_nil fun w hI => h w hI a ha
theorem q_p {d : Nat} {op : Op} {t : TypeId} {p : String} {es : Array Edge} {g : Option (Nat × Bool)} {v : Value} (hg : gd ops ρ g = some true) (hd : Nat.blt d c.n = true) (hp : Pr P σ L ρ op t v)
    (h : Wq P c ops l k σ L ((d, v) :: ρ)) : Wq P c ops (⟨some d, op, t, p, es, g⟩ :: l) k σ L ρ := by
  intro a ha
  simp only [wpQuiet]
  rw [gd_wanted ha (o := ⟨some d, op, t, p, es, g⟩) hg]
  simp only [if_true]
  refine ⟨v, fun w hI => ?_, h _ (ha.put d v hd)⟩
  simp only [Oper.quietAt, hp c.n a w ha hI, Oper.quietUpon, and_self]
theorem q_skip {d : Nat} {op : Op} {t : TypeId} {p : String} {es : Array Edge} {g : Option (Nat × Bool)} (hg : gd ops ρ g = some false) (hd : Nat.blt d c.n = true)
    (h : Wq P c ops l k σ L ((d, undef) :: ρ)) : Wq P c ops (⟨some d, op, t, p, es, g⟩ :: l) k σ L ρ := by
  intro a ha
  simp only [wpQuiet]
  rw [gd_wanted ha (o := ⟨some d, op, t, p, es, g⟩) hg]
  exact h _ (ha.put d undef hd)
theorem q_call0 {d : Nat} {f : Operand} {xs : Array Operand} {ts : Array TypeId} {ty : TypeId} {p : String} {es : Array Edge} {g : Option (Nat × Bool)} {fid : Nat} {as : List Value} {Φ : Value → Stb → Prop} {v : Value}
    (hg : gd ops ρ g = some true) (hd : Nat.blt d c.n = true) (hc : callee ρ f xs.toList = some (fid, as)) (hs : Sp0 P fid as σ Φ) (hv : ∀ u σ', σ.le σ' → Φ u σ' → u = v) (h : Wq P c ops l k σ L ((d, v) :: ρ)) :
    Wq P c ops (⟨some d, .call ⟨.value f, xs, ts⟩, ty, p, es, g⟩ :: l) k σ L ρ := by
  intro a ha
  simp only [wpQuiet]
  rw [gd_wanted ha (o := ⟨some d, .call ⟨.value f, xs, ts⟩, ty, p, es, g⟩) hg]
  simp only [if_true]
  refine ⟨v, fun w hI => ?_, h _ (ha.put d v hd)⟩
  have hfn := hs L w hI
  simp only [Oper.quietAt, run_call ha hc hfn, Oper.quietUpon, true_and]
  refine hfn.calls.mono fun e w' he => ?_
  cases e with
  | returned u =>
    obtain ⟨σ', h1, h2, h3⟩ := he
    exact ⟨by rw [hv u σ' h1 h2], h3.weaken h1⟩
  | panicked ch => exact he.elim
  | outgrown => exact he.elim
theorem q_split (d : Nat) {p : Prop} {_ : Decidable p} (hv : get ρ d = some (.bool (decide p))) (ht : p → Wq P c ops l k σ L ((d, .bool true) :: ρ)) (hf : ¬ p → Wq P c ops l k σ L ((d, .bool false) :: ρ)) :
    Wq P c ops l k σ L ρ := by
  intro a ha
  have key : ∀ b : Bool, a.tmps[d]? = some (.bool b) → Fits c.n ((d, .bool b) :: ρ) a := fun b hb =>
    ⟨ha.size, ha.defers, fun i v hi => by
      rw [get_cons] at hi
      split at hi
      · rename_i e; subst e; cases hi; exact hb
      · exact ha.at_ i v hi⟩
  have h0 := ha.at_ d _ hv
  by_cases h : p
  · exact ht h a (key true (by simpa [h] using h0))
  · exact hf h a (key false (by simpa [h] using h0))
theorem q_splitb (d : Nat) {b : Bool} (hv : get ρ d = some (.bool b)) (ht : b = true → Wq P c ops l k σ L ((d, .bool true) :: ρ)) (hf : b = false → Wq P c ops l k σ L ((d, .bool false) :: ρ)) :
    Wq P c ops l k σ L ρ := by
  intro a ha
  have key : ∀ b : Bool, a.tmps[d]? = some (.bool b) → Fits c.n ((d, .bool b) :: ρ) a := fun b hb =>
    ⟨ha.size, ha.defers, fun i v hi => by
      rw [get_cons] at hi
      split at hi
      · rename_i e; subst e; cases hi; exact hb
      · exact ha.at_ i v hi⟩
  have h0 := ha.at_ d _ hv
  cases b with
  | true => exact ht rfl a (key true h0)
  | false => exact hf rfl a (key false h0)
end
end Go.Sp
