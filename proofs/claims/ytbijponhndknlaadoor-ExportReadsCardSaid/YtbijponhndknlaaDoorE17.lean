/-
  The engine, part 17: append to what is stable; cuts by three indexes.
-/
import Derived.Test.YtbijponhndknlaaDoorE15
set_option linter.unusedVariables false
set_option linter.unusedSimpArgs false
namespace Go.Sp
open Go.RowKit
section
variable {P : Program} {c : Cx} {k : List Kt} {σ : Stb} {L : List Res} {ρ : Env} {ops l : List Oper}
/-- What append comes to where there is no room. -/
theorem run_append_st {α : Type} {t tx e : TypeId} {sz bytes : Nat} {ty : TypeId} {enc : α → List Value} {z : Value} [hs : SI P t e sz bytes] [hz : ZI P e z] (hzs : (cl z).length = sz)
    {A : Option Addr} {n sc : Nat} {x : Value} {xs ys : List α} (hS : Sl σ sz enc (.slice A n sc) xs) {m : Nat} (hm : m = ys.length) (hsrc : Src P σ L tx sz x m (ys.map enc).flatten) (hys : ∀ y ∈ ys, (enc y).length = sz) (hlt : sc < xs.length + ys.length)
    (hb1 : xs.length + ys.length ≤ 9223372036854775807) (hb2 : (xs.length + ys.length) * bytes ≤ 140737488355328) {w : World} (hI : Inv σ L w) :
    ∃ A' cc w', (Builtin.append_ #[t, tx] ty #[.slice A n sc, x]).run P w = .ok (.slice A' (xs.length + ys.length) cc) w' ∧ Inv σ (own sz enc e (.slice A' (xs.length + ys.length) cc) (xs ++ ys) :: L) w' := by
  subst hm
  have hn := hS.len
  subst hn
  obtain ⟨hu, hcs, hsr⟩ := hsrc
  obtain ⟨hlen, _⟩ := hsr w hI
  have hfc2 := (hsr w.drew hI.drew).2 ys.length (Nat.le_refl _)
  rw [← hcs, List.take_length] at hfc2
  obtain ⟨i, ht1, hi, hi3, hi4⟩ := hs.parts
  have hzi : i.zero = some z := by have := hz.ok; simpa [hi] using this
  rw [← hi3] at hfc2
  have hold := ((Src.sl (P := P) (L := L) (hs := hs) hS).2.2 w.drew hI.drew).2 xs.length (Nat.le_refl _)
  have hxl := flat_len hS.size
  rw [← hxl, List.take_length, ← hi3] at hold
  have hzc : z.cells.size = sz := by rw [← hzs, ← cl_eq]; simp
  have hflat : ((xs ++ ys).map enc).flatten = (xs.map enc).flatten ++ (ys.map enc).flatten := by simp
  have hyl := flat_len hys
  have hge := grownCap_ge w (xs.length + ys.length) sc e
  have hcm : grownCap w (xs.length + ys.length) sc e ≤ maxLen := grownCap_le_maxLen w _ sc e (by simp only [maxLen]; omega)
  have hall : ∀ y ∈ xs ++ ys, (enc y).length = sz := fun y hy => by
    rcases List.mem_append.1 hy with h | h
    · exact hS.size y h
    · exact hys y h
  refine ⟨_, _, _, app_grow ht1 hi hzi hu hlen hfc2 hold hlt (by omega) (growslice_fits hlt (by rw [hi4]; exact hb2)), ?_⟩
  refine hI.grow rfl rfl rfl (by simp) (fun b hb => Below.heap_alloc w.drew _ _ hb) ⟨hall, fun hn => by simp [Value.ownBlock] at hn, _, _, by rw [List.length_append]⟩ (fun b hb => ?_) (Nat.le_succ _)
  have hb' : w.heap.size = b := by simpa [Sp.own, Value.ownBlock] using hb
  subst hb'
  refine ⟨Nat.le_refl _, _, heap_alloc_new w.drew _, w.heap.size, grownCap w (xs.length + ys.length) sc e, _, (0, 0), by rw [List.length_append], rfl, .inl rfl, by simpa using hge, hcm, ?_, ?_⟩
  · simp only [Array.size_append, List.size_toArray, size_zeroCells, hzc, hxl, hyl, ← Nat.add_mul]
    congr 1; omega
  · rw [hflat]
    simp only [Array.toList_append, List.append_assoc, List.length_append]
    rw [← List.append_assoc, show (xs.length + ys.length) * sz = ((xs.map enc).flatten ++ (ys.map enc).flatten).length by rw [List.length_append, hxl, hyl, Nat.add_mul]]
    exact List.take_left
theorem l_apps {α : Type} {d : Nat} {s x : Operand} {t tx ty : TypeId} {p : String} {es : Array Edge} {g : Option (Nat × Bool)} {e sz bytes : Nat} {enc : α → List Value} {z v : Value} {A : Option Addr} {n sc : Nat} {xs : List α} (ys : List α) {m : Nat} {cs : List Value} [hs : SI P t e sz bytes] [hz : ZI P e z]
    (hg : gd ops ρ g = some true) (hd : Nat.blt d c.n = true) (hsv : ev ρ s = some (.slice A n sc)) (hx : ev ρ x = some v) (hS : Sl σ sz enc (.slice A n sc) xs) (hsrc : Src P σ L tx sz v m cs) (hcs : cs = (ys.map enc).flatten) (hm : m = ys.length)
    (hzs : (cl z).length = sz) (hys : ∀ y ∈ ys, (enc y).length = sz) (hlt : sc < xs.length + ys.length) (hb1 : xs.length + ys.length ≤ 9223372036854775807) (hb2 : (xs.length + ys.length) * bytes ≤ 140737488355328)
    (h : ∀ A' cc, Wl P c ops l k σ (own sz enc e (.slice A' (xs.length + ys.length) cc) (xs ++ ys) :: L) ((d, .slice A' (xs.length + ys.length) cc) :: ρ)) :
    Wl P c ops (⟨some d, .call ⟨.builtin .append, #[s, x], #[t, tx]⟩, ty, p, es, g⟩ :: l) k σ L ρ := by
  intro w hI a ha
  simp only [wpList]
  rw [gd_wanted ha (o := ⟨some d, .call ⟨.builtin .append, #[s, x], #[t, tx]⟩, ty, p, es, g⟩) hg]
  simp only [if_true]
  refine .inl ?_
  subst hcs
  obtain ⟨A', cc, w', hr, hI'⟩ := run_append_st (ty := ty) (P := P) (hs := hs) (hz := hz) hzs hS hm hsrc hys hlt hb1 hb2 hI
  have e1 : (execOp a.eval ⟨some d, .call ⟨.builtin .append, #[s, x], #[t, tx]⟩, ty, p, es, g⟩).run P w = .ok (.value (.slice A' (xs.length + ys.length) cc)) w' := by
    simp only [execOp, resolve, invoke, builtin, List.map_toArray, List.map_cons, List.map_nil, ha.ev hsv, ha.ev hx, Sem.run_bind, Sem.run_pure, Result.andThen_ok, hr]
  simp only [Oper.wp, e1, Oper.upon]
  exact h A' cc w' hI' _ (ha.put d _ hd)
theorem p_cut3 {t u e sz b1 : Nat} {x hi mx : Operand} {κ κ' : IntKind} {A : Option Addr} {n cc : Nat} {m m' : Int} [hs : SI P t e sz b1] (j j' : Nat) (hx : ev ρ x = some (.slice A n cc)) (hh : ev ρ hi = some (.int κ m)) (hq : ev ρ mx = some (.int κ' m'))
    (hm : m = (j : Int)) (hm' : m' = (j' : Int)) (hjj : j ≤ j') (hj : j' ≤ cc) : Pr P σ L ρ (.slice t x none (some hi) (some mx)) u (.slice A j j') := by
  intro n' a w ha hI d pp es g
  subst hm; subst hm'
  obtain ⟨ii, h1, h2, h3, h4⟩ := hs.parts
  have hz : ∀ A : Option Addr, A.map (fun a => a.add (0 * sz)) = A := fun A => by cases A <;> simp [Addr.add]
  simp [execOp, ha.ev hx, ha.ev hh, ha.ev hq, Instr.sliceAt, Instr.slice, Instr.sliceBounds, run_underlying h1, run_sizeOf h2, h3, run_sliceBound w _ _ _ hj, run_sliceBound w _ _ _ hjj]
  intro _
  have := hz A
  simpa using this
theorem Sl.cap {α : Type} {sz : Nat} {enc : α → List Value} {A : Option Addr} {n cc : Nat} {xs : List α} (h : Sl σ sz enc (.slice A n cc) xs) : xs.length ≤ cc := by
  obtain ⟨⟨A', cap, h1, h2, _⟩, _⟩ := h
  cases h1; exact h2
/-- The first ones of what is stable, with no room behind them. -/
theorem Sl.first {α : Type} {sz : Nat} {enc : α → List Value} {A : Option Addr} {n cc : Nat} {xs : List α} (h : Sl σ sz enc (.slice A n cc) xs) {j : Nat} (hj : j ≤ xs.length) : Sl σ sz enc (.slice A j j) (xs.take j) := by
  obtain ⟨⟨A', cap, h1, h2, h3, h4, h5⟩, h6⟩ := h
  cases h1
  refine ⟨⟨A, j, by rw [List.length_take, Nat.min_eq_left hj], by simp; omega, by omega, fun hn => ?_, fun ad ha hne => ?_⟩, fun x hx => h6 x (List.mem_of_mem_take hx)⟩
  · obtain ⟨h7, h8⟩ := h4 hn; subst h7; simp at hj; subst hj; simp
  · obtain ⟨h7, cs, E, fr, h8, h9⟩ := h5 ad ha (by rintro rfl; simp at hne)
    refine ⟨h7, cs, E, fr, h8, fun m u hu => h9 m u ?_⟩
    have e1 : (xs.map enc).flatten = ((xs.take j).map enc).flatten ++ ((xs.drop j).map enc).flatten := by rw [← List.flatten_append, ← List.map_append, List.take_append_drop]
    rw [e1, List.getElem?_append_left (List.getElem?_eq_some_iff.1 hu).1]
    exact hu
end
end Go.Sp
