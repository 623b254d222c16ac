/-
  The engine, part 7: append, make, cuts, conversions; calls; regions whose order is open.
-/
import Derived.Test.YtbijponhndknlaaDoorE6
set_option linter.unusedVariables false
set_option linter.unusedSimpArgs false
namespace Go.Sp
open Go.RowKit

section
variable {P : Program} {c : Cx} {k : List Kt} {σ : Stb} {L : List Res} {ρ : Env} {ops l : List Oper}

theorem Inv.own0 {α : Type} {w : World} (hI : Inv σ L w) (sz : Nat) (enc : α → List Value) (E : TypeId) : Inv σ (Sp.own sz enc E (.slice none 0 0) ([] : List α) :: L) w :=
  hI.grow rfl rfl rfl (Nat.le_refl _) (fun _ _ => rfl) ⟨by simp, fun _ => ⟨rfl, rfl⟩, none, 0, rfl⟩ (fun b h => by simp [Sp.own, Value.ownBlock] at h) (Nat.le_refl _)
theorem t_own0 {α : Type} (sz : Nat) (enc : α → List Value) (E : TypeId) (h : Ws P c k σ (own sz enc E (.slice none 0 0) ([] : List α) :: L) ρ) : Ws P c k σ L ρ := fun w hI => h w (hI.own0 sz enc E)
theorem l_own0 {α : Type} (sz : Nat) (enc : α → List Value) (E : TypeId) (h : Wl P c ops l k σ (own sz enc E (.slice none 0 0) ([] : List α) :: L) ρ) : Wl P c ops l k σ L ρ := fun w hI => h w (hI.own0 sz enc E)

theorem app_room {t tx ty e : TypeId} {i : TypeInfo} (ht : P.underlying t = some (.slice e)) (hi : P.info? e = some i) (hu : P.underlying tx = some .string ∨ ∃ e', P.underlying tx = some (.slice e'))
    {base : Option Addr} {sLen sCap n : Nat} {x : Value} {news : Array Value} {w w' : World} (hl : (Builtin.lenOf x).run P w = .ok n w) (hf : (Builtin.firstCells i.size n x).run P w = .ok news w) (hroom : sLen + n ≤ sCap)
    (hst : match base with | some a => (storeCells (a.add (sLen * i.size)) news.toList).run P w = .ok () w' | none => w' = w) :
    (Builtin.append_ #[t, tx] ty #[.slice base sLen sCap, x]).run P w = .ok (.slice base (sLen + n) sCap) w' := by
  rcases hu with hu | ⟨e', hu⟩
  · cases base with
    | none => subst hst; simp [Builtin.append_, run_underlying ht, run_underlying hu, sizeOf, typeInfo, hi, hl, hroom, hf]
    | some a => simp [Builtin.append_, run_underlying ht, run_underlying hu, sizeOf, typeInfo, hi, hl, hroom, hf, hst]
  · cases base with
    | none => subst hst; simp [Builtin.append_, run_underlying ht, run_underlying hu, sizeOf, typeInfo, hi, hl, hroom, hf]
    | some a => simp [Builtin.append_, run_underlying ht, run_underlying hu, sizeOf, typeInfo, hi, hl, hroom, hf, hst]
theorem app_grow {t tx ty e : TypeId} {i : TypeInfo} {z : Value} (ht : P.underlying t = some (.slice e)) (hi : P.info? e = some i) (hz : i.zero = some z) (hu : P.underlying tx = some .string ∨ ∃ e', P.underlying tx = some (.slice e'))
    {base : Option Addr} {sLen sCap n : Nat} {x : Value} {olds news : Array Value} {w : World} (hl : (Builtin.lenOf x).run P w = .ok n w) (hf : (Builtin.firstCells i.size n x).run P w.drew = .ok news w.drew)
    (ho : (Builtin.firstCells i.size sLen (.slice base sLen sCap)).run P w.drew = .ok olds w.drew) (hg : sCap < sLen + n) (h63 : ((sLen + n : Nat) : Int) ≤ 9223372036854775807) (hfit : Builtin.nextslicecap (sLen + n) sCap * i.bytes ≤ 281474976710656) :
    (Builtin.append_ #[t, tx] ty #[.slice base sLen sCap, x]).run P w = .ok (.slice (some ⟨w.heap.size, 0, none⟩) (sLen + n) (grownCap w (sLen + n) sCap e))
        (w.drew.alloc (.cells (olds ++ news ++ Builtin.zeroCells z.cells (grownCap w (sLen + n) sCap e - (sLen + n))) e)) := by
  have hn : ¬ (sLen + n ≤ sCap) := by omega
  have h63' : ¬ (9223372036854775807 < ((sLen : Int) + (n : Int))) := by omega
  have h48' : ¬ (281474976710656 < Builtin.nextslicecap (sLen + n) sCap * i.bytes) := by omega
  rcases hu with hu | ⟨e', hu⟩ <;>
  simp [Builtin.append_, run_underlying ht, run_underlying hu, sizeOf, typeInfo, zeroValue, hi, hz, hl, hn, h63', h48', Question.forced, hf, ho, newRow, grownCap]

/-- What append comes to. -/
theorem run_append_my {α : Type} {t tx e : TypeId} {sz bytes : Nat} {ty : TypeId} {enc : α → List Value} {z : Value} [hs : SI P t e sz bytes] [hz : ZI P e z] (hzs : (cl z).length = sz)
    {sv x : Value} {xs ys : List α} {L0 : List Res} (ho : Out (own sz enc e sv xs) L L0) {m : Nat} (hm : m = ys.length) (hsrc : Src P σ L tx sz x m (ys.map enc).flatten) (hys : ∀ y ∈ ys, (enc y).length = sz) (h1 : (ys.map enc).flatten.all (·.oneCell') = true)
    (hb1 : xs.length + ys.length ≤ 9223372036854775807) (hb2 : (xs.length + ys.length) * bytes ≤ 140737488355328) {w : World} (hI : Inv σ L w) :
    ∃ A cc w', (Builtin.append_ #[t, tx] ty #[sv, x]).run P w = .ok (.slice A (xs.length + ys.length) cc) w' ∧ Inv σ (own sz enc e (.slice A (xs.length + ys.length) cc) (xs ++ ys) :: L0) w' := by
  subst hm
  have hI' := hI.out ho
  obtain ⟨hu, hcs, hsr⟩ := hsrc
  obtain ⟨hlen, hfc⟩ := hsr w hI
  have hfc1 := hfc ys.length (Nat.le_refl _)
  have hfc2 := (hsr w.drew hI.drew).2 ys.length (Nat.le_refl _)
  rw [← hcs, List.take_length] at hfc1 hfc2
  obtain ⟨i, ht1, hi, hi3, hi4⟩ := hs.parts
  have hzi : i.zero = some z := by have := hz.ok; simpa [hi] using this
  rw [← hi3] at hfc1 hfc2
  obtain ⟨hxsz, hcase⟩ := own.cells (L := own sz enc e sv xs :: L0) .z hI'
  have hall : ∀ y ∈ xs ++ ys, (enc y).length = sz := fun y hy => by
    rcases List.mem_append.1 hy with h | h
    · exact hxsz y h
    · exact hys y h
  have hzc : z.cells.size = sz := by rw [← hzs, ← cl_eq]; simp
  have hflat : ((xs ++ ys).map enc).flatten = (xs.map enc).flatten ++ (ys.map enc).flatten := by simp
  have hxl := flat_len hxsz
  have hyl := flat_len hys
  have grown : ∀ (sCap : Nat) (base : Option Addr), sv = .slice base xs.length sCap → sCap < xs.length + ys.length →
      (Builtin.firstCells i.size xs.length (.slice base xs.length sCap)).run P w.drew = .ok (xs.map enc).flatten.toArray w.drew →
      ∃ A cc w', (Builtin.append_ #[t, tx] ty #[sv, x]).run P w = .ok (.slice A (xs.length + ys.length) cc) w' ∧ Inv σ (own sz enc e (.slice A (xs.length + ys.length) cc) (xs ++ ys) :: L0) w' := by
    intro sCap base hsv hlt hold
    subst hsv
    have hge := grownCap_ge w (xs.length + ys.length) sCap e
    have hcm : grownCap w (xs.length + ys.length) sCap e ≤ maxLen := grownCap_le_maxLen w _ sCap e (by simp only [maxLen]; omega)
    refine ⟨_, _, _, app_grow ht1 hi hzi hu hlen hfc2 hold hlt (by omega) (growslice_fits hlt (by rw [hi4]; exact hb2)), ?_⟩
    refine hI'.chg rfl rfl rfl (by simp) (fun b hb _ => Below.heap_alloc w.drew _ _ hb) ⟨hall, fun hn => by simp [Value.ownBlock] at hn, _, _, by rw [List.length_append]⟩ (fun b hb => ?_) (Nat.le_succ _)
    have hb' : w.heap.size = b := by simpa [Sp.own, Value.ownBlock] using hb
    subst hb'
    refine ⟨.inr (Nat.le_refl _), _, heap_alloc_new w.drew _, w.heap.size, grownCap w (xs.length + ys.length) sCap e, _, (0, 0), by rw [List.length_append], rfl, .inl rfl, by simpa using hge, hcm, ?_, ?_⟩
    · simp only [Array.size_append, List.size_toArray, size_zeroCells, hzc, hxl, hyl, ← Nat.add_mul]
      congr 1; omega
    · rw [hflat]
      simp only [Array.toList_append, List.append_assoc, List.length_append]
      rw [← List.append_assoc, show (xs.length + ys.length) * sz = ((xs.map enc).flatten ++ (ys.map enc).flatten).length by rw [List.length_append, hxl, hyl, Nat.add_mul]]
      exact List.take_left
  rcases hcase with ⟨rfl, rfl⟩ | ⟨g, cap, cur, fr, rfl, hg, hnf, hle, hmx, hcur, htk⟩
  · by_cases hy0 : ys = []
    · subst hy0
      refine ⟨none, 0, w, app_room ht1 hi hu hlen hfc1 (by simp) rfl, by simpa using hI'⟩
    · exact grown 0 none rfl (by have := List.length_pos_iff.2 hy0; simp; omega) (by simp [Builtin.firstCells])
  · by_cases hroom : xs.length + ys.length ≤ cap
    · have hfit : xs.length * sz + (ys.map enc).flatten.length ≤ cur.size := by rw [hyl, hcur, ← Nat.add_mul]; exact Nat.mul_le_mul_right _ hroom
      have hst := run_storeCells_my P g (xs.length * sz) e fr (ys.map enc).flatten 0 cur w hg hnf (by simpa using hfit) (ones_of h1)
      simp only [Nat.add_zero] at hst
      have hst' : (storeCells ((⟨g, 0, none⟩ : Addr).add (xs.length * i.size)) (ys.map enc).flatten.toArray.toList).run P w = .ok () (w.setRow g (cur.toList.take (xs.length * sz) ++ (ys.map enc).flatten ++ cur.toList.drop (xs.length * sz + (ys.map enc).flatten.length)).toArray) := by
        rw [hi3, add_at, Nat.zero_add]; exact hst
      refine ⟨_, _, _, app_room ht1 hi hu hlen hfc1 hroom hst', ?_⟩
      refine hI'.chg rfl rfl rfl (by simp) (fun b hb hne => setRow_blk _ _ _ _ fun (e' : b = g) => hne (by rw [e']; rfl)) ⟨hall, fun hn => by simp [Value.ownBlock] at hn, _, _, by rw [List.length_append]⟩ (fun b hb => ?_) (Nat.le_refl _)
      have hb' : g = b := by simpa [Sp.own, Value.ownBlock] using hb
      subst hb'
      have hcl : cur.toList.length = cap * sz := by simpa using hcur
      have hsize : (cur.toList.take (xs.length * sz) ++ (ys.map enc).flatten ++ cur.toList.drop (xs.length * sz + (ys.map enc).flatten.length)).toArray.size = cur.size := by
        simp only [List.size_toArray, List.length_append, List.length_take, List.length_drop, Array.length_toList]; omega
      refine ⟨.inl rfl, _, setRow_same _ _ _ _ _ _ hg, g, cap, (cur.toList.take (xs.length * sz) ++ (ys.map enc).flatten ++ cur.toList.drop (xs.length * sz + (ys.map enc).flatten.length)).toArray, fr, by rw [List.length_append], rfl, by rw [hsize]; exact hnf, by simpa using hroom, hmx, by rw [hsize]; exact hcur, ?_⟩
      rw [hflat, htk]
      simp only [List.length_append]
      rw [show (xs.length + ys.length) * sz = ((xs.map enc).flatten ++ (ys.map enc).flatten).length by rw [List.length_append, hxl, hyl, Nat.add_mul]]
      exact List.take_left
    · refine grown cap _ rfl (by omega) ?_
      rw [hi3]
      have := run_firstCells_sl P w.drew sz xs.length ⟨g, 0, none⟩ xs.length cap (xs.map enc).flatten (by rw [hxl]; exact Nat.le_refl _) fun j u hu => by
        rw [add_at, cell_of_row w.drew _ _ _ _ _ (show w.drew.heap[g]? = _ from hg)]
        rw [← htk, List.getElem?_take] at hu
        split at hu
        · simpa using hu
        · cases hu
      rwa [← hxl, List.take_length] at this

theorem l_app {α : Type} {d : Nat} {s x : Operand} {t tx ty : TypeId} {p : String} {es : Array Edge} {g : Option (Nat × Bool)} {e sz bytes : Nat} {enc : α → List Value} {z sv v : Value} {xs : List α} (ys : List α) {L0 : List Res} {m : Nat} {cs : List Value} [hs : SI P t e sz bytes] [hz : ZI P e z]
    (hg : gd ops ρ g = some true) (hd : Nat.blt d c.n = true) (hsv : ev ρ s = some sv) (hx : ev ρ x = some v) (ho : Out (own sz enc e sv xs) L L0) (hsrc : Src P σ L tx sz v m cs) (hcs : cs = (ys.map enc).flatten) (hm : m = ys.length)
    (hzs : (cl z).length = sz) (hys : ∀ y ∈ ys, (enc y).length = sz) (h1 : cs.all (·.oneCell') = true) (hb1 : xs.length + ys.length ≤ 9223372036854775807) (hb2 : (xs.length + ys.length) * bytes ≤ 140737488355328)
    (h : ∀ A cc, Wl P c ops l k σ (own sz enc e (.slice A (xs.length + ys.length) cc) (xs ++ ys) :: L0) ((d, .slice A (xs.length + ys.length) cc) :: ρ)) :
    Wl P c ops (⟨some d, .call ⟨.builtin .append, #[s, x], #[t, tx]⟩, ty, p, es, g⟩ :: l) k σ L ρ := by
  intro w hI a ha
  simp only [wpList]
  rw [gd_wanted ha (o := ⟨some d, .call ⟨.builtin .append, #[s, x], #[t, tx]⟩, ty, p, es, g⟩) hg]
  simp only [if_true]
  refine .inl ?_
  subst hcs
  obtain ⟨A, cc, w', hr, hI'⟩ := run_append_my (ty := ty) (P := P) (hs := hs) (hz := hz) hzs ho hm hsrc hys h1 hb1 hb2 hI
  have e1 : (execOp a.eval ⟨some d, .call ⟨.builtin .append, #[s, x], #[t, tx]⟩, ty, p, es, g⟩).run P w = .ok (.value (.slice A (xs.length + ys.length) cc)) w' := by
    simp only [execOp, resolve, invoke, builtin, List.map_toArray, List.map_cons, List.map_nil, ha.ev hsv, ha.ev hx, Sem.run_bind, Sem.run_pure, Result.andThen_ok, hr]
  simp only [Oper.wp, e1, Oper.upon]
  exact h A cc w' hI' _ (ha.put d _ hd)

/-! ### Cuts -/
def slsub : Value → Nat → Nat → Nat → Value
  | .slice A _ cc, sz, i, j => .slice (if cc = i then A else A.map (·.add (i * sz))) (j - i) (cc - i)
  | v, _, _, _ => v
theorem Sl.sub {α : Type} {sz : Nat} {enc : α → List Value} {v : Value} {xs : List α} (h : Sl σ sz enc v xs) {i j : Nat} (hij : i ≤ j) (hj : j ≤ xs.length) : Sl σ sz enc (slsub v sz i j) ((xs.take j).drop i) := by
  obtain ⟨⟨A, cap, rfl, h2, h3, h4, h5⟩, h6⟩ := h
  have hl : ((xs.take j).drop i).length = j - i := by simp; omega
  refine ⟨⟨if cap = i then A else A.map (·.add (i * sz)), cap - i, by simp only [slsub, hl], by omega, by omega, fun hn => ?_, fun ad ha hne => ?_⟩, fun x hx => h6 x (List.mem_of_mem_take (List.mem_of_mem_drop hx))⟩
  · have hA : A = none := by
      split at hn
      · exact hn
      · simpa using hn
    obtain ⟨h7, h8⟩ := h4 hA
    subst h7; subst h8; simp
  · cases A with
    | none => split at ha <;> simp at ha
    | some a =>
      have hxne : xs ≠ [] := by rintro rfl; simp at hne
      obtain ⟨h7, cs, E, fr, h8, h9⟩ := h5 a rfl hxne
      have hne' : i < j := by rcases Nat.lt_or_ge i j with h | h; exact h; exact absurd (List.eq_nil_of_length_eq_zero (by omega)) hne
      have hci : ¬ cap = i := by omega
      rw [if_neg hci] at ha
      simp only [Option.map_some, Option.some.injEq] at ha
      subst ha
      rw [add_off a h7]
      refine ⟨rfl, cs, E, fr, h8, fun m u hu => ?_⟩
      show cs[a.off + i * sz + m]? = some u
      rw [Nat.add_assoc]
      refine h9 _ _ ?_
      have e1 : (((xs.take j).drop i).map enc).flatten = (((xs.map enc).flatten.take (j * sz)).drop (i * sz)) := by
        have ht : ∀ (ys : List α) (n : Nat), (∀ y ∈ ys, (enc y).length = sz) → n ≤ ys.length → ((ys.take n).map enc).flatten = (ys.map enc).flatten.take (n * sz) ∧ ((ys.drop n).map enc).flatten = (ys.map enc).flatten.drop (n * sz) := fun ys n hy hn => by
          have e : (ys.map enc).flatten = ((ys.take n).map enc).flatten ++ ((ys.drop n).map enc).flatten := by rw [← List.flatten_append, ← List.map_append, List.take_append_drop]
          have hl := flat_len (l := ys.take n) (fun y h => hy y (List.mem_of_mem_take h))
          rw [List.length_take, Nat.min_eq_left hn] at hl
          rw [e, ← hl]
          exact ⟨List.take_left.symm, List.drop_left.symm⟩
        rw [(ht (xs.take j) i (fun y h => h6 y (List.mem_of_mem_take h)) (by simp; omega)).2, (ht xs j h6 hj).1]
      rw [e1, List.getElem?_drop, List.getElem?_take] at hu
      split at hu
      · exact hu
      · cases hu

end
end Go.Sp
