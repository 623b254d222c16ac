/-
  The engine, part 6: rows that are made, appended to, cut and turned into strings; calls; regions whose order is open.
-/
import Derived.Test.YtbijponhndknlaaDoorE5
import Derived.Lib.ConvBytes
import Derived.Laws.BytesString
set_option linter.unusedVariables false
set_option linter.unusedSimpArgs false
namespace Go.Sp
open Go.RowKit

inductive Prm : List Res → List Res → Prop
  | refl {L} : Prm L L
  | cons {r L L' M} : Out r L L' → Prm L' M → Prm L (r :: M)
theorem Prm.perm {L M : List Res} (h : Prm L M) : L.Perm M := by
  induction h with
  | refl => exact .refl _
  | cons ho _ ih => exact ho.perm.trans (.cons _ ih)
/-- The same things, some of them forgotten. -/
inductive Prs : List Res → List Res → Prop
  | refl {L} : Prs L L
  | cons {r L L' M} : Out r L L' → Prs L' M → Prs L (r :: M)
  | drop {x L M} : Prs L M → Prs (x :: L) M
theorem Prs.perm {L M : List Res} (h : Prs L M) : ∃ D, L.Perm (D ++ M) := by
  induction h with
  | refl => exact ⟨[], .refl _⟩
  | cons ho _ ih =>
    obtain ⟨D, hD⟩ := ih
    exact ⟨D, (ho.perm.trans (.cons _ hD)).trans List.perm_middle.symm⟩
  | drop _ ih =>
    obtain ⟨D, hD⟩ := ih
    exact ⟨_ :: D, .cons _ hD⟩
theorem Inv.tails {σ : Stb} {w : World} : ∀ {D M : List Res}, Inv σ (D ++ M) w → Inv σ M w
  | [], _, h => h
  | _ :: D, M, h => Inv.tails (D := D) h.tail
theorem Inv.prs {σ : Stb} {L M : List Res} {w : World} (hI : Inv σ L w) (h : Prs L M) : Inv σ M w := by
  obtain ⟨D, hD⟩ := h.perm
  exact (hI.perm hD).tails
theorem Inv.prm {σ : Stb} {L M : List Res} {w : World} (hI : Inv σ L w) (h : Prm L M) : Inv σ M w := hI.perm h.perm

section
variable {P : Program} {c : Cx} {k : List Kt} {σ : Stb} {L : List Res} {ρ : Env} {ops l : List Oper}

/-! ### Building -/
theorem foldl_put (off : Nat) : ∀ (vs : List Value) (i : Nat) (cells : Array Value), off + i + vs.length ≤ cells.size →
    (vs.zipIdx i).foldl (fun cs (x : Value × Nat) => cs.setIfInBounds (off + x.2) x.1) cells = (cells.toList.take (off + i) ++ vs ++ cells.toList.drop (off + i + vs.length)).toArray
  | [], i, cells, h => by simp
  | v :: vs, i, cells, h => by
    simp only [List.zipIdx_cons, List.foldl_cons]
    rw [foldl_put off vs (i + 1) (cells.setIfInBounds (off + i) v) (by simp at h ⊢; omega)]
    have e := list_seg_step cells.toList (off + i) v vs (by simp at h ⊢; omega)
    congr 1
    simpa [Array.toList_setIfInBounds, Nat.add_assoc] using e
/-- Cells laid into cells. -/
def fillN (place : Nat → Option (Nat × Nat)) : List Value → List (Nat × List Value) → Option (List Value)
  | cs, [] => some cs
  | cs, (i, vs) :: r => match place i with
    | some (off, size) => match Nat.beq vs.length size with
      | true => match putN cs off vs with
        | some cs' => fillN place cs' r
        | none => none
      | false => none
    | none => none
theorem fill_eq (place : Nat → Option (Nat × Nat)) : ∀ (ps : List (Nat × Value)) (cs cs' : List Value), fillN place cs (ps.map fun x => (x.1, cl x.2)) = some cs' → (∀ x ∈ ps, cl x.2 ≠ []) → Instr.fill place cs.toArray ps = some cs'.toArray
  | [], cs, cs', h, _ => by simp [fillN] at h; simp [Instr.fill, h]
  | (i, v) :: ps, cs, cs', h, hne => by
    simp only [List.map_cons, fillN] at h
    split at h
    · rename_i off size hp
      split at h
      · rename_i hb
        split at h
        · rename_i cs1 hq
          have hl : (cl v).length = size := Nat.eq_of_beq_eq_true hb
          have hv : v.cells.size = (cl v).length := by rw [← cl_eq]; simp
          obtain ⟨h1, h2⟩ := putN_eq _ _ _ _ hq
          have hn : cl v ≠ [] := hne (i, v) (List.mem_cons_self ..)
          have h3 := h1.resolve_left hn
          rw [if_neg hn] at h2
          simp only [Instr.fill, hp]
          rw [if_neg (by simp [hv, hl]; omega)]
          have h4 := foldl_put off (cl v) 0 cs.toArray (by simpa using h3)
          have h5 : v.cells.zipIdx.foldl (fun cs (x : Value × Nat) => cs.setIfInBounds (off + x.2) x.1) cs.toArray = cs1.toArray := by
            rw [← Array.foldl_toList, Array.toList_zipIdx, cl_eq, h4, h2]; simp
          rw [h5]
          exact fill_eq place ps cs1 cs' h fun x hx => hne x (List.mem_cons_of_mem _ hx)
        · cases h
      · cases h
    · cases h

def bpiB (P : Program) (t : Nat) (places : List (Nat × Nat)) : Bool :=
  match P.underlying t with
  | some (.struct fs) => fs.toList.map (fun f => (f.offset, (P.info? f.type).map (·.size))) == places.map fun x => (x.1, some x.2)
  | _ => false
class BPI (P : Program) (t : Nat) (places : outParam (List (Nat × Nat))) : Prop where
  ok : bpiB P t places = true
theorem run_places {P : Program} (w : World) : ∀ (fs : List Field) (places : List (Nat × Nat)), fs.map (fun f => (f.offset, (P.info? f.type).map (·.size))) = places.map (fun x => (x.1, some x.2)) →
    (fs.mapM (m := Sem) fun f => do pure (f.offset, ← sizeOf f.type)).run P w = .ok places w
  | [], places, h => by cases places <;> simp at h ⊢
  | f :: fs, [], h => by simp at h
  | f :: fs, (o, s) :: places, h => by
    simp only [List.map_cons, List.cons.injEq, Prod.mk.injEq] at h
    obtain ⟨⟨h1, h2⟩, h3⟩ := h
    have ih := run_places w fs places h3
    cases hi : P.info? f.type with
    | none => simp [hi] at h2
    | some i =>
      have h4 : i.size = s := by simpa [hi] using h2
      simp only [List.mapM_cons, Sem.run_bind, run_sizeOf hi, Result.andThen_ok, Sem.run_pure, ih, h1, h4]

def opsV (ρ : Env) : List (Nat × Operand) → Option (List (Nat × Value))
  | [] => some []
  | (i, x) :: r => match ev ρ x with
    | some v => match opsV ρ r with
      | some vs => some ((i, v) :: vs)
      | none => none
    | none => none
theorem Fits.opsV {n : Nat} {ρ : Env} {a : Act} (h : Fits n ρ a) : ∀ {ps : List (Nat × Operand)} {vs : List (Nat × Value)}, opsV ρ ps = some vs → ps.map (fun (i, x) => (i, a.eval x)) = vs
  | [], vs, hx => by cases hx; rfl
  | (i, x) :: r, vs, hx => by
    simp only [Sp.opsV] at hx
    split at hx
    · rename_i v hv
      split at hx
      · rename_i us hus
        cases hx
        simp [h.ev hv, Fits.opsV h hus]
      · cases hx
    · cases hx
def allCl : List (Nat × Value) → Bool
  | [] => true
  | (_, v) :: r => match cl v with | [] => false | _ :: _ => allCl r
theorem allCl_ne : ∀ {ps : List (Nat × Value)}, allCl ps = true → ∀ x ∈ ps, cl x.2 ≠ []
  | [], _, x, hx => by cases hx
  | (i, v) :: r, h, x, hx => by
    simp only [allCl] at h
    split at h
    · cases h
    · rename_i hc
      rcases List.mem_cons.1 hx with rfl | hx
      · simp [hc]
      · exact allCl_ne h x hx

theorem p_build {t u : TypeId} {ps : Array (Nat × Operand)} {pvs : List (Nat × Value)} {z : Value} {zs cs : List Value} {places : List (Nat × Nat)} [hb : BPI P t places] [hz : ZI P t z] (hp : opsV ρ ps.toList = some pvs) (hzs : cl z = zs)
    (hn : allCl pvs = true) (hf : fillN (fun i => places[i]?) zs (pvs.map fun x => (x.1, cl x.2)) = some cs) : Pr P σ L ρ (.build t ps) u (.agg cs.toArray) := by
  intro n a w ha hI d pp es g
  have h := hb.ok
  unfold bpiB at h
  split at h
  · rename_i fs hu
    have hpl := run_places (P := P) w fs.toList places (by simpa using h)
    have hm : (fs.mapM (m := Sem) fun f => do pure (f.offset, ← sizeOf f.type)).run P w = .ok places.toArray w := by
      rw [← Array.toArray_toList (xs := fs), List.mapM_toArray]
      simp only [Array.toArray_toList, Sem.run_map, hpl, Result.andThen_ok]
    have hps : (ps.map fun (i, x) => (i, a.eval x)) = pvs.toArray := by rw [← ha.opsV hp, arr_map]
    have hfill := fill_eq _ _ _ _ hf (allCl_ne hn)
    have hzc : z.cells = zs.toArray := by rw [← hzs, ← cl_eq]
    have hpl2 : (fun (i : Nat) => places[i]?) = (fun (i : Nat) => places.toArray[i]?) := by funext i; simp
    rw [hpl2] at hfill
    simp only [execOp, Instr.build, Sem.run_bind, run_zeroValue hz.ok, Result.andThen_ok, run_underlying hu, hm, hps, hzc, hfill, Sem.run_pure]
  · cases h

/-- '[]T{a, b, ..}': a new row, all of it laid. -/
def rowP (sz : Nat) : Nat → List (Nat × Value) → Option (List Value)
  | _, [] => some []
  | i, (j, v) :: r => match Nat.beq j i with
    | true => match Nat.beq (cl v).length sz with
      | true => match rowP sz (i + 1) r with
        | some q => some (cl v ++ q)
        | none => none
      | false => none
    | false => none
theorem rowP_fill (sz : Nat) (hsz : 0 < sz) : ∀ (ps : List (Nat × Value)) (i : Nat) (cells : Array Value) (cs : List Value), rowP sz i ps = some cs → cells.size = (i + ps.length) * sz →
    Instr.fill (fun i => some (i * sz, sz)) cells ps = some (cells.toList.take (i * sz) ++ cs).toArray ∧ cs.length = ps.length * sz
  | [], i, cells, cs, h, hl => by
    simp [rowP] at h
    subst h
    have : cells.toList.take (i * sz) = cells.toList := List.take_of_length_le (by simp; simpa using Nat.le_of_eq hl)
    simp [Instr.fill, this]
  | (j, v) :: ps, i, cells, cs, h, hl => by
    simp only [rowP] at h
    split at h
    · rename_i hj
      split at h
      · rename_i hb
        split at h
        · rename_i q hq
          cases h
          have hj' := Nat.eq_of_beq_eq_true hj
          have hv : (cl v).length = sz := Nat.eq_of_beq_eq_true hb
          subst hj'
          have hvs : v.cells.size = sz := by rw [← hv, ← cl_eq]; simp
          have e1 : (j + (ps.length + 1)) * sz = j * sz + sz + ps.length * sz := by rw [Nat.add_mul, Nat.add_mul]; omega
          simp only [List.length_cons] at hl
          have h4 := foldl_put (j * sz) (cl v) 0 cells (by omega)
          have h5 : v.cells.zipIdx.foldl (fun cs (x : Value × Nat) => cs.setIfInBounds (j * sz + x.2) x.1) cells = (cells.toList.take (j * sz) ++ cl v ++ cells.toList.drop (j * sz + (cl v).length)).toArray := by
            rw [← Array.foldl_toList, Array.toList_zipIdx, cl_eq, h4]; simp
          obtain ⟨h6, h7⟩ := rowP_fill sz hsz ps (j + 1) (cells.toList.take (j * sz) ++ cl v ++ cells.toList.drop (j * sz + (cl v).length)).toArray q hq (by simp; rw [Nat.add_mul, Nat.add_mul]; omega)
          refine ⟨?_, by simp [hv, h7, Nat.add_mul]; omega⟩
          simp only [Instr.fill]
          rw [if_neg (by simp [hvs]; omega), h5, h6]
          congr 2
          simp only [List.toList_toArray]
          have e2 : (j + 1) * sz = (cells.toList.take (j * sz) ++ cl v).length := by simp [hv]; rw [Nat.add_mul]; omega
          rw [e2, List.take_left, List.append_assoc]
        · cases h
      · cases h
    · cases h
theorem l_bsl {d len : Nat} {t : TypeId} {ps : Array (Nat × Operand)} {pvs : List (Nat × Value)} {u : TypeId} {p : String} {es : Array Edge} {g : Option (Nat × Bool)} {e sz b1 : Nat} {cs : List Value} {z : Value} [hs : SI P t e sz b1] [hz : ZI P e z]
    (hg : gd ops ρ g = some true) (hd : Nat.blt d c.n = true) (hp : opsV ρ ps.toList = some pvs) (hlen : Nat.beq pvs.length len = true) (hsz : Nat.blt 0 sz = true) (hle : Nat.ble (len * sz) 16777216 = true)
    (hf : rowP sz 0 pvs = some cs)
    (h : ∀ b, Wl P c ops l k σ (Bx b cs e :: L) ((d, .slice (some ⟨b, 0, none⟩) len len) :: ρ)) : Wl P c ops (⟨some d, .buildSlice t len ps, u, p, es, g⟩ :: l) k σ L ρ := by
  intro w hI a ha
  simp only [wpList]
  rw [gd_wanted ha (o := ⟨some d, .buildSlice t len ps, u, p, es, g⟩) hg]
  simp only [if_true]
  refine .inl ?_
  obtain ⟨i, h1, h2, h3, h4⟩ := hs.parts
  have hps : (ps.map fun (i, x) => (i, a.eval x)) = pvs.toArray := by rw [← ha.opsV hp, arr_map]
  have hsz' : 0 < sz := Nat.blt_eq.mp hsz
  have hlen' : pvs.length = len := Nat.eq_of_beq_eq_true hlen
  have hle' : ¬ len * sz > 2 ^ 24 := by have := Nat.ble_eq.mp hle; omega
  have hrun : ∀ zero : Array Value, Instr.fill (fun i => some (i * sz, sz)) ((Array.range (len * sz)).map (zero[· % zero.size]!)) pvs = some cs.toArray := fun zero => by
    obtain ⟨h5, _⟩ := rowP_fill sz hsz' pvs 0 ((Array.range (len * sz)).map (zero[· % zero.size]!)) cs hf (by simp [hlen'])
    simpa using h5
  have hb : (Instr.buildSlice t len pvs.toArray).run P w = .ok (.slice (some ⟨w.heap.size, 0, none⟩) len len) (w.alloc (.cells cs.toArray e)) := by
    by_cases h0 : len * sz = 0
    · simp [Instr.buildSlice, run_underlying h1, run_sizeOf h2, h3, hle', h0, newRow]
      have := hrun #[]
      rw [h0] at this
      simp at this
      simp [this]
    · simp [Instr.buildSlice, run_underlying h1, run_sizeOf h2, h3, hle', h0, newRow, run_zeroValue hz.ok, hrun]
  simp only [Oper.wp, execOp, hps, Sem.run_bind, hb, Result.andThen_ok, Sem.run_pure, Oper.upon]
  exact h _ _ (hI.box cs e) _ (ha.put d _ hd)
end
end Go.Sp
