/-
  The engine, part 14: structs of plain fields, compared.
-/
import Derived.Test.YtbijponhndknlaaDoorE13
import Derived.Laws.StructEq
set_option linter.unusedVariables false
set_option linter.unusedSimpArgs false
namespace Go.Sp
open Go.RowKit
inductive EK where
  | i (κ : IntKind)
  | s
  | b
def ekB (P : Program) (t : Nat) : EK → Bool
  | .i κ => kiB P t κ
  | .s => (match P.underlying t with | some .string => true | _ => false)
  | .b => (match P.underlying t with | some .bool => true | _ => false)
def eqfB (P : Program) : List Field → Nat → List EK → Bool
  | [], _, [] => true
  | f :: fs, i, k :: ks => f.name != "_" && Nat.beq f.offset i && ekB P f.type k && eqfB P fs (i + 1) ks
  | _, _, _ => false
def eqiB (P : Program) (t : Nat) (ks : List EK) : Bool :=
  match P.underlying t with
  | some (.struct fs) => eqfB P fs.toList 0 ks && !P.stoodInHeld t && !P.eqGuardType P.depth t
  | _ => false
class EqI (P : Program) (t : Nat) (ks : outParam (List EK)) : Prop where
  ok : eqiB P t ks = true
/-- Whether cells are alike. -/
def eqc : List EK → List Value → List Value → Option Bool
  | [], [], [] => some true
  | .i κ :: ks, .int κ' m :: r, .int κ'' n :: s => if κ' = κ ∧ κ'' = κ then (match eqc ks r s with | some q => some (decide (m = n) && q) | none => none) else none
  | .s :: ks, .string x :: r, .string y :: s => match eqc ks r s with | some q => some (decide (x.data.toList = y.data.toList) && q) | none => none
  | .b :: ks, .bool x :: r, .bool y :: s => match eqc ks r s with | some q => some ((x == y) && q) | none => none
  | _, _, _ => none
section
variable {P : Program} {σ : Stb} {L : List Res} {ρ : Env}
theorem part1 {t : Nat} {d : TypeDesc} (h : P.underlying t = some d) (ha : isAggD d = false) (xs : List Value) (v : Value) (i : Nat) (hv : xs[i]? = some v) (w : World) : (part t xs.toArray i).run P w = .ok v w := by
  simp [part, run_isAgg h, ha, hv]
theorem drop_at {xs : List Value} {i : Nat} {v : Value} {r : List Value} (h : xs.drop i = v :: r) : xs[i]? = some v ∧ xs.drop (i + 1) = r := by
  refine ⟨?_, ?_⟩
  · have := List.getElem?_drop (xs := xs) (i := i) (j := 0); rw [h] at this; simpa using this.symm
  · rw [← List.drop_drop, h]; rfl
theorem run_eqc (w : World) (d : Nat) (xs ys : List Value) : ∀ (fs : List Field) (ks : List EK) (i : Nat) (q : Bool), eqfB P fs i ks = true → eqc ks (xs.drop i) (ys.drop i) = some q → (Op.eqFields (d + 1) xs.toArray ys.toArray fs).run P w = .ok q w
  | [], [], i, q, h, hq => by
    cases hx : xs.drop i <;> cases hy : ys.drop i <;> rw [hx, hy] at hq <;> simp [eqc] at hq
    subst hq; rfl
  | f :: fs, k :: ks, i, q, h, hq => by
    simp only [eqfB, Bool.and_eq_true, bne_iff_ne, ne_eq] at h
    obtain ⟨⟨⟨h1, h2⟩, h3⟩, h4⟩ := h
    have ho := Nat.eq_of_beq_eq_true h2
    have key : ∀ (a b : Value) (r s : List Value) (p : Bool) (q' : Bool), xs.drop i = a :: r → ys.drop i = b :: s → (∃ dd, P.underlying f.type = some dd ∧ isAggD dd = false) → (Op.equalIn (d + 1) f.type a b).run P w = .ok p w → eqc ks r s = some q' → (p && q') = q →
        (Op.eqFields (d + 1) xs.toArray ys.toArray (f :: fs)).run P w = .ok q w := by
      intro a b r s p q' hx hy ⟨dd, hu, hagg⟩ he hr hpq
      obtain ⟨hx1, hx2⟩ := drop_at hx
      obtain ⟨hy1, hy2⟩ := drop_at hy
      have ih := run_eqc w d xs ys fs ks (i + 1) q' h4 (by rw [hx2, hy2]; exact hr)
      rw [← ho] at hx1 hy1
      simp only [Op.eqFields, h1, ne_eq, not_false_eq_true, if_true, Sem.run_bind, part1 hu hagg xs a f.offset hx1, part1 hu hagg ys b f.offset hy1, he, Result.andThen_ok, Sem.run_ite, Sem.run_pure, ih]
      cases p with
      | true => simp at hpq; simp [hpq]
      | false => simp at hpq; simp [hpq]
    cases hx : xs.drop i with
    | nil => rw [hx] at hq; cases k <;> simp [eqc] at hq
    | cons a r =>
      cases hy : ys.drop i with
      | nil => rw [hx, hy] at hq; cases k <;> cases a <;> simp [eqc] at hq
      | cons b s =>
        rw [hx, hy] at hq
        cases k with
        | i κ =>
          have hk := (KI.mk h3 : KI P f.type κ).parts
          cases a <;> cases b <;> simp only [eqc, reduceCtorEq] at hq
          rename_i κ' m κ'' n
          split at hq
          · rename_i hkk
            obtain ⟨rfl, rfl⟩ := hkk
            split at hq
            · rename_i q' hq'
              cases hq
              exact key _ _ r s _ q' hx hy ⟨_, hk, rfl⟩ (run_equalIn_int w d f.type _ _ m n hk) hq' rfl
            · cases hq
          · cases hq
        | s =>
          have hk := (StrI.mk h3 : StrI P f.type).parts
          cases a <;> cases b <;> simp only [eqc, reduceCtorEq] at hq
          rename_i x y
          split at hq
          · rename_i q' hq'
            cases hq
            refine key _ _ r s _ q' hx hy ⟨_, hk, rfl⟩ ?_ hq' rfl
            have : decide (x.data.toList = y.data.toList) = (x == y) := by
              rw [beq_toListBytes, ByteArray.toList_eq, ByteArray.toList_eq]
              by_cases h : x.data.toList = y.data.toList
              · simp [h]
              · have h2 : ¬ x.data = y.data := fun e => h (by rw [e])
                simp [h, h2]
            rw [this]
            simp [Op.equalIn, run_underlying hk]
          · cases hq
        | b =>
          have hk := (BoolI.mk h3 : BoolI P f.type).parts
          cases a <;> cases b <;> simp only [eqc, reduceCtorEq] at hq
          rename_i x y
          split at hq
          · rename_i q' hq'
            cases hq
            exact key _ _ r s _ q' hx hy ⟨_, hk, rfl⟩ (run_equalIn_bool d x y hk w) hq' rfl
          · cases hq
  | [], _ :: _, _, _, h, _ => by simp [eqfB] at h
  | _ :: _, [], _, _, h, _ => by simp [eqfB] at h
theorem run_eq_st {t : Nat} {ks : List EK} (h : EqI P t ks) {xs ys : List Value} {q : Bool} (hq : eqc ks xs ys = some q) (w : World) : P.eqGuardType P.depth t = false ∧ (Op.equalIn 10000 t (.agg xs.toArray) (.agg ys.toArray)).run P w = .ok q w := by
  have h0 := h.ok
  unfold eqiB at h0
  split at h0
  · rename_i fs hu
    simp only [Bool.and_eq_true, Bool.not_eq_true'] at h0
    obtain ⟨⟨h1, h2⟩, h3⟩ := h0
    have hf : P.fieldsOf t = fs := by simp [Program.fieldsOf, hu]
    refine ⟨h3, ?_⟩
    rw [run_equalIn_agg w 9999 t _ _ (by rw [hf]; exact hu) h2, hf]
    exact run_eqc w 9998 xs ys fs.toList ks 0 q h1 (by simpa using hq)
  · cases h0
theorem p_eqs {t t' u : TypeId} {x y : Operand} {xs ys : List Value} {q : Bool} {ks : List EK} [h : EqI P t ks] (hx : ev ρ x = some (.agg xs.toArray)) (hy : ev ρ y = some (.agg ys.toArray)) (hq : eqc ks xs ys = some q) : Pr P σ L ρ (.binOp .eql t x y t') u (.bool q) :=
  p_bin hx hy fun w => ⟨run_eqGuard_agg w _ t x y _ _ (run_eq_st h hq w).1, by rw [run_eql_struct, (run_eq_st h hq w).2]; rfl⟩
theorem p_nes {t t' u : TypeId} {x y : Operand} {xs ys : List Value} {q : Bool} {ks : List EK} [h : EqI P t ks] (hx : ev ρ x = some (.agg xs.toArray)) (hy : ev ρ y = some (.agg ys.toArray)) (hq : eqc ks xs ys = some q) : Pr P σ L ρ (.binOp .neq t x y t') u (.bool (!q)) :=
  p_bin hx hy fun w => ⟨run_eqGuard_agg w _ t x y _ _ (run_eq_st h hq w).1, by rw [run_neq_struct, (run_eq_st h hq w).2]; rfl⟩
end
end Go.Sp
