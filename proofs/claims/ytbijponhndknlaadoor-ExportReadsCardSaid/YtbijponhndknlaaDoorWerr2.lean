/- errors.As at a fault, and at what errors.Join has joined: walks. -/
import Derived.Test.YtbijponhndknlaaDoorWerr
set_option linter.unusedSimpArgs false
set_option linter.unusedVariables false
set_option maxRecDepth 20000
namespace Go.Proofs.YtbijponhndknlaaDoor
open Go.Sp
attribute [local irreducible] Go.Sp.Pr Go.Sp.Ws Go.Sp.Wl Go.Sp.Wq Go.Sp.Rds Go.Sp.Src
open Go.Extern Go.RowKit
theorem partsF9 (a : Addr) (w : World) : (ReflectliteValue.parts (.agg #[hdl FT, .pointer (some a), .int .u64 409])).run Tryd.prog w = .ok (some (FT, a, 409)) w := by kernel_rfl
theorem partsF3 (a : Addr) (w : World) : (ReflectliteValue.parts (.agg #[hdl FT, .pointer (some a), .int .u64 153])).run Tryd.prog w = .ok (some (FT, a, 153)) w := by kernel_rfl
theorem directF (w : World) : (Rtype.directlyAssignable FT FT).run Tryd.prog w = .ok true w := by kernel_rfl
theorem sizeF (w : World) : (sizeOf FT).run Tryd.prog w = .ok 1 w := by kernel_rfl
theorem rls (v x : Value) : ReflectliteValue.set #[v, x] = (do
    let (some (dst, a, fl), some (src, b, _)) := (← ReflectliteValue.parts v, ← ReflectliteValue.parts x)
      | unsupported (.noEntry "extern/(internal/reflectlite.Value).Set.zeroValue")
    if fl / ReflectliteValue.flagAddr % 2 == 0 then unsupported (.noEntry "extern/(internal/reflectlite.Value).Set.unaddressable")
    let val ← loadVar src b
    if ← Rtype.directlyAssignable dst src then storeVar dst a val
    else if ← Rtype.implements dst src then
      if (← Rtype.kind src) == 20 then
        match val with
        | .nilIface => unsupported (.noEntry "extern/reflectlite: a nil value of one interface type handed on as a value of another")
        | _ => storeVar dst a val
      else storeVar dst a (.iface src val)
    else panicString ("reflectlite.Set: value of type " ++ (← Rtype.spelt src) ++ " is not assignable to type " ++ (← Rtype.spelt dst))
    pure (.tuple #[])) := rfl
theorem loadF (a : Addr) (e : Int) (w : World) (h : w.cell? a = some (i64 e)) : (loadVar FT a).run Tryd.prog w = .ok (.agg #[i64 e]) w := by
  have h0 : a.add 0 = a := by simp [Addr.add]
  have hA : (isAgg FT).run Tryd.prog w = .ok true w := by kernel_rfl
  have hl := run_loadCells_list (P := Tryd.prog) w a [i64 e] (fun j v hv => by
    cases j with
    | zero => simp at hv; subst hv; rw [h0]; exact h
    | succ j => simp at hv)
  have hl' : (loadCells a 1).run Tryd.prog w = .ok [i64 e].toArray w := hl
  simp only [loadVar, Sem.run_bind, hA, Result.andThen_ok, if_true, sizeF, hl', Sem.run_pure]
theorem setF (gt gv : Nat) (e : Int) (w w' : World) (hb : w.cell? ⟨gv, 0, none⟩ = some (i64 e)) (hst : (storeCells (⟨gt, 0, none⟩ : Addr) [i64 e] 0).run Tryd.prog w = .ok () w') :
    (ReflectliteValue.set #[vVal FT gt 409, vVal FT gv 153]).run Tryd.prog w = .ok (.tuple #[]) w' := by
  rw [rls]
  simp only [Sem.run_bind, partsF9, partsF3, Result.andThen]
  simp [ReflectliteValue.flagAddr, loadF _ _ _ hb, Result.andThen, directF, storeVar, sizeF, Value.cells, hst]
theorem asFault {σ : Stb} {gv gt : Nat} {fr : Nat × Nat} (e old : Int) (hv : σ.blk gv = some (.cells [.pointer (some ⟨gt, 0, none⟩)].toArray FP fr)) :
    Sq1 Tryd.prog 57 [fault e, .iface FP (.pointer (some ⟨gt, 0, none⟩)), vVal FP gv 150, vTy FT] σ (Bx gt [i64 old] FT) fun v σ' r => σ = σ' ∧ v = .bool true ∧ r = Bx gt [i64 e] FT := by
  refine sq1 Tryd.func57 rfl (by kernel_rfl) rfl fun F => ?_
  refine t_seq ?_
  refine t_region ?_
  refine l_box rfl rfl rfl rfl ?_; intro _
  refine l_p rfl rfl (p_assign rfl) ?_
  refine l_nil ?_
  refine t_block ?_
  rename_i g6
  refine t_loop (ι := Unit) { E := fun _ => [(0, fault e), (3, vTy FT), (6, .pointer (some ⟨g6, 0, none⟩))], S := fun _ => σ, M := fun _ => Bx g6 [hdl FP, .pointer (some ⟨gv, 0, none⟩), .int .u64 150] 94 :: Bx gt [i64 old] FT :: F, Φ := fun _ => True } (fun _ => 0) ()
    (by exact ⟨rfl, rfl, rfl, trivial⟩) trivial (fun w hI => hI) ?_
  intro _ _
  refine t_block ?_
  refine t_seq ?_
  refine t_seq ?_
  refine t_region ?_
  refine l_p rfl rfl (p_move rfl) ?_
  refine l_p rfl rfl (p_extern (e := ReflectliteType.typeOf) rfl Tryd.func63 (by kernel_rfl) (by kernel_rfl) (by kernel_rfl) (by kernel_rfl) (fun w _ => typeOfF _ w)) ?_
  refine l_p rfl rfl (p_move rfl) ?_
  refine l_p rfl rfl (p_invoke (e := ReflectliteType.relation "AssignableTo" ReflectliteType.assignableTo) rfl rfl (methodAssignableTo _) Tryd.func93 (by kernel_rfl) (by kernel_rfl) (by kernel_rfl) (by kernel_rfl) (fun w _ => assignF w)) ?_
  refine l_nil ?_
  refine t_ift rfl ?_
  refine t_seq ?_
  refine t_region ?_
  refine l_p rfl rfl (p_ldn (by exact rfl) Rds.bxi (by exact rfl) (by exact rfl)) ?_
  refine l_p rfl rfl (p_extern (e := ReflectliteValue.method (ReflectliteValue.valueError "reflectlite.Value.Elem" 0) ReflectliteValue.elem) rfl Tryd.func64 (by kernel_rfl) (by kernel_rfl) (by kernel_rfl) (by kernel_rfl) (fun w hI => elemVP ⟨gv, 0, none⟩ ⟨gt, 0, none⟩ w (cell_blk hv hI))) ?_
  refine l_p rfl rfl (p_move rfl) ?_
  refine l_extG (e := fun args => ReflectliteValue.unpack (args.getD 0 (.tuple #[]))) (Ψ := fun v σ' L' => ∃ b, v = vVal FT b 153 ∧ σ = σ' ∧ L' = Bx b [i64 e] FT :: Bx g6 [hdl FP, .pointer (some ⟨gv, 0, none⟩), .int .u64 150] 94 :: Bx gt [i64 old] FT :: F) rfl rfl rfl Tryd.func54 (by kernel_rfl) (by kernel_rfl) (by kernel_rfl) (by kernel_rfl)
    (fun w hI => ⟨_, _, _, _, vofF e w, ⟨_, rfl, rfl, rfl⟩, hI.box [i64 e] FT⟩) ?_
  rintro _ _ _ ⟨b, rfl, rfl, rfl⟩
  skip
  refine l_extG (e := ReflectliteValue.set) (Ψ := fun v σ' L' => v = .tuple #[] ∧ σ = σ' ∧ L' = Bx b [i64 e] FT :: Bx g6 [hdl FP, .pointer (some ⟨gv, 0, none⟩), .int .u64 150] 94 :: Bx gt [i64 e] FT :: F) rfl rfl rfl Tryd.func65 (by kernel_rfl) (by kernel_rfl) (by kernel_rfl) (by kernel_rfl)
    (fun w hI => by
      obtain ⟨w', h1, h2⟩ := run_set1 (P := Tryd.prog) (b := gt) (T := FT) (old := i64 old) (new := i64 e) (.s (.s .z)) rfl hI
      refine ⟨_, _, _, w', setF gt b e w w' ?_ h1, ⟨rfl, rfl, rfl⟩, h2⟩
      exact cell_bx .z hI) ?_
  rintro _ _ _ ⟨rfl, rfl, rfl⟩
  refine l_nil ?_
  refine t_seq ?_
  refine t_region ?_
  refine l_p rfl rfl (p_assign rfl) ?_
  refine l_nil ?_
  exact t_ret1 rfl rfl fun w hI => ⟨σ, _, .refl σ, ⟨rfl, rfl, rfl⟩, hI.tail.tail⟩
theorem junwrap {σ : Stb} {gj : Nat} {sv : Value} {fr : Nat × Nat} (hj : σ.blk gj = some (.cells [sv].toArray 110 fr)) : SpV Tryd.prog 91 [.pointer (some ⟨gj, 0, none⟩)] σ sv := by
  refine spv Tryd.func91 rfl (by kernel_rfl) rfl fun F => ?_
  have hr : ∀ L, Rds σ L (.pointer (some ⟨gj, 0, none⟩)) [sv] := fun L => Rds.blk hj
  refine t_seq ?_
  refine t_region ?_
  refine l_p rfl rfl (p_assign rfl) ?_
  refine l_nil ?_
  refine t_seq ?_
  refine t_region ?_
  refine l_p rfl rfl (p_move rfl) ?_
  refine l_p rfl rfl (p_ncp rfl) ?_
  refine l_p rfl rfl (p_fa rfl (hr _)) ?_
  skip
  refine l_p rfl rfl (p_ld1 rfl (Rds.fld (hr _) rfl)) ?_
  refine l_p rfl rfl (p_assign rfl) ?_
  refine l_nil ?_
  exact t_ret1 rfl rfl fun w hI => ⟨rfl, hI⟩
theorem asJoin {σ : Stb} {gv gt gj : Nat} {fr fr2 : Nat × Nat} {sv : Value} {r : List Value} (e old : Int) (hv : σ.blk gv = some (.cells [.pointer (some ⟨gt, 0, none⟩)].toArray FP fr)) (hj : σ.blk gj = some (.cells [sv].toArray 110 fr2)) (hS : Sl σ 1 (fun v : Value => [v]) sv (fault e :: r)) :
    Sq1 Tryd.prog 57 [.iface JP (.pointer (some ⟨gj, 0, none⟩)), .iface FP (.pointer (some ⟨gt, 0, none⟩)), vVal FP gv 150, vTy FT] σ (Bx gt [i64 old] FT) fun v σ' r => σ = σ' ∧ v = .bool true ∧ r = Bx gt [i64 e] FT := by
  obtain ⟨A0, c0, rfl, _⟩ := hS.shape
  refine sq1 Tryd.func57 rfl (by kernel_rfl) rfl fun F => ?_
  refine t_seq ?_
  refine t_region ?_
  refine l_box rfl rfl rfl rfl ?_; intro _
  refine l_p rfl rfl (p_assign rfl) ?_
  refine l_nil ?_
  refine t_block ?_
  rename_i g6
  refine t_loop (ι := Unit) { E := fun _ => [(0, .iface JP (.pointer (some ⟨gj, 0, none⟩))), (1, .iface FP (.pointer (some ⟨gt, 0, none⟩))), (3, vTy FT), (6, .pointer (some ⟨g6, 0, none⟩))], S := fun _ => σ, M := fun _ => Bx g6 [hdl FP, .pointer (some ⟨gv, 0, none⟩), .int .u64 150] 94 :: Bx gt [i64 old] FT :: F, Φ := fun _ => True } (fun _ => 0) ()
    (by exact ⟨rfl, rfl, rfl, rfl, trivial⟩) trivial (fun w hI => hI) ?_
  intro _ _
  refine t_block ?_
  refine t_seq ?_
  refine t_seq ?_
  refine t_region ?_
  refine l_p rfl rfl (p_move rfl) ?_
  refine l_p rfl rfl (p_extern (e := ReflectliteType.typeOf) rfl Tryd.func63 (by kernel_rfl) (by kernel_rfl) (by kernel_rfl) (by kernel_rfl) (fun w _ => typeOfJ _ w)) ?_
  refine l_p rfl rfl (p_move rfl) ?_
  refine l_p rfl rfl (p_invoke (e := ReflectliteType.relation "AssignableTo" ReflectliteType.assignableTo) rfl rfl (methodAssignableTo _) Tryd.func93 (by kernel_rfl) (by kernel_rfl) (by kernel_rfl) (by kernel_rfl) (fun w _ => assignJ w)) ?_
  refine l_nil ?_
  refine t_iff rfl ?_
  refine t_skip ?_
  refine t_seq ?_
  refine t_seq ?_
  refine t_region ?_
  refine l_p rfl rfl (p_move rfl) ?_
  refine l_p rfl rfl (p_ta rfl (lacksAs _ _)) ?_
  refine l_p rfl rfl (p_move rfl) ?_
  refine l_p rfl rfl (p_ext rfl rfl) ?_
  refine l_p rfl rfl (p_ext rfl rfl) ?_
  refine l_p rfl rfl (p_assign rfl) ?_
  refine l_p rfl rfl (p_assign rfl) ?_
  refine l_nil ?_
  refine t_seq ?_
  refine t_region ?_
  refine l_p rfl rfl (p_move rfl) ?_
  refine l_p rfl rfl (p_move rfl) ?_
  refine l_skip rfl rfl ?_
  refine l_skip rfl rfl ?_
  refine l_skip rfl rfl ?_
  refine l_p rfl rfl (p_pickf rfl rfl) ?_
  refine l_nil ?_
  refine t_iff rfl ?_
  refine t_skip ?_
  refine t_seq ?_
  refine t_region ?_
  refine l_p rfl rfl (p_move rfl) ?_
  refine l_nil ?_
  refine t_block ?_
  refine t_seq ?_
  refine t_region ?_
  refine l_p rfl rfl (p_ta rfl (lacksUnwrap _ _)) ?_
  refine l_p rfl rfl (p_ext rfl rfl) ?_
  refine l_p rfl rfl (p_ext rfl rfl) ?_
  refine l_nil ?_
  refine t_iff rfl ?_
  refine t_seq ?_
  refine t_region ?_
  refine l_p rfl rfl (p_ta rfl (hasUnwraps _ _)) ?_
  refine l_p rfl rfl (p_ext rfl rfl) ?_
  refine l_p rfl rfl (p_ext rfl rfl) ?_
  refine l_nil ?_
  refine t_ift rfl ?_
  refine t_seq ?_
  refine t_region ?_
  refine l_p rfl rfl (p_assign rfl) ?_
  refine l_nil ?_
  refine t_seq ?_
  refine t_seq ?_
  refine t_region ?_
  refine l_p rfl rfl (p_move rfl) ?_
  refine l_invL rfl rfl rfl rfl (methodUnwrap _) ((junwrap hj).at_ _) ?_
  refine l_p rfl rfl (p_lensl (by exact rfl)) ?_
  refine l_p rfl rfl (p_move rfl) ?_
  refine l_nil ?_
  refine t_block ?_
  refine t_loop (ι := Unit) { E := fun _ => [(1, .iface FP (.pointer (some ⟨gt, 0, none⟩))), (3, vTy FT), (6, .pointer (some ⟨g6, 0, none⟩)), (48, .slice A0 (fault e :: r).length c0), (49, i64 (fault e :: r).length), (50, i64 (0 : Nat))], S := fun _ => σ, M := fun _ => Bx g6 [hdl FP, .pointer (some ⟨gv, 0, none⟩), .int .u64 150] 94 :: Bx gt [i64 old] FT :: F, Φ := fun _ => True } (fun _ => 0) ()
    (by exact ⟨rfl, rfl, rfl, rfl, rfl, rfl, trivial⟩) trivial (fun w hI => hI) ?_
  intro _ _
  dsimp only
  have h0 : (0 : Nat) < (fault e :: r).length := Nat.zero_lt_succ _
  refine t_seq ?_
  refine t_region ?_
  refine l_p rfl rfl (p_lt rfl rfl) ?_
  refine l_nil ?_
  refine t_seq ?_
  refine t_ifd rfl (fun _ => ?_) (fun h => by omega)
  refine t_skip ?_
  refine t_seq ?_
  refine t_block ?_
  refine t_seq ?_
  refine t_region ?_
  refine l_p rfl rfl (p_ix _ (by exact rfl) (by exact rfl) (by exact rfl) (by omega) (Rds.ix (by assumption) (by omega))) ?_
  refine l_p rfl rfl (p_ld1 (by exact rfl) (Rds.of (Rds.ix (by assumption) (by omega)) (by exact rfl))) ?_
  refine l_p rfl rfl (p_assign rfl) ?_
  refine l_nil ?_
  refine t_seq ?_
  refine t_seq ?_
  refine t_region ?_
  refine l_p rfl rfl (p_move rfl) ?_
  refine l_p rfl rfl (p_ieq (by kernel_rfl) (by exact rfl)) ?_
  refine l_nil ?_
  refine t_iff rfl ?_
  refine t_skip ?_
  refine t_seq ?_
  refine t_region ?_
  refine l_p rfl rfl (p_move rfl) ?_
  refine l_p rfl rfl (p_move rfl) ?_
  refine l_p rfl rfl (p_ldn (by exact rfl) Rds.bxi (by exact rfl) (by exact rfl)) ?_
  refine l_p rfl rfl (p_move rfl) ?_
  refine l_callq1 rfl rfl rfl (.s .z) (asFault e old hv) ?_
  rintro _ _ _ - ⟨rfl, rfl, rfl⟩
  refine l_nil ?_
  refine t_ift rfl ?_
  refine t_seq ?_
  refine t_region ?_
  refine l_p rfl rfl (p_assign rfl) ?_
  refine l_nil ?_
  exact t_ret1 rfl rfl fun w hI => ⟨σ, _, .refl σ, ⟨rfl, rfl, rfl⟩, hI.prs (.cons .z (.drop .refl))⟩
/-- An error's number. -/
inductive ErrV (σ : Stb) : Value → Int → Prop
  | nil : ErrV σ .nilIface 0
  | fault (e : Int) : ErrV σ (fault e) e
  | join {gj : Nat} {fr2 : Nat × Nat} {sv : Value} {r : List Value} (e : Int) : σ.blk gj = some (.cells [sv].toArray 110 fr2) → Sl σ 1 (fun v : Value => [v]) sv (fault e :: r) → ErrV σ (.iface JP (.pointer (some ⟨gj, 0, none⟩))) e
theorem ErrV.up {σ σ' : Stb} {v : Value} {e : Int} (h : ErrV σ v e) (hs : σ.le σ') : ErrV σ' v e := by
  cases h with
  | nil => exact .nil
  | fault e => exact .fault e
  | join e h1 h2 => exact .join e (hs.blk _ _ h1) (h2.up hs)
def LaidE (σ : Stb) : Prop := ∃ (r : List Value) (T : TypeId) (fr : Nat × Nat), σ.blk 0 = some (.cells (vTy 53 :: r).toArray T fr)
theorem LaidE.up {σ σ' : Stb} (h : LaidE σ) (hs : σ.le σ') : LaidE σ' := by
  obtain ⟨r, T, fr, h⟩ := h
  exact ⟨r, T, fr, hs.blk _ _ h⟩
theorem errorsAs {σ : Stb} {gt : Nat} {v : Value} {e : Int} (old : Int) (hG : LaidE σ) (h : ErrV σ v e) (hne : v ≠ .nilIface) :
    Sq1 Tryd.prog 39 [v, .iface FP (.pointer (some ⟨gt, 0, none⟩))] σ (Bx gt [i64 old] FT) fun u σ' r => u = .bool true ∧ r = Bx gt [i64 e] FT := by
  obtain ⟨GR, GT, gfr, hG⟩ := hG
  refine sq1 Tryd.func39 rfl (by kernel_rfl) rfl fun F => ?_
  obtain ⟨dt, dv, rfl⟩ : ∃ dt dv, v = .iface dt dv := by cases h <;> first | exact ⟨_, _, rfl⟩ | exact absurd rfl hne
  refine t_seq ?_
  refine t_region ?_
  refine l_p rfl rfl (p_assign rfl) ?_
  refine l_nil ?_
  refine t_seq ?_
  refine t_seq ?_
  refine t_region ?_
  refine l_p rfl rfl (p_move rfl) ?_
  refine l_p rfl rfl (p_ieq (by kernel_rfl) (by exact rfl)) ?_
  refine l_nil ?_
  refine t_iff rfl ?_
  refine t_skip ?_
  refine t_seq ?_
  refine t_seq ?_
  refine t_region ?_
  refine l_p rfl rfl (p_move rfl) ?_
  refine l_p rfl rfl (p_ieq (by kernel_rfl) (by exact rfl)) ?_
  refine l_nil ?_
  refine t_iff rfl ?_
  refine t_skip ?_
  refine t_seq ?_
  refine t_region ?_
  refine l_p rfl rfl (p_move rfl) ?_
  refine l_extG (e := fun args => ReflectliteValue.unpack (args.getD 0 (.tuple #[]))) (Ψ := fun v σ' L' => ∃ b, v = vVal FP b 150 ∧ σ = σ' ∧ L' = Bx b [.pointer (some ⟨gt, 0, none⟩)] FP :: Bx gt [i64 old] FT :: F) rfl rfl rfl Tryd.func54 (by kernel_rfl) (by kernel_rfl) (by kernel_rfl) (by kernel_rfl)
    (fun w hI => ⟨_, _, _, _, vofP ⟨gt, 0, none⟩ w, ⟨_, rfl, rfl, rfl⟩, hI.box [.pointer (some ⟨gt, 0, none⟩)] FP⟩) ?_
  rintro _ _ _ ⟨b, rfl, rfl, rfl⟩
  refine l_fzb .z fun σ1 hσ1 hb => ?_
  have h1 := h.up hσ1
  have hG1 := hσ1.blk _ _ hG
  refine l_alloc (by exact rfl) (by exact rfl) (by exact rfl) ?_; intro _
  refine l_sti rfl rfl rfl rfl rfl (by exact rfl) (by exact rfl) (by exact rfl) (by exact ⟨rfl, rfl⟩) ?_
  refine l_nil ?_
  refine t_seq ?_
  refine t_region ?_
  refine l_p rfl rfl (p_ldn (by exact rfl) Rds.bxi (by exact rfl) (by exact rfl)) ?_
  refine l_p rfl rfl (p_extern (e := ReflectliteValue.methodAny (ReflectliteValue.valueError "reflectlite.Value.Type" 0) (fun t _ _ _ => ReflectliteType.toType t)) rfl Tryd.func55 (by kernel_rfl) (by kernel_rfl) (by kernel_rfl) (by kernel_rfl) (fun w _ => typeP _ w)) ?_
  refine l_p rfl rfl (p_assign rfl) ?_
  refine l_nil ?_
  refine t_seq ?_
  refine t_seq ?_
  refine t_region ?_
  refine l_p rfl rfl (p_move rfl) ?_
  refine l_p rfl rfl (p_invoke (e := ReflectliteType.abiMethod fun t => do pure (.int .u8 (← Rtype.kind t))) rfl rfl (methodKind _) Tryd.func83 (by kernel_rfl) (by kernel_rfl) (by kernel_rfl) (by kernel_rfl) (fun w _ => kindP w)) ?_
  refine l_p rfl rfl (p_ne rfl rfl) ?_
  refine l_p rfl rfl (p_move rfl) ?_
  refine l_p rfl rfl (p_ldn (by exact rfl) Rds.bxi (by exact rfl) (by exact rfl)) ?_
  refine l_split 20 rfl (fun h => by omega) (fun _ => ?_)
  refine l_p rfl rfl (p_extern (e := ReflectliteValue.method (ReflectliteValue.valueError "reflectlite.Value.IsNil" 0) ReflectliteValue.isNil) rfl Tryd.func56 (by kernel_rfl) (by kernel_rfl) (by kernel_rfl) (by kernel_rfl) (fun w hI => isNilP ⟨b, 0, none⟩ ⟨gt, 0, none⟩ w (cell_blk hb hI))) ?_
  refine l_p rfl rfl (p_pickf rfl rfl) ?_
  refine l_nil ?_
  refine t_iff rfl ?_
  refine t_skip ?_
  refine t_seq ?_
  refine t_region ?_
  refine l_p rfl rfl (p_move rfl) ?_
  refine l_p rfl rfl (p_invoke (e := ReflectliteType.method ReflectliteType.elem) rfl rfl (methodElem _) Tryd.func95 (by kernel_rfl) (by kernel_rfl) (by kernel_rfl) (by kernel_rfl) (fun w _ => elemTP w)) ?_
  refine l_p rfl rfl (p_assign rfl) ?_
  refine l_nil ?_
  refine t_seq ?_
  refine t_seq ?_
  refine t_region ?_
  refine l_p rfl rfl (p_move rfl) ?_
  refine l_p rfl rfl (p_invoke (e := ReflectliteType.abiMethod fun t => do pure (.int .u8 (← Rtype.kind t))) rfl rfl (methodKind _) Tryd.func83 (by kernel_rfl) (by kernel_rfl) (by kernel_rfl) (by kernel_rfl) (fun w _ => kindF w)) ?_
  refine l_p rfl rfl (p_ne rfl rfl) ?_
  refine l_p rfl rfl (p_move rfl) ?_
  refine l_p rfl rfl (p_move rfl) ?_
  refine l_split 30 rfl (fun _ => ?_) (fun h => by omega)
  have hG2 : ∀ L, Rds σ1 L (.pointer (some ⟨0, 0, none⟩)) (vTy 53 :: GR) := fun L => Rds.blk hG1
  refine l_p rfl rfl (p_ld1 rfl (hG2 _)) ?_
  skip
  refine l_p rfl rfl (p_invoke (e := ReflectliteType.relation "Implements" ReflectliteType.implements_) rfl rfl (methodImplements _) Tryd.func96 (by kernel_rfl) (by kernel_rfl) (by kernel_rfl) (by kernel_rfl) (fun w _ => implementsF w)) ?_
  refine l_p rfl rfl (p_nott rfl) ?_
  refine l_p rfl rfl (p_pickt rfl rfl) ?_
  refine l_nil ?_
  refine t_iff rfl ?_
  refine t_skip ?_
  refine t_seq ?_
  refine t_region ?_
  refine l_p rfl rfl (p_move rfl) ?_
  refine l_p rfl rfl (p_move rfl) ?_
  refine l_p rfl rfl (p_ldn (by exact rfl) Rds.bxi (by exact rfl) (by exact rfl)) ?_
  refine l_p rfl rfl (p_move rfl) ?_
  cases h1 with
  | fault e =>
    refine l_callq1 rfl rfl rfl (.s .z) (asFault e old hb) ?_
    rintro _ _ _ - ⟨rfl, rfl, rfl⟩
    refine l_p rfl rfl (p_assign rfl) ?_
    refine l_nil ?_
    exact t_ret1 rfl rfl fun w hI => ⟨σ1, _, hσ1, ⟨rfl, rfl⟩, hI.prs (.cons .z (.drop .refl))⟩
  | join e hj1 hj2 =>
    refine l_callq1 rfl rfl rfl (.s .z) (asJoin e old hb hj1 hj2) ?_
    rintro _ _ _ - ⟨rfl, rfl, rfl⟩
    refine l_p rfl rfl (p_assign rfl) ?_
    refine l_nil ?_
    exact t_ret1 rfl rfl fun w hI => ⟨σ1, _, hσ1, ⟨rfl, rfl⟩, hI.prs (.cons .z (.drop .refl))⟩
theorem exwhy {σ : Stb} {v : Value} {e : Int} (hG : LaidE σ) (h : ErrV σ v e) : Sp0 Tryd.prog 22 [v] σ fun u _ => u = i64 e := by
  refine sp0 Tryd.func22 rfl (by kernel_rfl) rfl fun F => ?_
  refine t_seq ?_
  refine t_region ?_
  refine l_p rfl rfl (p_assign rfl) ?_
  refine l_nil ?_
  refine t_seq ?_
  refine t_region ?_
  refine l_alloc (by exact rfl) (by exact rfl) (by exact rfl) ?_; intro _
  refine l_nil ?_
  refine t_seq ?_
  refine t_seq ?_
  refine t_region ?_
  refine l_p rfl rfl (p_move rfl) ?_
  refine l_p rfl rfl (p_iface (by exact rfl)) ?_
  by_cases hne : v = .nilIface
  · subst hne
    cases h
    have hnil : ∀ t : Value, SpV Tryd.prog 39 [.nilIface, t] σ (.bool false) := fun t => by
      refine spv Tryd.func39 rfl (by kernel_rfl) rfl fun F => ?_
      refine t_seq ?_
      refine t_region ?_
      refine l_p rfl rfl (p_assign rfl) ?_
      refine l_nil ?_
      refine t_seq ?_
      refine t_seq ?_
      refine t_region ?_
      refine l_p rfl rfl (p_move rfl) ?_
      refine l_p rfl rfl (p_ieq0 (by kernel_rfl) (by exact rfl)) ?_
      refine l_nil ?_
      refine t_ift rfl ?_
      refine t_seq ?_
      refine t_region ?_
      refine l_p rfl rfl (p_assign rfl) ?_
      refine l_nil ?_
      exact t_ret1 rfl rfl fun w hI => ⟨rfl, hI⟩
    refine l_callv rfl rfl rfl (hnil _) ?_
    refine l_nil ?_
    refine t_iff rfl ?_
    refine t_skip ?_
    refine t_seq ?_
    refine t_region ?_
    refine l_p rfl rfl (p_assign rfl) ?_
    refine l_nil ?_
    exact t_ret1 rfl rfl fun w hI => ⟨σ, .refl σ, rfl, hI.tail⟩
  · refine l_callq1 rfl rfl rfl .z (errorsAs 0 hG h hne) ?_
    rintro _ σ1 _ h1 ⟨rfl, rfl⟩
    refine l_nil ?_
    refine t_ift rfl ?_
    refine t_seq ?_
    refine t_region ?_
    refine l_p rfl rfl (p_fa (by exact rfl) Rds.bxi) ?_
    refine l_p rfl rfl (p_ld1 (by exact rfl) Rds.bxi) ?_
    refine l_p rfl rfl (p_assign rfl) ?_
    refine l_nil ?_
    exact t_ret1 rfl rfl fun w hI => ⟨σ1, h1, rfl, hI.tail⟩
end Go.Proofs.YtbijponhndknlaaDoor
