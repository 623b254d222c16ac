/- errors.As at a fault: the entries for internal/reflectlite; walks. -/
import Derived.Test.YtbijponhndknlaaDoorTy
import Derived.Test.YtbijponhndknlaaDoorE19
set_option linter.unusedSimpArgs false
set_option linter.unusedVariables false
set_option maxRecDepth 20000
namespace Go.Proofs.YtbijponhndknlaaDoor
open Go.Sp
attribute [local irreducible] Go.Sp.Pr Go.Sp.Ws Go.Sp.Wl Go.Sp.Wq Go.Sp.Rds Go.Sp.Src
open Go.Extern Go.RowKit
/-- A type's descriptor. -/
noncomputable def hdl (t : Nat) : Value := typeHandle Tryd.prog t
abbrev FT : Nat := 74
abbrev FP : Nat := 78
abbrev RT : Nat := 114
abbrev JP : Nat := 108
noncomputable abbrev vTy (t : Nat) : Value := .iface RT (.agg #[hdl t])
noncomputable abbrev vVal (t : Nat) (b : Nat) (f : Int) : Value := .agg #[hdl t, .pointer (some ⟨b, 0, none⟩), .int .u64 f]
abbrev fault (e : Int) : Value := .iface FT (.agg #[i64 e])
theorem vofP (t : Addr) (w : World) : (ReflectliteValue.unpack (.iface FP (.pointer (some t)))).run Tryd.prog w = .ok (.agg #[hdl FP, .pointer (some ⟨w.heap.size, 0, none⟩), .int .u64 150]) (w.alloc (.cells #[.pointer (some t)] FP)) := by kernel_rfl
theorem vofF (e : Int) (w : World) : (ReflectliteValue.unpack (fault e)).run Tryd.prog w = .ok (.agg #[hdl FT, .pointer (some ⟨w.heap.size, 0, none⟩), .int .u64 153]) (w.alloc (.cells #[i64 e] FT)) := by kernel_rfl
theorem typeP (a : Addr) (w : World) : (ReflectliteValue.methodAny (ReflectliteValue.valueError "reflectlite.Value.Type" 0) (fun t _ _ _ => ReflectliteType.toType t) #[.agg #[hdl FP, .pointer (some a), .int .u64 150]]).run Tryd.prog w = .ok (vTy FP) w := by kernel_rfl
theorem methodKind (h : Value) (w : World) : (Go.method (Tryd.prog.types.size + Made.depth) RT (.agg #[h]) "Kind").run Tryd.prog w = .ok (83, h) w := by kernel_rfl
theorem kindP (w : World) : ((ReflectliteType.abiMethod fun t => do pure (.int .u8 (← Rtype.kind t))) #[hdl FP]).run Tryd.prog w = .ok (.int .u8 22) w := by kernel_rfl
theorem kindF (w : World) : ((ReflectliteType.abiMethod fun t => do pure (.int .u8 (← Rtype.kind t))) #[hdl FT]).run Tryd.prog w = .ok (.int .u8 25) w := by kernel_rfl
theorem rlm (z : Sem Value) (f : TypeId → Addr → Nat → Nat → Sem Value) (v : Value) :
    ReflectliteValue.method z f #[v] = (do match ← ReflectliteValue.parts v with | none => z | some (t, a, fl) => f t a fl (fl % 32)) := rfl
theorem partsP (a : Addr) (w : World) : (ReflectliteValue.parts (.agg #[hdl FP, .pointer (some a), .int .u64 150])).run Tryd.prog w = .ok (some (FP, a, 150)) w := by kernel_rfl
theorem isNilP (a p : Addr) (W : World) (ha : W.cell? a = some (.pointer (some p))) :
    (ReflectliteValue.method (ReflectliteValue.valueError "reflectlite.Value.IsNil" 0) ReflectliteValue.isNil #[.agg #[hdl FP, .pointer (some a), .int .u64 150]]).run Tryd.prog W = .ok (.bool false) W := by
  rw [rlm]
  simp only [Sem.run_bind, partsP, Result.andThen]
  simp [ReflectliteValue.isNil, loadVar, isAgg, underlying, Tryd.underlying78, ha, Result.andThen]
theorem methodElem (h : Value) (w : World) : (Go.method (Tryd.prog.types.size + Made.depth) RT (.agg #[h]) "Elem").run Tryd.prog w = .ok (95, .agg #[h]) w := by kernel_rfl
theorem methodImplements (h : Value) (w : World) : (Go.method (Tryd.prog.types.size + Made.depth) RT (.agg #[h]) "Implements").run Tryd.prog w = .ok (96, .agg #[h]) w := by kernel_rfl
theorem methodAssignableTo (h : Value) (w : World) : (Go.method (Tryd.prog.types.size + Made.depth) RT (.agg #[h]) "AssignableTo").run Tryd.prog w = .ok (93, .agg #[h]) w := by kernel_rfl
theorem methodUnwrap (h : Value) (w : World) : (Go.method (Tryd.prog.types.size + Made.depth) JP h "Unwrap").run Tryd.prog w = .ok (91, h) w := by kernel_rfl
theorem elemTP (w : World) : (ReflectliteType.method ReflectliteType.elem #[.agg #[hdl FP]]).run Tryd.prog w = .ok (vTy FT) w := by kernel_rfl
theorem implementsF (w : World) : (ReflectliteType.relation "Implements" ReflectliteType.implements_ #[.agg #[hdl FT], vTy 53]).run Tryd.prog w = .ok (.bool true) w := by kernel_rfl
theorem typeOfF (v : Value) (w : World) : (ReflectliteType.typeOf #[.iface FT v]).run Tryd.prog w = .ok (vTy FT) w := by kernel_rfl
theorem typeOfJ (v : Value) (w : World) : (ReflectliteType.typeOf #[.iface JP v]).run Tryd.prog w = .ok (vTy JP) w := by kernel_rfl
theorem assignF (w : World) : (ReflectliteType.relation "AssignableTo" ReflectliteType.assignableTo #[.agg #[hdl FT], vTy FT]).run Tryd.prog w = .ok (.bool true) w := by kernel_rfl
theorem assignJ (w : World) : (ReflectliteType.relation "AssignableTo" ReflectliteType.assignableTo #[.agg #[hdl JP], vTy FT]).run Tryd.prog w = .ok (.bool false) w := by kernel_rfl
theorem elemOfP (w : World) : (Rtype.elem? FP).run Tryd.prog w = .ok (some FT) w := by kernel_rfl
theorem mkF (p : Addr) (w : World) : (ReflectliteValue.mk FT p ReflectliteValue.flagAddr).run Tryd.prog w = .ok (.agg #[hdl FT, .pointer (some p), .int .u64 409]) w := by kernel_rfl
theorem elemVP (a p : Addr) (W : World) (ha : W.cell? a = some (.pointer (some p))) :
    (ReflectliteValue.method (ReflectliteValue.valueError "reflectlite.Value.Elem" 0) ReflectliteValue.elem #[.agg #[hdl FP, .pointer (some a), .int .u64 150]]).run Tryd.prog W = .ok (.agg #[hdl FT, .pointer (some p), .int .u64 409]) W := by
  rw [rlm]
  simp only [Sem.run_bind, partsP, Result.andThen]
  simp [ReflectliteValue.elem, loadVar, isAgg, underlying, Tryd.underlying78, ha, Result.andThen, elemOfP, mkF]
theorem lacksAs (v : Value) (xT : TypeId) (w : World) : (Instr.typeAssert (.iface JP v) xT 119 true).run Tryd.prog w = .ok (.tuple #[.nilIface, .bool false]) w := run_typeAssert_lacksB Tryd.underlying119 (by kernel_rfl) (by kernel_rfl) v xT w
theorem lacksUnwrap (v : Value) (xT : TypeId) (w : World) : (Instr.typeAssert (.iface JP v) xT 122 true).run Tryd.prog w = .ok (.tuple #[.nilIface, .bool false]) w := run_typeAssert_lacksB Tryd.underlying122 (by kernel_rfl) (by kernel_rfl) v xT w
theorem hasUnwraps (v : Value) (xT : TypeId) (w : World) : (Instr.typeAssert (.iface JP v) xT 124 true).run Tryd.prog w = .ok (.tuple #[.iface JP v, .bool true]) w := run_typeAssert_hasB Tryd.underlying124 (by kernel_rfl) v xT w
end Go.Proofs.YtbijponhndknlaaDoor
