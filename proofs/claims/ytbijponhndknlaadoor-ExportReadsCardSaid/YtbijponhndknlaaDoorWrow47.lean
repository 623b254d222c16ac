/- Chapter 47: the laws' walks at their arguments; the laid variable. -/
import Derived.Test.YtbijponhndknlaaDoorWlaw47
import Derived.Test.YtbijponhndknlaaDoorE20
import Derived.Test.YtbijponhndknlaaDoorRows
import Derived.ProofKit
import Derived.LaidMore
import Derived.Lay
import Derived.Stop.Joined
import Derived.LaidHandle
set_option linter.unusedSimpArgs false
set_option linter.unusedVariables false
set_option maxRecDepth 20000
namespace Go.Proofs.YtbijponhndknlaaDoor
open Go.Sp Go.RowKit
theorem lcells {cs : Array Value} {u : Value} (h : cs[0]? = some u) : ∃ r : List Value, cs = (u :: r).toArray := by
  obtain ⟨l⟩ := cs
  cases l with
  | nil => simp at h
  | cons x r => simp at h; subst h; exact ⟨r, rfl⟩
theorem et47 : Tryd.prog.globalNamed "errors.errorType" = some 0 := by kernel_rfl
theorem rt47 : (Tryd.prog.cutTypes.find? (·.1 == "internal/reflectlite.rtype")).map (·.2) = some RT := by kernel_rfl
theorem one47 : ((List.range Tryd.prog.types.size).filter fun t => Tryd.prog.rowNamed t [101, 114, 114, 111, 114]) = [53] := by kernel_rfl
theorem laidE_of {W : World} (h : laidMetH Tryd.prog Rows.exportReadsRow.laid W) : LaidE (Stb.of W) := by
  have h' : laidMet Tryd.prog [] W ∧ handlesMet Tryd.prog Rows.exportReadsRow.laid W := h
  obtain ⟨name, u, ty, e1, e2, e3, e4, e5⟩ := h'.2 _ (List.mem_singleton.2 rfl)
  have en : name = [101, 114, 114, 111, 114] := (Option.some.inj e1).symm
  subst en
  obtain rfl := Option.some.inj (rt47.symm.trans e2)
  have hm : ty ∈ (List.range Tryd.prog.types.size).filter fun t => Tryd.prog.rowNamed t [101, 114, 114, 111, 114] := List.mem_filter.2 ⟨List.mem_range.2 e3, e4⟩
  rw [one47] at hm
  obtain rfl := List.mem_singleton.1 hm
  have hc : W.cell? ⟨0, 0, none⟩ = some (vTy 53) := by
    show W.cell? ⟨0, 0, none⟩ = some (.iface RT (.agg #[typeHandle Tryd.prog 53]))
    simpa using World.var?_cell et47 e5 0
  obtain ⟨_, cs, E, fr, hb, hcs⟩ := cell_block hc
  obtain ⟨r, rfl⟩ := lcells hcs
  have h0 : 0 < W.heap.size := by
    rcases Nat.lt_or_ge 0 W.heap.size with h | h
    · exact h
    · rw [Array.getElem?_eq_none h] at hb; cases hb
  refine ⟨r, E, fr, ?_⟩
  simp only [Stb.of]
  exact hb
theorem reads_at {W : World} (hL : laidMetH Tryd.prog Rows.exportReadsRow.laid W) (v0 : Value) (b : List UInt8) (hS : Sl (Stb.of W) 1 (fun b : UInt8 => [u8 b]) v0 b) (v1 : Value) (l : List HeldA) (hH : OkHs (Stb.of W) v1 l) (i : Int) (x : UInt8) :
    Sp0 Tryd.prog 3 [v0, v1, i64 i, u8 x] (Stb.of W) fun v _ => v = .bool true := by
  obtain ⟨A, c, rfl, _⟩ := hS.shape
  obtain ⟨B, d, rfl, _⟩ := hH.1.shape
  exact law_reads (laidE_of hL) hS hH i x
/-- A world that meets the condition: the variable's cell laid. -/
noncomputable def laidW (os : Os) : World :=
  let w0 := World.holding Tryd.prog os ⟨#[], #[], []⟩
  { w0 with heap := w0.heap.modify 0 fun
      | .cells _ t frozen => .cells #[vTy 53] t frozen
      | o => o }
theorem laidW_met (os : Os) (args : Array Value) : laidMetH Tryd.prog Rows.exportReadsRow.laid ((laidW os).forCall (fun _ _ => 0) ⟨#[], args, []⟩).memory :=
  laidMetH_of_parts (laidMet_nil _ _) (by kernel_rfl)
end Go.Proofs.YtbijponhndknlaaDoor
