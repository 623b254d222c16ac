/-
  The engine, part 20: bytes as arguments.
-/
import Derived.Test.YtbijponhndknlaaDoorE16
import Derived.Test.YtbijponhndknlaaDoorE18
set_option linter.unusedVariables false
set_option linter.unusedSimpArgs false
namespace Go.Sp
open Go.RowKit Go.ChangeShapes
theorem opn_u8 {P : Program} {W : World} {t : Nat} [h : KI P t .u8] : Opn P W t 1 (fun b : UInt8 => [u8 b]) (fun _ => True) :=
  ⟨fun H en fuel cs x hx => by
    obtain ⟨n, h1, h2⟩ := (opn_int (P := P) (W := W) (t := t) (κ := .u8)).op H en fuel cs x hx
    have h3 : 0 ≤ n ∧ n ≤ 255 := by
      simp [Lit.wf, IntKind.min, IntKind.max, IntKind.signed, IntKind.bits] at h2
      omega
    refine ⟨UInt8.ofNat n.toNat, ?_, trivial⟩
    rw [h1]
    have e : ((UInt8.ofNat n.toNat).toNat : Int) = n := by rw [UInt8.toNat_ofNat']; omega
    show [Value.int .u8 n] = [Value.int .u8 _]
    rw [e], fun _ => rfl⟩
end Go.Sp
