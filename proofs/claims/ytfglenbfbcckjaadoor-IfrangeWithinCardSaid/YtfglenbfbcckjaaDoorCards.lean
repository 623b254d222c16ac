/-
  DERIVED. GIVEN WITH THE SEED: THE CARDS: each row of YtfglenbfbcckjaaDoorRows.lean that lists a variable, with what it lists TIED to the program's text (the seventh form; the later family's looks); each row that meets fmt, with fmt's text TOLD by the authors' own Lean function (tested against real Go, not proved from fmt's source: count such statements apart). THE CARD IS WHAT COUNTS. Prove the row's statement (the work); the ties are given (YtfglenbfbcckjaaDoorTie.lean); close each card by the builder's one call (the guide's Derived/Test/ToyasCard.lean, 'card_holds'). Laid BY PROGRAM, IN A SANDBOX (cutbox-door.mjs). By AI agents, Wed Nov 11 2026. No macro, syntax, notation, axiom, sorry.
-/
import Derived.Test.YtfglenbfbcckjaaDoorRows
import GoSem.ClaimSeven
namespace Go.Proofs.YtfglenbfbcckjaaDoor
namespace Rows

/-- THE TIED CARD OF 'spencelaw09.IfrangeWithin'. -/
def ifrangeWithinCard : Claim7 := { stood := { row := ifrangeWithinRow, standIns := [], harness := (true, "0d9392732a4e6fa51f09b54d6188f5afffeb8ce0d78579733a9fc182f9ed1a08"), looks := false }, kinds := [], alts := [], laidByText := true, laidKinds := [.data, .pinned], laidTests := true, laidLooks := .later }
def IfrangeWithinCardSaid : Prop := Claim7.holds Tryd.pinned (.plain (OpenSpec.ofChange ifrangeWithinSpec)) ifrangeWithinCard

/-- THE TIED CARD OF 'spencelaw09.IfrangeOne'. -/
def ifrangeOneCard : Claim7 := { stood := { row := ifrangeOneRow, standIns := [], harness := (true, "0d9392732a4e6fa51f09b54d6188f5afffeb8ce0d78579733a9fc182f9ed1a08"), looks := false }, kinds := [], alts := [], laidByText := true, laidKinds := [.data, .pinned], laidTests := true, laidLooks := .later }
def IfrangeOneCardSaid : Prop := Claim7.holds Tryd.pinned (.plain (OpenSpec.ofChange ifrangeOneSpec)) ifrangeOneCard

/-- THE SECOND FORM's CARD OF 'spencelaw09.IfrangeWithin'. -/
def ifrangeWithinUptoCard : Claim7 := { stood := { row := ifrangeWithinUptoRow, standIns := [], harness := (true, "0d9392732a4e6fa51f09b54d6188f5afffeb8ce0d78579733a9fc182f9ed1a08"), looks := false }, kinds := [], alts := [], laidByText := true, laidKinds := [.data, .pinned], laidTests := true, laidLooks := .later }
def IfrangeWithinUptoCardSaid : Prop := Claim7.holds Tryd.pinned (.plain (OpenSpec.upto ifrangeWithinSpec)) ifrangeWithinUptoCard

/-- THE SECOND FORM's CARD OF 'spencelaw09.IfrangeOne'. -/
def ifrangeOneUptoCard : Claim7 := { stood := { row := ifrangeOneUptoRow, standIns := [], harness := (true, "0d9392732a4e6fa51f09b54d6188f5afffeb8ce0d78579733a9fc182f9ed1a08"), looks := false }, kinds := [], alts := [], laidByText := true, laidKinds := [.data, .pinned], laidTests := true, laidLooks := .later }
def IfrangeOneUptoCardSaid : Prop := Claim7.holds Tryd.pinned (.plain (OpenSpec.upto ifrangeOneSpec)) ifrangeOneUptoCard
end Rows
end Go.Proofs.YtfglenbfbcckjaaDoor
