/-
  DERIVED. GIVEN WITH THE SEED: THE CARDS: each row of YtbijponhndknlaaDoorRows.lean that lists a variable, with what it lists TIED to the program's text (the seventh form; the later family's looks); each row that meets fmt, with fmt's text TOLD by the authors' own Lean function (tested against real Go, not proved from fmt's source: count such statements apart). THE CARD IS WHAT COUNTS. Prove the row's statement (the work); the ties are given (YtbijponhndknlaaDoorTie.lean); close each card by the builder's one call (the guide's Derived/Test/ToyasCard.lean, 'card_holds'). Laid BY PROGRAM, IN A SANDBOX (cutbox-door.mjs). By AI agents, Wed Nov 11 2026. No macro, syntax, notation, axiom, sorry.
-/
import Derived.Test.YtbijponhndknlaaDoorRows
import GoSem.ClaimSeven
namespace Go.Proofs.YtbijponhndknlaaDoor
namespace Rows

/-- THE TIED CARD OF 'spencelaw47.ExportReads'. -/
def exportReadsCard : Claim7 := { stood := { row := exportReadsRow, standIns := [], harness := (true, "9d8eb4f74e4fa7719fa3e45167893ee38ea55f415e49ff684bcbb65d28c1067a"), looks := true }, kinds := [], alts := [], laidByText := true, laidKinds := [.handle], laidTests := true, laidLooks := .later }
def ExportReadsCardSaid : Prop := Claim7.holds Tryd.pinned (.plain (OpenSpec.ofChange exportReadsSpec)) exportReadsCard

/-- THE TIED CARD OF 'spencelaw47.ExportBack'. -/
def exportBackCard : Claim7 := { stood := { row := exportBackRow, standIns := [], harness := (true, "9d8eb4f74e4fa7719fa3e45167893ee38ea55f415e49ff684bcbb65d28c1067a"), looks := true }, kinds := [], alts := [], laidByText := true, laidKinds := [.handle], laidTests := true, laidLooks := .later }
def ExportBackCardSaid : Prop := Claim7.holds Tryd.pinned (.plain (OpenSpec.ofChange exportBackSpec)) exportBackCard

/-- THE SECOND FORM's CARD OF 'spencelaw47.ExportReads'. -/
def exportReadsUptoCard : Claim7 := { stood := { row := exportReadsUptoRow, standIns := [], harness := (true, "9d8eb4f74e4fa7719fa3e45167893ee38ea55f415e49ff684bcbb65d28c1067a"), looks := true }, kinds := [], alts := [], laidByText := true, laidKinds := [.handle], laidTests := true, laidLooks := .later }
def ExportReadsUptoCardSaid : Prop := Claim7.holds Tryd.pinned (.plain (OpenSpec.upto exportReadsSpec)) exportReadsUptoCard

/-- THE SECOND FORM's CARD OF 'spencelaw47.ExportBack'. -/
def exportBackUptoCard : Claim7 := { stood := { row := exportBackUptoRow, standIns := [], harness := (true, "9d8eb4f74e4fa7719fa3e45167893ee38ea55f415e49ff684bcbb65d28c1067a"), looks := true }, kinds := [], alts := [], laidByText := true, laidKinds := [.handle], laidTests := true, laidLooks := .later }
def ExportBackUptoCardSaid : Prop := Claim7.holds Tryd.pinned (.plain (OpenSpec.upto exportBackSpec)) exportBackUptoCard
end Rows
end Go.Proofs.YtbijponhndknlaaDoor
