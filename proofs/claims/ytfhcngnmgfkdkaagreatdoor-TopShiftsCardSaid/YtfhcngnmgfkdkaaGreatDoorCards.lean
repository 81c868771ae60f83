/-
  DERIVED. GIVEN WITH THE SEED: THE CARDS: each row of YtfhcngnmgfkdkaaGreatDoorRows.lean that lists a variable, with what it lists TIED to the program's text (the seventh form; the later family's looks); each row that meets fmt, with fmt's text TOLD by the authors' own Lean function (tested against real Go, not proved from fmt's source: count such statements apart). THE CARD IS WHAT COUNTS. Prove the row's statement (the work); the ties are given (YtfhcngnmgfkdkaaGreatDoorTie.lean); close each card by the builder's one call (the guide's Derived/Test/ToyasCard.lean, 'card_holds'). Laid BY PROGRAM, IN A SANDBOX (cutbox-door.mjs). By AI agents, Wed Nov 11 2026. No macro, syntax, notation, axiom, sorry.
-/
import Derived.Test.YtfhcngnmgfkdkaaGreatDoorRows
import GoSem.ClaimSeven
namespace Go.Proofs.YtfhcngnmgfkdkaaGreatDoor
namespace Rows

/-- THE TIED CARD OF 'faastop.TopShifts'. -/
def topShiftsCard : Claim7 := { stood := { row := topShiftsRow, standIns := [], harness := (true, "b3d18312d8804349ede0ac3ef1c38a6badc16b7d98ac91753b890654a66526e4"), looks := true }, kinds := [], alts := [], laidByText := true, laidKinds := [.data, .data, .data, .sentinel, .sentinel, .data], laidTests := true, laidLooks := .later }
def TopShiftsCardSaid : Prop := Claim7.holds Tryz.pinned (.plain (OpenSpec.ofChange topShiftsSpec)) topShiftsCard

/-- THE SECOND FORM's CARD OF 'faastop.TopShifts'. -/
def topShiftsUptoCard : Claim7 := { stood := { row := topShiftsUptoRow, standIns := [], harness := (true, "b3d18312d8804349ede0ac3ef1c38a6badc16b7d98ac91753b890654a66526e4"), looks := true }, kinds := [], alts := [], laidByText := true, laidKinds := [.data, .data, .data, .sentinel, .sentinel, .data], laidTests := true, laidLooks := .later }
def TopShiftsUptoCardSaid : Prop := Claim7.holds Tryz.pinned (.plain (OpenSpec.upto topShiftsSpec)) topShiftsUptoCard
end Rows
end Go.Proofs.YtfhcngnmgfkdkaaGreatDoor
