/-
  DERIVED. GIVEN WITH THE SEED: THE CARDS: each row of YtbofclohnmojmaaGreatDoorRows.lean that lists a variable, with what it lists TIED to the program's text (the seventh form; the later family's looks); each row that meets fmt, with fmt's text TOLD by the authors' own Lean function (tested against real Go, not proved from fmt's source: count such statements apart). THE CARD IS WHAT COUNTS. Prove the row's statement (the work); the ties are given (YtbofclohnmojmaaGreatDoorTie.lean); close each card by the builder's one call (the guide's Derived/Test/ToyasCard.lean, 'card_holds'). Laid BY PROGRAM, IN A SANDBOX (cutbox-door.mjs). By AI agents, Wed Nov 11 2026. No macro, syntax, notation, axiom, sorry.
-/
import Derived.Test.YtbofclohnmojmaaGreatDoorRows
import GoSem.ClaimSeven
namespace Go.Proofs.YtbofclohnmojmaaGreatDoor
namespace Rows

/-- THE TIED CARD OF 'faaslaw29.FifoDoes'. -/
def fifoDoesCard : Claim7 := { stood := { row := fifoDoesRow, standIns := [], harness := (true, "acd2af8f304fc69d58d95b59decf6f8a3cd2d1ba276a3e0e6d37b9dc8e0aa0d5"), looks := true }, kinds := [], alts := [], laidByText := true, laidKinds := [.data, .data, .data, .sentinel, .sentinel], laidTests := true, laidLooks := .later }
def FifoDoesCardSaid : Prop := Claim7.holds Tryz.pinned (.plain (OpenSpec.ofChange fifoDoesSpec)) fifoDoesCard

/-- THE TIED CARD OF 'faaslaw29.FifoNone'. -/
def fifoNoneCard : Claim7 := { stood := { row := fifoNoneRow, standIns := [], harness := (true, "acd2af8f304fc69d58d95b59decf6f8a3cd2d1ba276a3e0e6d37b9dc8e0aa0d5"), looks := true }, kinds := [], alts := [], laidByText := true, laidKinds := [.data, .data, .data, .sentinel, .sentinel], laidTests := true, laidLooks := .later }
def FifoNoneCardSaid : Prop := Claim7.holds Tryz.pinned (.plain (OpenSpec.ofChange fifoNoneSpec)) fifoNoneCard

/-- THE TIED CARD OF 'faaslaw29.FifoOrders'. -/
def fifoOrdersCard : Claim7 := { stood := { row := fifoOrdersRow, standIns := [], harness := (true, "acd2af8f304fc69d58d95b59decf6f8a3cd2d1ba276a3e0e6d37b9dc8e0aa0d5"), looks := true }, kinds := [], alts := [], laidByText := true, laidKinds := [.data, .data, .data, .sentinel, .sentinel], laidTests := true, laidLooks := .later }
def FifoOrdersCardSaid : Prop := Claim7.holds Tryz.pinned (.plain (OpenSpec.ofChange fifoOrdersSpec)) fifoOrdersCard

/-- THE TIED CARD OF 'faaslaw29.FifoKeeps'. -/
def fifoKeepsCard : Claim7 := { stood := { row := fifoKeepsRow, standIns := [], harness := (true, "acd2af8f304fc69d58d95b59decf6f8a3cd2d1ba276a3e0e6d37b9dc8e0aa0d5"), looks := true }, kinds := [], alts := [], laidByText := true, laidKinds := [.data, .data, .data, .sentinel, .sentinel], laidTests := true, laidLooks := .later }
def FifoKeepsCardSaid : Prop := Claim7.holds Tryz.pinned (.plain (OpenSpec.ofChange fifoKeepsSpec)) fifoKeepsCard

/-- THE SECOND FORM's CARD OF 'faaslaw29.FifoDoes'. -/
def fifoDoesUptoCard : Claim7 := { stood := { row := fifoDoesUptoRow, standIns := [], harness := (true, "acd2af8f304fc69d58d95b59decf6f8a3cd2d1ba276a3e0e6d37b9dc8e0aa0d5"), looks := true }, kinds := [], alts := [], laidByText := true, laidKinds := [.data, .data, .data, .sentinel, .sentinel], laidTests := true, laidLooks := .later }
def FifoDoesUptoCardSaid : Prop := Claim7.holds Tryz.pinned (.plain (OpenSpec.upto fifoDoesSpec)) fifoDoesUptoCard

/-- THE SECOND FORM's CARD OF 'faaslaw29.FifoNone'. -/
def fifoNoneUptoCard : Claim7 := { stood := { row := fifoNoneUptoRow, standIns := [], harness := (true, "acd2af8f304fc69d58d95b59decf6f8a3cd2d1ba276a3e0e6d37b9dc8e0aa0d5"), looks := true }, kinds := [], alts := [], laidByText := true, laidKinds := [.data, .data, .data, .sentinel, .sentinel], laidTests := true, laidLooks := .later }
def FifoNoneUptoCardSaid : Prop := Claim7.holds Tryz.pinned (.plain (OpenSpec.upto fifoNoneSpec)) fifoNoneUptoCard

/-- THE SECOND FORM's CARD OF 'faaslaw29.FifoOrders'. -/
def fifoOrdersUptoCard : Claim7 := { stood := { row := fifoOrdersUptoRow, standIns := [], harness := (true, "acd2af8f304fc69d58d95b59decf6f8a3cd2d1ba276a3e0e6d37b9dc8e0aa0d5"), looks := true }, kinds := [], alts := [], laidByText := true, laidKinds := [.data, .data, .data, .sentinel, .sentinel], laidTests := true, laidLooks := .later }
def FifoOrdersUptoCardSaid : Prop := Claim7.holds Tryz.pinned (.plain (OpenSpec.upto fifoOrdersSpec)) fifoOrdersUptoCard

/-- THE SECOND FORM's CARD OF 'faaslaw29.FifoKeeps'. -/
def fifoKeepsUptoCard : Claim7 := { stood := { row := fifoKeepsUptoRow, standIns := [], harness := (true, "acd2af8f304fc69d58d95b59decf6f8a3cd2d1ba276a3e0e6d37b9dc8e0aa0d5"), looks := true }, kinds := [], alts := [], laidByText := true, laidKinds := [.data, .data, .data, .sentinel, .sentinel], laidTests := true, laidLooks := .later }
def FifoKeepsUptoCardSaid : Prop := Claim7.holds Tryz.pinned (.plain (OpenSpec.upto fifoKeepsSpec)) fifoKeepsUptoCard
end Rows
end Go.Proofs.YtbofclohnmojmaaGreatDoor
