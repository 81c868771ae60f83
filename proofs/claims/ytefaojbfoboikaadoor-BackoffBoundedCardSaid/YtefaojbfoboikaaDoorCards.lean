/-
  DERIVED. GIVEN WITH THE SEED: THE CARDS: each row of YtefaojbfoboikaaDoorRows.lean that lists a variable, with what it lists TIED to the program's text (the seventh form; the later family's looks); each row that meets fmt, with fmt's text TOLD by the authors' own Lean function (tested against real Go, not proved from fmt's source: count such statements apart). THE CARD IS WHAT COUNTS. Prove the row's statement (the work); the ties are given (YtefaojbfoboikaaDoorTie.lean); close each card by the builder's one call (the guide's Derived/Test/ToyasCard.lean, 'card_holds'). Laid BY PROGRAM, IN A SANDBOX (cutbox-door.mjs). By AI agents, Wed Nov 11 2026. No macro, syntax, notation, axiom, sorry.
-/
import Derived.Test.YtefaojbfoboikaaDoorRows
import GoSem.ClaimSeven
namespace Go.Proofs.YtefaojbfoboikaaDoor
namespace Rows

/-- THE TIED CARD OF 'faaslaw26.BackoffDelays'. -/
def backoffDelaysCard : Claim7 := { stood := { row := backoffDelaysRow, standIns := [], harness := (true, "fe9d3ae3dad1accac51fd578ae20be2d4787c2647841c0a18046394a0e21ce3b"), looks := false }, kinds := [], alts := [], laidByText := true, laidKinds := [.data, .data, .data], laidTests := true, laidLooks := .later }
def BackoffDelaysCardSaid : Prop := Claim7.holds Tryd.pinned (.plain (OpenSpec.ofChange backoffDelaysSpec)) backoffDelaysCard

/-- THE TIED CARD OF 'faaslaw26.BackoffTimes'. -/
def backoffTimesCard : Claim7 := { stood := { row := backoffTimesRow, standIns := [], harness := (true, "fe9d3ae3dad1accac51fd578ae20be2d4787c2647841c0a18046394a0e21ce3b"), looks := false }, kinds := [], alts := [], laidByText := true, laidKinds := [.data, .data, .data], laidTests := true, laidLooks := .later }
def BackoffTimesCardSaid : Prop := Claim7.holds Tryd.pinned (.plain (OpenSpec.ofChange backoffTimesSpec)) backoffTimesCard

/-- THE TIED CARD OF 'faaslaw26.BackoffNext'. -/
def backoffNextCard : Claim7 := { stood := { row := backoffNextRow, standIns := [], harness := (true, "fe9d3ae3dad1accac51fd578ae20be2d4787c2647841c0a18046394a0e21ce3b"), looks := false }, kinds := [], alts := [], laidByText := true, laidKinds := [.data, .data, .data], laidTests := true, laidLooks := .later }
def BackoffNextCardSaid : Prop := Claim7.holds Tryd.pinned (.plain (OpenSpec.ofChange backoffNextSpec)) backoffNextCard

/-- THE TIED CARD OF 'faaslaw26.BackoffBounded'. -/
def backoffBoundedCard : Claim7 := { stood := { row := backoffBoundedRow, standIns := [], harness := (true, "fe9d3ae3dad1accac51fd578ae20be2d4787c2647841c0a18046394a0e21ce3b"), looks := false }, kinds := [], alts := [], laidByText := true, laidKinds := [.data, .data, .data], laidTests := true, laidLooks := .later }
def BackoffBoundedCardSaid : Prop := Claim7.holds Tryd.pinned (.plain (OpenSpec.ofChange backoffBoundedSpec)) backoffBoundedCard

/-- THE TIED CARD OF 'faaslaw26.BackoffJitter'. -/
def backoffJitterCard : Claim7 := { stood := { row := backoffJitterRow, standIns := [], harness := (true, "fe9d3ae3dad1accac51fd578ae20be2d4787c2647841c0a18046394a0e21ce3b"), looks := false }, kinds := [], alts := [], laidByText := true, laidKinds := [.data, .data, .data], laidTests := true, laidLooks := .later }
def BackoffJitterCardSaid : Prop := Claim7.holds Tryd.pinned (.plain (OpenSpec.ofChange backoffJitterSpec)) backoffJitterCard

/-- THE SECOND FORM's CARD OF 'faaslaw26.BackoffDelays'. -/
def backoffDelaysUptoCard : Claim7 := { stood := { row := backoffDelaysUptoRow, standIns := [], harness := (true, "fe9d3ae3dad1accac51fd578ae20be2d4787c2647841c0a18046394a0e21ce3b"), looks := false }, kinds := [], alts := [], laidByText := true, laidKinds := [.data, .data, .data], laidTests := true, laidLooks := .later }
def BackoffDelaysUptoCardSaid : Prop := Claim7.holds Tryd.pinned (.plain (OpenSpec.upto backoffDelaysSpec)) backoffDelaysUptoCard

/-- THE SECOND FORM's CARD OF 'faaslaw26.BackoffTimes'. -/
def backoffTimesUptoCard : Claim7 := { stood := { row := backoffTimesUptoRow, standIns := [], harness := (true, "fe9d3ae3dad1accac51fd578ae20be2d4787c2647841c0a18046394a0e21ce3b"), looks := false }, kinds := [], alts := [], laidByText := true, laidKinds := [.data, .data, .data], laidTests := true, laidLooks := .later }
def BackoffTimesUptoCardSaid : Prop := Claim7.holds Tryd.pinned (.plain (OpenSpec.upto backoffTimesSpec)) backoffTimesUptoCard

/-- THE SECOND FORM's CARD OF 'faaslaw26.BackoffNext'. -/
def backoffNextUptoCard : Claim7 := { stood := { row := backoffNextUptoRow, standIns := [], harness := (true, "fe9d3ae3dad1accac51fd578ae20be2d4787c2647841c0a18046394a0e21ce3b"), looks := false }, kinds := [], alts := [], laidByText := true, laidKinds := [.data, .data, .data], laidTests := true, laidLooks := .later }
def BackoffNextUptoCardSaid : Prop := Claim7.holds Tryd.pinned (.plain (OpenSpec.upto backoffNextSpec)) backoffNextUptoCard

/-- THE SECOND FORM's CARD OF 'faaslaw26.BackoffBounded'. -/
def backoffBoundedUptoCard : Claim7 := { stood := { row := backoffBoundedUptoRow, standIns := [], harness := (true, "fe9d3ae3dad1accac51fd578ae20be2d4787c2647841c0a18046394a0e21ce3b"), looks := false }, kinds := [], alts := [], laidByText := true, laidKinds := [.data, .data, .data], laidTests := true, laidLooks := .later }
def BackoffBoundedUptoCardSaid : Prop := Claim7.holds Tryd.pinned (.plain (OpenSpec.upto backoffBoundedSpec)) backoffBoundedUptoCard

/-- THE SECOND FORM's CARD OF 'faaslaw26.BackoffJitter'. -/
def backoffJitterUptoCard : Claim7 := { stood := { row := backoffJitterUptoRow, standIns := [], harness := (true, "fe9d3ae3dad1accac51fd578ae20be2d4787c2647841c0a18046394a0e21ce3b"), looks := false }, kinds := [], alts := [], laidByText := true, laidKinds := [.data, .data, .data], laidTests := true, laidLooks := .later }
def BackoffJitterUptoCardSaid : Prop := Claim7.holds Tryd.pinned (.plain (OpenSpec.upto backoffJitterSpec)) backoffJitterUptoCard
end Rows
end Go.Proofs.YtefaojbfoboikaaDoor
