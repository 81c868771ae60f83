/-
  DERIVED. GIVEN WITH THE SEED: THE CARDS: each row of YtcmlgiilifdnfaaDoorRows.lean that lists a variable, with what it lists TIED to the program's text (the seventh form; the later family's looks); each row that meets fmt, with fmt's text TOLD by the authors' own Lean function (tested against real Go, not proved from fmt's source: count such statements apart). THE CARD IS WHAT COUNTS. Prove the row's statement (the work); the ties are given (YtcmlgiilifdnfaaDoorTie.lean); close each card by the builder's one call (the guide's Derived/Test/ToyasCard.lean, 'card_holds'). Laid BY PROGRAM, IN A SANDBOX (cutbox-door.mjs). By AI agents, Wed Nov 11 2026. No macro, syntax, notation, axiom, sorry.
-/
import Derived.Test.YtcmlgiilifdnfaaDoorRows
import GoSem.ClaimSeven
namespace Go.Proofs.YtcmlgiilifdnfaaDoor
namespace Rows

/-- THE TIED CARD OF 'faaslaw21.PolicyDecides'. -/
def policyDecidesCard : Claim7 := { stood := { row := policyDecidesRow, standIns := [], harness := (true, "9df936d1fa1c291ddf4d5b5f3a632be6991c352a2f992bea2f9dccc4c8cb770b"), looks := false }, kinds := [], alts := [], laidByText := true, laidKinds := [.data, .pinned], laidTests := true, laidLooks := .later }
def PolicyDecidesCardSaid : Prop := Claim7.holds Tryd.pinned (.plain (OpenSpec.ofChange policyDecidesSpec)) policyDecidesCard

/-- THE TIED CARD OF 'faaslaw21.PolicyFormats'. -/
def policyFormatsCard : Claim7 := { stood := { row := policyFormatsRow, standIns := [], harness := (true, "9df936d1fa1c291ddf4d5b5f3a632be6991c352a2f992bea2f9dccc4c8cb770b"), looks := false }, kinds := [], alts := [], laidByText := true, laidKinds := [.data, .pinned], laidTests := true, laidLooks := .later }
def PolicyFormatsCardSaid : Prop := Claim7.holds Tryd.pinned (.plain (OpenSpec.ofChange policyFormatsSpec)) policyFormatsCard

/-- THE TIED CARD OF 'faaslaw21.PolicyReduces'. -/
def policyReducesCard : Claim7 := { stood := { row := policyReducesRow, standIns := [], harness := (true, "9df936d1fa1c291ddf4d5b5f3a632be6991c352a2f992bea2f9dccc4c8cb770b"), looks := false }, kinds := [], alts := [], laidByText := true, laidKinds := [.data, .pinned], laidTests := true, laidLooks := .later }
def PolicyReducesCardSaid : Prop := Claim7.holds Tryd.pinned (.plain (OpenSpec.ofChange policyReducesSpec)) policyReducesCard

/-- THE TIED CARD OF 'faaslaw21.PolicyDenyWins'. -/
def policyDenyWinsCard : Claim7 := { stood := { row := policyDenyWinsRow, standIns := [], harness := (true, "9df936d1fa1c291ddf4d5b5f3a632be6991c352a2f992bea2f9dccc4c8cb770b"), looks := false }, kinds := [], alts := [], laidByText := true, laidKinds := [.data, .pinned], laidTests := true, laidLooks := .later }
def PolicyDenyWinsCardSaid : Prop := Claim7.holds Tryd.pinned (.plain (OpenSpec.ofChange policyDenyWinsSpec)) policyDenyWinsCard

/-- THE TIED CARD OF 'faaslaw21.PolicyKeeps'. -/
def policyKeepsCard : Claim7 := { stood := { row := policyKeepsRow, standIns := [], harness := (true, "9df936d1fa1c291ddf4d5b5f3a632be6991c352a2f992bea2f9dccc4c8cb770b"), looks := false }, kinds := [], alts := [], laidByText := true, laidKinds := [.data, .pinned], laidTests := true, laidLooks := .later }
def PolicyKeepsCardSaid : Prop := Claim7.holds Tryd.pinned (.plain (OpenSpec.ofChange policyKeepsSpec)) policyKeepsCard

/-- THE TIED CARD OF 'faaslaw21.PolicyBack'. -/
def policyBackCard : Claim7 := { stood := { row := policyBackRow, standIns := [], harness := (true, "9df936d1fa1c291ddf4d5b5f3a632be6991c352a2f992bea2f9dccc4c8cb770b"), looks := false }, kinds := [], alts := [], laidByText := true, laidKinds := [.data, .pinned], laidTests := true, laidLooks := .later }
def PolicyBackCardSaid : Prop := Claim7.holds Tryd.pinned (.plain (OpenSpec.ofChange policyBackSpec)) policyBackCard

/-- THE SECOND FORM's CARD OF 'faaslaw21.PolicyDecides'. -/
def policyDecidesUptoCard : Claim7 := { stood := { row := policyDecidesUptoRow, standIns := [], harness := (true, "9df936d1fa1c291ddf4d5b5f3a632be6991c352a2f992bea2f9dccc4c8cb770b"), looks := false }, kinds := [], alts := [], laidByText := true, laidKinds := [.data, .pinned], laidTests := true, laidLooks := .later }
def PolicyDecidesUptoCardSaid : Prop := Claim7.holds Tryd.pinned (.plain (OpenSpec.upto policyDecidesSpec)) policyDecidesUptoCard

/-- THE SECOND FORM's CARD OF 'faaslaw21.PolicyFormats'. -/
def policyFormatsUptoCard : Claim7 := { stood := { row := policyFormatsUptoRow, standIns := [], harness := (true, "9df936d1fa1c291ddf4d5b5f3a632be6991c352a2f992bea2f9dccc4c8cb770b"), looks := false }, kinds := [], alts := [], laidByText := true, laidKinds := [.data, .pinned], laidTests := true, laidLooks := .later }
def PolicyFormatsUptoCardSaid : Prop := Claim7.holds Tryd.pinned (.plain (OpenSpec.upto policyFormatsSpec)) policyFormatsUptoCard

/-- THE SECOND FORM's CARD OF 'faaslaw21.PolicyReduces'. -/
def policyReducesUptoCard : Claim7 := { stood := { row := policyReducesUptoRow, standIns := [], harness := (true, "9df936d1fa1c291ddf4d5b5f3a632be6991c352a2f992bea2f9dccc4c8cb770b"), looks := false }, kinds := [], alts := [], laidByText := true, laidKinds := [.data, .pinned], laidTests := true, laidLooks := .later }
def PolicyReducesUptoCardSaid : Prop := Claim7.holds Tryd.pinned (.plain (OpenSpec.upto policyReducesSpec)) policyReducesUptoCard

/-- THE SECOND FORM's CARD OF 'faaslaw21.PolicyDenyWins'. -/
def policyDenyWinsUptoCard : Claim7 := { stood := { row := policyDenyWinsUptoRow, standIns := [], harness := (true, "9df936d1fa1c291ddf4d5b5f3a632be6991c352a2f992bea2f9dccc4c8cb770b"), looks := false }, kinds := [], alts := [], laidByText := true, laidKinds := [.data, .pinned], laidTests := true, laidLooks := .later }
def PolicyDenyWinsUptoCardSaid : Prop := Claim7.holds Tryd.pinned (.plain (OpenSpec.upto policyDenyWinsSpec)) policyDenyWinsUptoCard

/-- THE SECOND FORM's CARD OF 'faaslaw21.PolicyKeeps'. -/
def policyKeepsUptoCard : Claim7 := { stood := { row := policyKeepsUptoRow, standIns := [], harness := (true, "9df936d1fa1c291ddf4d5b5f3a632be6991c352a2f992bea2f9dccc4c8cb770b"), looks := false }, kinds := [], alts := [], laidByText := true, laidKinds := [.data, .pinned], laidTests := true, laidLooks := .later }
def PolicyKeepsUptoCardSaid : Prop := Claim7.holds Tryd.pinned (.plain (OpenSpec.upto policyKeepsSpec)) policyKeepsUptoCard

/-- THE SECOND FORM's CARD OF 'faaslaw21.PolicyBack'. -/
def policyBackUptoCard : Claim7 := { stood := { row := policyBackUptoRow, standIns := [], harness := (true, "9df936d1fa1c291ddf4d5b5f3a632be6991c352a2f992bea2f9dccc4c8cb770b"), looks := false }, kinds := [], alts := [], laidByText := true, laidKinds := [.data, .pinned], laidTests := true, laidLooks := .later }
def PolicyBackUptoCardSaid : Prop := Claim7.holds Tryd.pinned (.plain (OpenSpec.upto policyBackSpec)) policyBackUptoCard
end Rows
end Go.Proofs.YtcmlgiilifdnfaaDoor
