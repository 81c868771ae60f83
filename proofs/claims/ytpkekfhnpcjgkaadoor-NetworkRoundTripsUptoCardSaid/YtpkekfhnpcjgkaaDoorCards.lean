/-
  DERIVED. GIVEN WITH THE SEED: THE CARDS: each row of YtpkekfhnpcjgkaaDoorRows.lean that lists a variable, with what it lists TIED to the program's text (the seventh form; the later family's looks); each row that meets fmt, with fmt's text TOLD by the authors' own Lean function (tested against real Go, not proved from fmt's source: count such statements apart). THE CARD IS WHAT COUNTS. Prove the row's statement (the work); the ties are given (YtpkekfhnpcjgkaaDoorTie.lean); close each card by the builder's one call (the guide's Derived/Test/ToyasCard.lean, 'card_holds'). Laid BY PROGRAM, IN A SANDBOX (cutbox-door.mjs). By AI agents, Wed Nov 11 2026. No macro, syntax, notation, axiom, sorry.
-/
import Derived.Test.YtpkekfhnpcjgkaaDoorRows
import GoSem.ClaimSeven
namespace Go.Proofs.YtpkekfhnpcjgkaaDoor
namespace Rows

/-- THE TIED CARD OF 'faaslaw02.RatioMakes'. -/
def ratioMakesCard : Claim7 := { stood := { row := ratioMakesRow, standIns := [], harness := (true, "f16e588a977039835ddfe6e48dd18787e9a33dd47f5bb6e516b65a2ef97aff9a"), looks := true }, kinds := [], alts := [], laidByText := true, laidKinds := [.data, .data, .data, .sentinel, .sentinel], laidTests := true, laidLooks := .later }
def RatioMakesCardSaid : Prop := Claim7.holds Tryd.pinned (.plain (OpenSpec.ofChange ratioMakesSpec)) ratioMakesCard

/-- THE TIED CARD OF 'faaslaw02.RatioRounds'. -/
def ratioRoundsCard : Claim7 := { stood := { row := ratioRoundsRow, standIns := [], harness := (true, "f16e588a977039835ddfe6e48dd18787e9a33dd47f5bb6e516b65a2ef97aff9a"), looks := true }, kinds := [], alts := [], laidByText := true, laidKinds := [.data, .data, .data, .sentinel, .sentinel], laidTests := true, laidLooks := .later }
def RatioRoundsCardSaid : Prop := Claim7.holds Tryd.pinned (.plain (OpenSpec.ofChange ratioRoundsSpec)) ratioRoundsCard

/-- THE TIED CARD OF 'faaslaw02.RatioTexts'. -/
def ratioTextsCard : Claim7 := { stood := { row := ratioTextsRow, standIns := [], harness := (true, "f16e588a977039835ddfe6e48dd18787e9a33dd47f5bb6e516b65a2ef97aff9a"), looks := true }, kinds := [], alts := [], laidByText := true, laidKinds := [.data, .data, .data, .sentinel, .sentinel], laidTests := true, laidLooks := .later }
def RatioTextsCardSaid : Prop := Claim7.holds Tryd.pinned (.plain (OpenSpec.ofChange ratioTextsSpec)) ratioTextsCard

/-- THE TIED CARD OF 'faaslaw02.RatioOrders'. -/
def ratioOrdersCard : Claim7 := { stood := { row := ratioOrdersRow, standIns := [], harness := (true, "f16e588a977039835ddfe6e48dd18787e9a33dd47f5bb6e516b65a2ef97aff9a"), looks := true }, kinds := [], alts := [], laidByText := true, laidKinds := [.data, .data, .data, .sentinel, .sentinel], laidTests := true, laidLooks := .later }
def RatioOrdersCardSaid : Prop := Claim7.holds Tryd.pinned (.plain (OpenSpec.ofChange ratioOrdersSpec)) ratioOrdersCard

/-- THE TIED CARD OF 'faaslaw02.RatioArithmetic'. -/
def ratioArithmeticCard : Claim7 := { stood := { row := ratioArithmeticRow, standIns := [], harness := (true, "f16e588a977039835ddfe6e48dd18787e9a33dd47f5bb6e516b65a2ef97aff9a"), looks := true }, kinds := [], alts := [], laidByText := true, laidKinds := [.data, .data, .data, .sentinel, .sentinel], laidTests := true, laidLooks := .later }
def RatioArithmeticCardSaid : Prop := Claim7.holds Tryd.pinned (.plain (OpenSpec.ofChange ratioArithmeticSpec)) ratioArithmeticCard

/-- THE TIED CARD OF 'faaslaw02.RatioInverse'. -/
def ratioInverseCard : Claim7 := { stood := { row := ratioInverseRow, standIns := [], harness := (true, "f16e588a977039835ddfe6e48dd18787e9a33dd47f5bb6e516b65a2ef97aff9a"), looks := true }, kinds := [], alts := [], laidByText := true, laidKinds := [.data, .data, .data, .sentinel, .sentinel], laidTests := true, laidLooks := .later }
def RatioInverseCardSaid : Prop := Claim7.holds Tryd.pinned (.plain (OpenSpec.ofChange ratioInverseSpec)) ratioInverseCard

/-- THE TIED CARD OF 'faaslaw23.NetworkTexts'. -/
def networkTextsCard : Claim7 := { stood := { row := networkTextsRow, standIns := [], harness := (true, "f16e588a977039835ddfe6e48dd18787e9a33dd47f5bb6e516b65a2ef97aff9a"), looks := true }, kinds := [], alts := [], laidByText := true, laidKinds := [.data, .data, .data, .data, .sentinel, .sentinel, .pinned], laidTests := true, laidLooks := .later }
def NetworkTextsCardSaid : Prop := Claim7.holds Tryd.pinned (.plain (OpenSpec.ofChange networkTextsSpec)) networkTextsCard

/-- THE TIED CARD OF 'faaslaw23.NetworkDecides'. -/
def networkDecidesCard : Claim7 := { stood := { row := networkDecidesRow, standIns := [], harness := (true, "f16e588a977039835ddfe6e48dd18787e9a33dd47f5bb6e516b65a2ef97aff9a"), looks := true }, kinds := [], alts := [], laidByText := true, laidKinds := [.data, .data, .data, .data, .sentinel, .sentinel, .pinned], laidTests := true, laidLooks := .later }
def NetworkDecidesCardSaid : Prop := Claim7.holds Tryd.pinned (.plain (OpenSpec.ofChange networkDecidesSpec)) networkDecidesCard

/-- THE TIED CARD OF 'faaslaw23.NetworkMatches'. -/
def networkMatchesCard : Claim7 := { stood := { row := networkMatchesRow, standIns := [], harness := (true, "f16e588a977039835ddfe6e48dd18787e9a33dd47f5bb6e516b65a2ef97aff9a"), looks := true }, kinds := [], alts := [], laidByText := true, laidKinds := [.data, .data, .data, .data, .sentinel, .sentinel, .pinned], laidTests := true, laidLooks := .later }
def NetworkMatchesCardSaid : Prop := Claim7.holds Tryd.pinned (.plain (OpenSpec.ofChange networkMatchesSpec)) networkMatchesCard

/-- THE TIED CARD OF 'faaslaw23.NetworkFirstMatch'. -/
def networkFirstMatchCard : Claim7 := { stood := { row := networkFirstMatchRow, standIns := [], harness := (true, "f16e588a977039835ddfe6e48dd18787e9a33dd47f5bb6e516b65a2ef97aff9a"), looks := true }, kinds := [], alts := [], laidByText := true, laidKinds := [.data, .data, .data, .data, .sentinel, .sentinel, .pinned], laidTests := true, laidLooks := .later }
def NetworkFirstMatchCardSaid : Prop := Claim7.holds Tryd.pinned (.plain (OpenSpec.ofChange networkFirstMatchSpec)) networkFirstMatchCard

/-- THE TIED CARD OF 'faaslaw23.NetworkCovers'. -/
def networkCoversCard : Claim7 := { stood := { row := networkCoversRow, standIns := [], harness := (true, "f16e588a977039835ddfe6e48dd18787e9a33dd47f5bb6e516b65a2ef97aff9a"), looks := true }, kinds := [], alts := [], laidByText := true, laidKinds := [.data, .data, .data, .data, .sentinel, .sentinel, .pinned], laidTests := true, laidLooks := .later }
def NetworkCoversCardSaid : Prop := Claim7.holds Tryd.pinned (.plain (OpenSpec.ofChange networkCoversSpec)) networkCoversCard

/-- THE TIED CARD OF 'faaslaw23.NetworkRoundTrips'. -/
def networkRoundTripsCard : Claim7 := { stood := { row := networkRoundTripsRow, standIns := [], harness := (true, "f16e588a977039835ddfe6e48dd18787e9a33dd47f5bb6e516b65a2ef97aff9a"), looks := true }, kinds := [], alts := [], laidByText := true, laidKinds := [.data, .data, .data, .data, .sentinel, .sentinel, .pinned], laidTests := true, laidLooks := .later }
def NetworkRoundTripsCardSaid : Prop := Claim7.holds Tryd.pinned (.plain (OpenSpec.ofChange networkRoundTripsSpec)) networkRoundTripsCard

/-- THE SECOND FORM's CARD OF 'faaslaw02.RatioMakes'. -/
def ratioMakesUptoCard : Claim7 := { stood := { row := ratioMakesUptoRow, standIns := [], harness := (true, "f16e588a977039835ddfe6e48dd18787e9a33dd47f5bb6e516b65a2ef97aff9a"), looks := true }, kinds := [], alts := [], laidByText := true, laidKinds := [.data, .data, .data, .sentinel, .sentinel], laidTests := true, laidLooks := .later }
def RatioMakesUptoCardSaid : Prop := Claim7.holds Tryd.pinned (.plain (OpenSpec.upto ratioMakesSpec)) ratioMakesUptoCard

/-- THE SECOND FORM's CARD OF 'faaslaw02.RatioRounds'. -/
def ratioRoundsUptoCard : Claim7 := { stood := { row := ratioRoundsUptoRow, standIns := [], harness := (true, "f16e588a977039835ddfe6e48dd18787e9a33dd47f5bb6e516b65a2ef97aff9a"), looks := true }, kinds := [], alts := [], laidByText := true, laidKinds := [.data, .data, .data, .sentinel, .sentinel], laidTests := true, laidLooks := .later }
def RatioRoundsUptoCardSaid : Prop := Claim7.holds Tryd.pinned (.plain (OpenSpec.upto ratioRoundsSpec)) ratioRoundsUptoCard

/-- THE SECOND FORM's CARD OF 'faaslaw02.RatioTexts'. -/
def ratioTextsUptoCard : Claim7 := { stood := { row := ratioTextsUptoRow, standIns := [], harness := (true, "f16e588a977039835ddfe6e48dd18787e9a33dd47f5bb6e516b65a2ef97aff9a"), looks := true }, kinds := [], alts := [], laidByText := true, laidKinds := [.data, .data, .data, .sentinel, .sentinel], laidTests := true, laidLooks := .later }
def RatioTextsUptoCardSaid : Prop := Claim7.holds Tryd.pinned (.plain (OpenSpec.upto ratioTextsSpec)) ratioTextsUptoCard

/-- THE SECOND FORM's CARD OF 'faaslaw02.RatioOrders'. -/
def ratioOrdersUptoCard : Claim7 := { stood := { row := ratioOrdersUptoRow, standIns := [], harness := (true, "f16e588a977039835ddfe6e48dd18787e9a33dd47f5bb6e516b65a2ef97aff9a"), looks := true }, kinds := [], alts := [], laidByText := true, laidKinds := [.data, .data, .data, .sentinel, .sentinel], laidTests := true, laidLooks := .later }
def RatioOrdersUptoCardSaid : Prop := Claim7.holds Tryd.pinned (.plain (OpenSpec.upto ratioOrdersSpec)) ratioOrdersUptoCard

/-- THE SECOND FORM's CARD OF 'faaslaw02.RatioArithmetic'. -/
def ratioArithmeticUptoCard : Claim7 := { stood := { row := ratioArithmeticUptoRow, standIns := [], harness := (true, "f16e588a977039835ddfe6e48dd18787e9a33dd47f5bb6e516b65a2ef97aff9a"), looks := true }, kinds := [], alts := [], laidByText := true, laidKinds := [.data, .data, .data, .sentinel, .sentinel], laidTests := true, laidLooks := .later }
def RatioArithmeticUptoCardSaid : Prop := Claim7.holds Tryd.pinned (.plain (OpenSpec.upto ratioArithmeticSpec)) ratioArithmeticUptoCard

/-- THE SECOND FORM's CARD OF 'faaslaw02.RatioInverse'. -/
def ratioInverseUptoCard : Claim7 := { stood := { row := ratioInverseUptoRow, standIns := [], harness := (true, "f16e588a977039835ddfe6e48dd18787e9a33dd47f5bb6e516b65a2ef97aff9a"), looks := true }, kinds := [], alts := [], laidByText := true, laidKinds := [.data, .data, .data, .sentinel, .sentinel], laidTests := true, laidLooks := .later }
def RatioInverseUptoCardSaid : Prop := Claim7.holds Tryd.pinned (.plain (OpenSpec.upto ratioInverseSpec)) ratioInverseUptoCard

/-- THE SECOND FORM's CARD OF 'faaslaw23.NetworkTexts'. -/
def networkTextsUptoCard : Claim7 := { stood := { row := networkTextsUptoRow, standIns := [], harness := (true, "f16e588a977039835ddfe6e48dd18787e9a33dd47f5bb6e516b65a2ef97aff9a"), looks := true }, kinds := [], alts := [], laidByText := true, laidKinds := [.data, .data, .data, .data, .sentinel, .sentinel, .pinned], laidTests := true, laidLooks := .later }
def NetworkTextsUptoCardSaid : Prop := Claim7.holds Tryd.pinned (.plain (OpenSpec.upto networkTextsSpec)) networkTextsUptoCard

/-- THE SECOND FORM's CARD OF 'faaslaw23.NetworkDecides'. -/
def networkDecidesUptoCard : Claim7 := { stood := { row := networkDecidesUptoRow, standIns := [], harness := (true, "f16e588a977039835ddfe6e48dd18787e9a33dd47f5bb6e516b65a2ef97aff9a"), looks := true }, kinds := [], alts := [], laidByText := true, laidKinds := [.data, .data, .data, .data, .sentinel, .sentinel, .pinned], laidTests := true, laidLooks := .later }
def NetworkDecidesUptoCardSaid : Prop := Claim7.holds Tryd.pinned (.plain (OpenSpec.upto networkDecidesSpec)) networkDecidesUptoCard

/-- THE SECOND FORM's CARD OF 'faaslaw23.NetworkMatches'. -/
def networkMatchesUptoCard : Claim7 := { stood := { row := networkMatchesUptoRow, standIns := [], harness := (true, "f16e588a977039835ddfe6e48dd18787e9a33dd47f5bb6e516b65a2ef97aff9a"), looks := true }, kinds := [], alts := [], laidByText := true, laidKinds := [.data, .data, .data, .data, .sentinel, .sentinel, .pinned], laidTests := true, laidLooks := .later }
def NetworkMatchesUptoCardSaid : Prop := Claim7.holds Tryd.pinned (.plain (OpenSpec.upto networkMatchesSpec)) networkMatchesUptoCard

/-- THE SECOND FORM's CARD OF 'faaslaw23.NetworkFirstMatch'. -/
def networkFirstMatchUptoCard : Claim7 := { stood := { row := networkFirstMatchUptoRow, standIns := [], harness := (true, "f16e588a977039835ddfe6e48dd18787e9a33dd47f5bb6e516b65a2ef97aff9a"), looks := true }, kinds := [], alts := [], laidByText := true, laidKinds := [.data, .data, .data, .data, .sentinel, .sentinel, .pinned], laidTests := true, laidLooks := .later }
def NetworkFirstMatchUptoCardSaid : Prop := Claim7.holds Tryd.pinned (.plain (OpenSpec.upto networkFirstMatchSpec)) networkFirstMatchUptoCard

/-- THE SECOND FORM's CARD OF 'faaslaw23.NetworkCovers'. -/
def networkCoversUptoCard : Claim7 := { stood := { row := networkCoversUptoRow, standIns := [], harness := (true, "f16e588a977039835ddfe6e48dd18787e9a33dd47f5bb6e516b65a2ef97aff9a"), looks := true }, kinds := [], alts := [], laidByText := true, laidKinds := [.data, .data, .data, .data, .sentinel, .sentinel, .pinned], laidTests := true, laidLooks := .later }
def NetworkCoversUptoCardSaid : Prop := Claim7.holds Tryd.pinned (.plain (OpenSpec.upto networkCoversSpec)) networkCoversUptoCard

/-- THE SECOND FORM's CARD OF 'faaslaw23.NetworkRoundTrips'. -/
def networkRoundTripsUptoCard : Claim7 := { stood := { row := networkRoundTripsUptoRow, standIns := [], harness := (true, "f16e588a977039835ddfe6e48dd18787e9a33dd47f5bb6e516b65a2ef97aff9a"), looks := true }, kinds := [], alts := [], laidByText := true, laidKinds := [.data, .data, .data, .data, .sentinel, .sentinel, .pinned], laidTests := true, laidLooks := .later }
def NetworkRoundTripsUptoCardSaid : Prop := Claim7.holds Tryd.pinned (.plain (OpenSpec.upto networkRoundTripsSpec)) networkRoundTripsUptoCard
end Rows
end Go.Proofs.YtpkekfhnpcjgkaaDoor
