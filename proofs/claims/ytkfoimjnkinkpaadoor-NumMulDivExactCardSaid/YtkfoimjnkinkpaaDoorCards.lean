/-
  DERIVED. GIVEN WITH THE SEED: THE CARDS: each row of YtkfoimjnkinkpaaDoorRows.lean that lists a variable, with what it lists TIED to the program's text (the seventh form; the later family's looks); each row that meets fmt, with fmt's text TOLD by the authors' own Lean function (tested against real Go, not proved from fmt's source: count such statements apart). THE CARD IS WHAT COUNTS. Prove the row's statement (the work); the ties are given (YtkfoimjnkinkpaaDoorTie.lean); close each card by the builder's one call (the guide's Derived/Test/ToyasCard.lean, 'card_holds'). Laid BY PROGRAM, IN A SANDBOX (cutbox-door.mjs). By AI agents, Wed Nov 11 2026. No macro, syntax, notation, axiom, sorry.
-/
import Derived.Test.YtkfoimjnkinkpaaDoorRows
import GoSem.ClaimSeven
namespace Go.Proofs.YtkfoimjnkinkpaaDoor
namespace Rows

/-- THE TIED CARD OF 'faaslaw01.NumForms'. -/
def numFormsCard : Claim7 := { stood := { row := numFormsRow, standIns := [], harness := (true, "7a55dcf0516195c55e74b29957637e39f28847825dd83eaf93d932a2f6eb93a2"), looks := true }, kinds := [], alts := [], laidByText := true, laidKinds := [.data, .data, .data, .sentinel, .sentinel], laidTests := true, laidLooks := .later }
def NumFormsCardSaid : Prop := Claim7.holds Tryd.pinned (.plain (OpenSpec.ofChange numFormsSpec)) numFormsCard

/-- THE TIED CARD OF 'faaslaw01.NumRoundTrips'. -/
def numRoundTripsCard : Claim7 := { stood := { row := numRoundTripsRow, standIns := [], harness := (true, "7a55dcf0516195c55e74b29957637e39f28847825dd83eaf93d932a2f6eb93a2"), looks := true }, kinds := [], alts := [], laidByText := true, laidKinds := [.data, .data, .data, .sentinel, .sentinel], laidTests := true, laidLooks := .later }
def NumRoundTripsCardSaid : Prop := Claim7.holds Tryd.pinned (.plain (OpenSpec.ofChange numRoundTripsSpec)) numRoundTripsCard

/-- THE TIED CARD OF 'faaslaw01.NumDivides'. -/
def numDividesCard : Claim7 := { stood := { row := numDividesRow, standIns := [], harness := (true, "7a55dcf0516195c55e74b29957637e39f28847825dd83eaf93d932a2f6eb93a2"), looks := true }, kinds := [], alts := [], laidByText := true, laidKinds := [.data, .data, .data, .sentinel, .sentinel], laidTests := true, laidLooks := .later }
def NumDividesCardSaid : Prop := Claim7.holds Tryd.pinned (.plain (OpenSpec.ofChange numDividesSpec)) numDividesCard

/-- THE TIED CARD OF 'faaslaw01.NumQuotients'. -/
def numQuotientsCard : Claim7 := { stood := { row := numQuotientsRow, standIns := [], harness := (true, "7a55dcf0516195c55e74b29957637e39f28847825dd83eaf93d932a2f6eb93a2"), looks := true }, kinds := [], alts := [], laidByText := true, laidKinds := [.data, .data, .data, .sentinel, .sentinel], laidTests := true, laidLooks := .later }
def NumQuotientsCardSaid : Prop := Claim7.holds Tryd.pinned (.plain (OpenSpec.ofChange numQuotientsSpec)) numQuotientsCard

/-- THE TIED CARD OF 'faaslaw01.NumMulDivExact'. -/
def numMulDivExactCard : Claim7 := { stood := { row := numMulDivExactRow, standIns := [], harness := (true, "7a55dcf0516195c55e74b29957637e39f28847825dd83eaf93d932a2f6eb93a2"), looks := true }, kinds := [], alts := [], laidByText := true, laidKinds := [.data, .data, .data, .sentinel, .sentinel], laidTests := true, laidLooks := .later }
def NumMulDivExactCardSaid : Prop := Claim7.holds Tryd.pinned (.plain (OpenSpec.ofChange numMulDivExactSpec)) numMulDivExactCard

/-- THE TIED CARD OF 'faaslaw01.NumClamps'. -/
def numClampsCard : Claim7 := { stood := { row := numClampsRow, standIns := [], harness := (true, "7a55dcf0516195c55e74b29957637e39f28847825dd83eaf93d932a2f6eb93a2"), looks := true }, kinds := [], alts := [], laidByText := true, laidKinds := [.data, .data, .data, .sentinel, .sentinel], laidTests := true, laidLooks := .later }
def NumClampsCardSaid : Prop := Claim7.holds Tryd.pinned (.plain (OpenSpec.ofChange numClampsSpec)) numClampsCard

/-- THE TIED CARD OF 'faaslaw01.NumAdds'. -/
def numAddsCard : Claim7 := { stood := { row := numAddsRow, standIns := [], harness := (true, "7a55dcf0516195c55e74b29957637e39f28847825dd83eaf93d932a2f6eb93a2"), looks := true }, kinds := [], alts := [], laidByText := true, laidKinds := [.data, .data, .data, .sentinel, .sentinel], laidTests := true, laidLooks := .later }
def NumAddsCardSaid : Prop := Claim7.holds Tryd.pinned (.plain (OpenSpec.ofChange numAddsSpec)) numAddsCard

/-- THE SECOND FORM's CARD OF 'faaslaw01.NumForms'. -/
def numFormsUptoCard : Claim7 := { stood := { row := numFormsUptoRow, standIns := [], harness := (true, "7a55dcf0516195c55e74b29957637e39f28847825dd83eaf93d932a2f6eb93a2"), looks := true }, kinds := [], alts := [], laidByText := true, laidKinds := [.data, .data, .data, .sentinel, .sentinel], laidTests := true, laidLooks := .later }
def NumFormsUptoCardSaid : Prop := Claim7.holds Tryd.pinned (.plain (OpenSpec.upto numFormsSpec)) numFormsUptoCard

/-- THE SECOND FORM's CARD OF 'faaslaw01.NumRoundTrips'. -/
def numRoundTripsUptoCard : Claim7 := { stood := { row := numRoundTripsUptoRow, standIns := [], harness := (true, "7a55dcf0516195c55e74b29957637e39f28847825dd83eaf93d932a2f6eb93a2"), looks := true }, kinds := [], alts := [], laidByText := true, laidKinds := [.data, .data, .data, .sentinel, .sentinel], laidTests := true, laidLooks := .later }
def NumRoundTripsUptoCardSaid : Prop := Claim7.holds Tryd.pinned (.plain (OpenSpec.upto numRoundTripsSpec)) numRoundTripsUptoCard

/-- THE SECOND FORM's CARD OF 'faaslaw01.NumDivides'. -/
def numDividesUptoCard : Claim7 := { stood := { row := numDividesUptoRow, standIns := [], harness := (true, "7a55dcf0516195c55e74b29957637e39f28847825dd83eaf93d932a2f6eb93a2"), looks := true }, kinds := [], alts := [], laidByText := true, laidKinds := [.data, .data, .data, .sentinel, .sentinel], laidTests := true, laidLooks := .later }
def NumDividesUptoCardSaid : Prop := Claim7.holds Tryd.pinned (.plain (OpenSpec.upto numDividesSpec)) numDividesUptoCard

/-- THE SECOND FORM's CARD OF 'faaslaw01.NumQuotients'. -/
def numQuotientsUptoCard : Claim7 := { stood := { row := numQuotientsUptoRow, standIns := [], harness := (true, "7a55dcf0516195c55e74b29957637e39f28847825dd83eaf93d932a2f6eb93a2"), looks := true }, kinds := [], alts := [], laidByText := true, laidKinds := [.data, .data, .data, .sentinel, .sentinel], laidTests := true, laidLooks := .later }
def NumQuotientsUptoCardSaid : Prop := Claim7.holds Tryd.pinned (.plain (OpenSpec.upto numQuotientsSpec)) numQuotientsUptoCard

/-- THE SECOND FORM's CARD OF 'faaslaw01.NumMulDivExact'. -/
def numMulDivExactUptoCard : Claim7 := { stood := { row := numMulDivExactUptoRow, standIns := [], harness := (true, "7a55dcf0516195c55e74b29957637e39f28847825dd83eaf93d932a2f6eb93a2"), looks := true }, kinds := [], alts := [], laidByText := true, laidKinds := [.data, .data, .data, .sentinel, .sentinel], laidTests := true, laidLooks := .later }
def NumMulDivExactUptoCardSaid : Prop := Claim7.holds Tryd.pinned (.plain (OpenSpec.upto numMulDivExactSpec)) numMulDivExactUptoCard

/-- THE SECOND FORM's CARD OF 'faaslaw01.NumClamps'. -/
def numClampsUptoCard : Claim7 := { stood := { row := numClampsUptoRow, standIns := [], harness := (true, "7a55dcf0516195c55e74b29957637e39f28847825dd83eaf93d932a2f6eb93a2"), looks := true }, kinds := [], alts := [], laidByText := true, laidKinds := [.data, .data, .data, .sentinel, .sentinel], laidTests := true, laidLooks := .later }
def NumClampsUptoCardSaid : Prop := Claim7.holds Tryd.pinned (.plain (OpenSpec.upto numClampsSpec)) numClampsUptoCard

/-- THE SECOND FORM's CARD OF 'faaslaw01.NumAdds'. -/
def numAddsUptoCard : Claim7 := { stood := { row := numAddsUptoRow, standIns := [], harness := (true, "7a55dcf0516195c55e74b29957637e39f28847825dd83eaf93d932a2f6eb93a2"), looks := true }, kinds := [], alts := [], laidByText := true, laidKinds := [.data, .data, .data, .sentinel, .sentinel], laidTests := true, laidLooks := .later }
def NumAddsUptoCardSaid : Prop := Claim7.holds Tryd.pinned (.plain (OpenSpec.upto numAddsSpec)) numAddsUptoCard
end Rows
end Go.Proofs.YtkfoimjnkinkpaaDoor
