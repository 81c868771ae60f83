/-
  DERIVED. GIVEN WITH THE SEED: THE CARDS: each row of YtmpaogmfceldjaaDoorRows.lean that lists a variable, with what it lists TIED to the program's text (the seventh form; the later family's looks); each row that meets fmt, with fmt's text TOLD by the authors' own Lean function (tested against real Go, not proved from fmt's source: count such statements apart). THE CARD IS WHAT COUNTS. Prove the row's statement (the work); the ties are given (YtmpaogmfceldjaaDoorTie.lean); close each card by the builder's one call (the guide's Derived/Test/ToyasCard.lean, 'card_holds'). Laid BY PROGRAM, IN A SANDBOX (cutbox-door.mjs). By AI agents, Wed Nov 11 2026. No macro, syntax, notation, axiom, sorry.
-/
import Derived.Test.YtmpaogmfceldjaaDoorRows
import GoSem.ClaimSeven
namespace Go.Proofs.YtmpaogmfceldjaaDoor
namespace Rows

/-- THE TIED CARD OF 'faaslaw38.PoolDoes'. -/
def poolDoesCard : Claim7 := { stood := { row := poolDoesRow, standIns := [], harness := (true, "3c8251120f64d1d463673aa7b3348d682b29c2c0232bc8817aeb61d77f0795ab"), looks := false }, kinds := [], alts := [], laidByText := true, laidKinds := [.data, .data, .data], laidTests := true, laidLooks := .later }
def PoolDoesCardSaid : Prop := Claim7.holds Tryd.pinned (.plain (OpenSpec.ofChange poolDoesSpec)) poolDoesCard

/-- THE TIED CARD OF 'faaslaw38.PoolNone'. -/
def poolNoneCard : Claim7 := { stood := { row := poolNoneRow, standIns := [], harness := (true, "3c8251120f64d1d463673aa7b3348d682b29c2c0232bc8817aeb61d77f0795ab"), looks := false }, kinds := [], alts := [], laidByText := true, laidKinds := [.data, .data, .data], laidTests := true, laidLooks := .later }
def PoolNoneCardSaid : Prop := Claim7.holds Tryd.pinned (.plain (OpenSpec.ofChange poolNoneSpec)) poolNoneCard

/-- THE TIED CARD OF 'faaslaw38.PoolReuses'. -/
def poolReusesCard : Claim7 := { stood := { row := poolReusesRow, standIns := [], harness := (true, "3c8251120f64d1d463673aa7b3348d682b29c2c0232bc8817aeb61d77f0795ab"), looks := false }, kinds := [], alts := [], laidByText := true, laidKinds := [.data, .data, .data], laidTests := true, laidLooks := .later }
def PoolReusesCardSaid : Prop := Claim7.holds Tryd.pinned (.plain (OpenSpec.ofChange poolReusesSpec)) poolReusesCard

/-- THE TIED CARD OF 'faaslaw38.PoolErrors'. -/
def poolErrorsCard : Claim7 := { stood := { row := poolErrorsRow, standIns := [], harness := (true, "3c8251120f64d1d463673aa7b3348d682b29c2c0232bc8817aeb61d77f0795ab"), looks := false }, kinds := [], alts := [], laidByText := true, laidKinds := [.data, .data, .data], laidTests := true, laidLooks := .later }
def PoolErrorsCardSaid : Prop := Claim7.holds Tryd.pinned (.plain (OpenSpec.ofChange poolErrorsSpec)) poolErrorsCard

/-- THE SECOND FORM's CARD OF 'faaslaw38.PoolDoes'. -/
def poolDoesUptoCard : Claim7 := { stood := { row := poolDoesUptoRow, standIns := [], harness := (true, "3c8251120f64d1d463673aa7b3348d682b29c2c0232bc8817aeb61d77f0795ab"), looks := false }, kinds := [], alts := [], laidByText := true, laidKinds := [.data, .data, .data], laidTests := true, laidLooks := .later }
def PoolDoesUptoCardSaid : Prop := Claim7.holds Tryd.pinned (.plain (OpenSpec.upto poolDoesSpec)) poolDoesUptoCard

/-- THE SECOND FORM's CARD OF 'faaslaw38.PoolNone'. -/
def poolNoneUptoCard : Claim7 := { stood := { row := poolNoneUptoRow, standIns := [], harness := (true, "3c8251120f64d1d463673aa7b3348d682b29c2c0232bc8817aeb61d77f0795ab"), looks := false }, kinds := [], alts := [], laidByText := true, laidKinds := [.data, .data, .data], laidTests := true, laidLooks := .later }
def PoolNoneUptoCardSaid : Prop := Claim7.holds Tryd.pinned (.plain (OpenSpec.upto poolNoneSpec)) poolNoneUptoCard

/-- THE SECOND FORM's CARD OF 'faaslaw38.PoolReuses'. -/
def poolReusesUptoCard : Claim7 := { stood := { row := poolReusesUptoRow, standIns := [], harness := (true, "3c8251120f64d1d463673aa7b3348d682b29c2c0232bc8817aeb61d77f0795ab"), looks := false }, kinds := [], alts := [], laidByText := true, laidKinds := [.data, .data, .data], laidTests := true, laidLooks := .later }
def PoolReusesUptoCardSaid : Prop := Claim7.holds Tryd.pinned (.plain (OpenSpec.upto poolReusesSpec)) poolReusesUptoCard

/-- THE SECOND FORM's CARD OF 'faaslaw38.PoolErrors'. -/
def poolErrorsUptoCard : Claim7 := { stood := { row := poolErrorsUptoRow, standIns := [], harness := (true, "3c8251120f64d1d463673aa7b3348d682b29c2c0232bc8817aeb61d77f0795ab"), looks := false }, kinds := [], alts := [], laidByText := true, laidKinds := [.data, .data, .data], laidTests := true, laidLooks := .later }
def PoolErrorsUptoCardSaid : Prop := Claim7.holds Tryd.pinned (.plain (OpenSpec.upto poolErrorsSpec)) poolErrorsUptoCard
end Rows
end Go.Proofs.YtmpaogmfceldjaaDoor
