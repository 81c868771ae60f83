/-
  DERIVED. GIVEN WITH THE SEED: THE CARDS: each row of YtnagnaekcphpiaaDoorRows.lean that lists a variable, with what it lists TIED to the program's text (the seventh form; the later family's looks); each row that meets fmt, with fmt's text TOLD by the authors' own Lean function (tested against real Go, not proved from fmt's source: count such statements apart). THE CARD IS WHAT COUNTS. Prove the row's statement (the work); the ties are given (YtnagnaekcphpiaaDoorTie.lean); close each card by the builder's one call (the guide's Derived/Test/ToyasCard.lean, 'card_holds'). Laid BY PROGRAM, IN A SANDBOX (cutbox-door.mjs). By AI agents, Wed Nov 11 2026. No macro, syntax, notation, axiom, sorry.
-/
import Derived.Test.YtnagnaekcphpiaaDoorRows
import GoSem.ClaimSeven
namespace Go.Proofs.YtnagnaekcphpiaaDoor
namespace Rows

/-- THE TIED CARD OF 'faaslaw33.CronParses'. -/
def cronParsesCard : Claim7 := { stood := { row := cronParsesRow, standIns := [], harness := (true, "7b41126e665192e8a2226fe410137057755e84b3a92c56c8c6661fbab263a63a"), looks := true }, kinds := [], alts := [], laidByText := true, laidKinds := [.data, .data, .data, .data, .sentinel, .sentinel, .pinned], laidTests := true, laidLooks := .later }
def CronParsesCardSaid : Prop := Claim7.holds Tryd.pinned (.plain (OpenSpec.ofChange cronParsesSpec)) cronParsesCard

/-- THE TIED CARD OF 'faaslaw33.CronFormats'. -/
def cronFormatsCard : Claim7 := { stood := { row := cronFormatsRow, standIns := [], harness := (true, "7b41126e665192e8a2226fe410137057755e84b3a92c56c8c6661fbab263a63a"), looks := true }, kinds := [], alts := [], laidByText := true, laidKinds := [.data, .data, .data, .data, .sentinel, .sentinel, .pinned], laidTests := true, laidLooks := .later }
def CronFormatsCardSaid : Prop := Claim7.holds Tryd.pinned (.plain (OpenSpec.ofChange cronFormatsSpec)) cronFormatsCard

/-- THE TIED CARD OF 'faaslaw33.CronMatches'. -/
def cronMatchesCard : Claim7 := { stood := { row := cronMatchesRow, standIns := [], harness := (true, "7b41126e665192e8a2226fe410137057755e84b3a92c56c8c6661fbab263a63a"), looks := true }, kinds := [], alts := [], laidByText := true, laidKinds := [.data, .data, .data, .data, .sentinel, .sentinel, .pinned], laidTests := true, laidLooks := .later }
def CronMatchesCardSaid : Prop := Claim7.holds Tryd.pinned (.plain (OpenSpec.ofChange cronMatchesSpec)) cronMatchesCard

/-- THE TIED CARD OF 'faaslaw33.CronNextIsLeast'. -/
def cronNextIsLeastCard : Claim7 := { stood := { row := cronNextIsLeastRow, standIns := [], harness := (true, "7b41126e665192e8a2226fe410137057755e84b3a92c56c8c6661fbab263a63a"), looks := true }, kinds := [], alts := [], laidByText := true, laidKinds := [.data, .data, .data, .data, .sentinel, .sentinel, .pinned], laidTests := true, laidLooks := .later }
def CronNextIsLeastCardSaid : Prop := Claim7.holds Tryd.pinned (.plain (OpenSpec.ofChange cronNextIsLeastSpec)) cronNextIsLeastCard

/-- THE TIED CARD OF 'faaslaw33.CronSpans'. -/
def cronSpansCard : Claim7 := { stood := { row := cronSpansRow, standIns := [], harness := (true, "7b41126e665192e8a2226fe410137057755e84b3a92c56c8c6661fbab263a63a"), looks := true }, kinds := [], alts := [], laidByText := true, laidKinds := [.data, .data, .data, .data, .sentinel, .sentinel, .pinned], laidTests := true, laidLooks := .later }
def CronSpansCardSaid : Prop := Claim7.holds Tryd.pinned (.plain (OpenSpec.ofChange cronSpansSpec)) cronSpansCard

/-- THE TIED CARD OF 'faaslaw33.CronWeeks'. -/
def cronWeeksCard : Claim7 := { stood := { row := cronWeeksRow, standIns := [], harness := (true, "7b41126e665192e8a2226fe410137057755e84b3a92c56c8c6661fbab263a63a"), looks := true }, kinds := [], alts := [], laidByText := true, laidKinds := [.data, .data, .data, .data, .sentinel, .sentinel, .pinned], laidTests := true, laidLooks := .later }
def CronWeeksCardSaid : Prop := Claim7.holds Tryd.pinned (.plain (OpenSpec.ofChange cronWeeksSpec)) cronWeeksCard

/-- THE SECOND FORM's CARD OF 'faaslaw33.CronParses'. -/
def cronParsesUptoCard : Claim7 := { stood := { row := cronParsesUptoRow, standIns := [], harness := (true, "7b41126e665192e8a2226fe410137057755e84b3a92c56c8c6661fbab263a63a"), looks := true }, kinds := [], alts := [], laidByText := true, laidKinds := [.data, .data, .data, .data, .sentinel, .sentinel, .pinned], laidTests := true, laidLooks := .later }
def CronParsesUptoCardSaid : Prop := Claim7.holds Tryd.pinned (.plain (OpenSpec.upto cronParsesSpec)) cronParsesUptoCard

/-- THE SECOND FORM's CARD OF 'faaslaw33.CronFormats'. -/
def cronFormatsUptoCard : Claim7 := { stood := { row := cronFormatsUptoRow, standIns := [], harness := (true, "7b41126e665192e8a2226fe410137057755e84b3a92c56c8c6661fbab263a63a"), looks := true }, kinds := [], alts := [], laidByText := true, laidKinds := [.data, .data, .data, .data, .sentinel, .sentinel, .pinned], laidTests := true, laidLooks := .later }
def CronFormatsUptoCardSaid : Prop := Claim7.holds Tryd.pinned (.plain (OpenSpec.upto cronFormatsSpec)) cronFormatsUptoCard

/-- THE SECOND FORM's CARD OF 'faaslaw33.CronMatches'. -/
def cronMatchesUptoCard : Claim7 := { stood := { row := cronMatchesUptoRow, standIns := [], harness := (true, "7b41126e665192e8a2226fe410137057755e84b3a92c56c8c6661fbab263a63a"), looks := true }, kinds := [], alts := [], laidByText := true, laidKinds := [.data, .data, .data, .data, .sentinel, .sentinel, .pinned], laidTests := true, laidLooks := .later }
def CronMatchesUptoCardSaid : Prop := Claim7.holds Tryd.pinned (.plain (OpenSpec.upto cronMatchesSpec)) cronMatchesUptoCard

/-- THE SECOND FORM's CARD OF 'faaslaw33.CronNextIsLeast'. -/
def cronNextIsLeastUptoCard : Claim7 := { stood := { row := cronNextIsLeastUptoRow, standIns := [], harness := (true, "7b41126e665192e8a2226fe410137057755e84b3a92c56c8c6661fbab263a63a"), looks := true }, kinds := [], alts := [], laidByText := true, laidKinds := [.data, .data, .data, .data, .sentinel, .sentinel, .pinned], laidTests := true, laidLooks := .later }
def CronNextIsLeastUptoCardSaid : Prop := Claim7.holds Tryd.pinned (.plain (OpenSpec.upto cronNextIsLeastSpec)) cronNextIsLeastUptoCard

/-- THE SECOND FORM's CARD OF 'faaslaw33.CronSpans'. -/
def cronSpansUptoCard : Claim7 := { stood := { row := cronSpansUptoRow, standIns := [], harness := (true, "7b41126e665192e8a2226fe410137057755e84b3a92c56c8c6661fbab263a63a"), looks := true }, kinds := [], alts := [], laidByText := true, laidKinds := [.data, .data, .data, .data, .sentinel, .sentinel, .pinned], laidTests := true, laidLooks := .later }
def CronSpansUptoCardSaid : Prop := Claim7.holds Tryd.pinned (.plain (OpenSpec.upto cronSpansSpec)) cronSpansUptoCard

/-- THE SECOND FORM's CARD OF 'faaslaw33.CronWeeks'. -/
def cronWeeksUptoCard : Claim7 := { stood := { row := cronWeeksUptoRow, standIns := [], harness := (true, "7b41126e665192e8a2226fe410137057755e84b3a92c56c8c6661fbab263a63a"), looks := true }, kinds := [], alts := [], laidByText := true, laidKinds := [.data, .data, .data, .data, .sentinel, .sentinel, .pinned], laidTests := true, laidLooks := .later }
def CronWeeksUptoCardSaid : Prop := Claim7.holds Tryd.pinned (.plain (OpenSpec.upto cronWeeksSpec)) cronWeeksUptoCard
end Rows
end Go.Proofs.YtnagnaekcphpiaaDoor
