/-
  DERIVED. GIVEN WITH THE SEED: THE CARDS: each row of YtjjmdgiaohmjkaaDoorRows.lean that lists a variable, with what it lists TIED to the program's text (the seventh form; the later family's looks); each row that meets fmt, with fmt's text TOLD by the authors' own Lean function (tested against real Go, not proved from fmt's source: count such statements apart). THE CARD IS WHAT COUNTS. Prove the row's statement (the work); the ties are given (YtjjmdgiaohmjkaaDoorTie.lean); close each card by the builder's one call (the guide's Derived/Test/ToyasCard.lean, 'card_holds'). Laid BY PROGRAM, IN A SANDBOX (cutbox-door.mjs). By AI agents, Wed Nov 11 2026. No macro, syntax, notation, axiom, sorry.
-/
import Derived.Test.YtjjmdgiaohmjkaaDoorRows
import GoSem.ClaimSeven
namespace Go.Proofs.YtjjmdgiaohmjkaaDoor
namespace Rows

/-- THE TIED CARD OF 'faaslaw03.HashHexes'. -/
def hashHexesCard : Claim7 := { stood := { row := hashHexesRow, standIns := [], harness := (true, "f48163bece748e7de90b59345fce4b09d32a7a09ecb2ad2732eacf4467b66d07"), looks := true }, kinds := [], alts := [], laidByText := true, laidKinds := [.data, .data, .data, .sentinel, .sentinel], laidTests := true, laidLooks := .later }
def HashHexesCardSaid : Prop := Claim7.holds Tryd.pinned (.plain (OpenSpec.ofChange hashHexesSpec)) hashHexesCard

/-- THE TIED CARD OF 'faaslaw03.HashBuckets'. -/
def hashBucketsCard : Claim7 := { stood := { row := hashBucketsRow, standIns := [], harness := (true, "f48163bece748e7de90b59345fce4b09d32a7a09ecb2ad2732eacf4467b66d07"), looks := true }, kinds := [], alts := [], laidByText := true, laidKinds := [.data, .data, .data, .sentinel, .sentinel], laidTests := true, laidLooks := .later }
def HashBucketsCardSaid : Prop := Claim7.holds Tryd.pinned (.plain (OpenSpec.ofChange hashBucketsSpec)) hashBucketsCard

/-- THE TIED CARD OF 'faaslaw03.HashSums'. -/
def hashSumsCard : Claim7 := { stood := { row := hashSumsRow, standIns := [], harness := (true, "f48163bece748e7de90b59345fce4b09d32a7a09ecb2ad2732eacf4467b66d07"), looks := true }, kinds := [], alts := [], laidByText := true, laidKinds := [.data, .data, .data, .sentinel, .sentinel], laidTests := true, laidLooks := .later }
def HashSumsCardSaid : Prop := Claim7.holds Tryd.pinned (.plain (OpenSpec.ofChange hashSumsSpec)) hashSumsCard

/-- THE TIED CARD OF 'faaslaw03.HashChains'. -/
def hashChainsCard : Claim7 := { stood := { row := hashChainsRow, standIns := [], harness := (true, "f48163bece748e7de90b59345fce4b09d32a7a09ecb2ad2732eacf4467b66d07"), looks := true }, kinds := [], alts := [], laidByText := true, laidKinds := [.data, .data, .data, .sentinel, .sentinel], laidTests := true, laidLooks := .later }
def HashChainsCardSaid : Prop := Claim7.holds Tryd.pinned (.plain (OpenSpec.ofChange hashChainsSpec)) hashChainsCard

/-- THE TIED CARD OF 'faaslaw03.HashRanks'. -/
def hashRanksCard : Claim7 := { stood := { row := hashRanksRow, standIns := [], harness := (true, "f48163bece748e7de90b59345fce4b09d32a7a09ecb2ad2732eacf4467b66d07"), looks := true }, kinds := [], alts := [], laidByText := true, laidKinds := [.data, .data, .data, .sentinel, .sentinel], laidTests := true, laidLooks := .later }
def HashRanksCardSaid : Prop := Claim7.holds Tryd.pinned (.plain (OpenSpec.ofChange hashRanksSpec)) hashRanksCard

/-- THE TIED CARD OF 'faaslaw03.HashMovesOnlyOwn'. -/
def hashMovesOnlyOwnCard : Claim7 := { stood := { row := hashMovesOnlyOwnRow, standIns := [], harness := (true, "f48163bece748e7de90b59345fce4b09d32a7a09ecb2ad2732eacf4467b66d07"), looks := true }, kinds := [], alts := [], laidByText := true, laidKinds := [.data, .data, .data, .sentinel, .sentinel], laidTests := true, laidLooks := .later }
def HashMovesOnlyOwnCardSaid : Prop := Claim7.holds Tryd.pinned (.plain (OpenSpec.ofChange hashMovesOnlyOwnSpec)) hashMovesOnlyOwnCard

/-- THE SECOND FORM's CARD OF 'faaslaw03.HashHexes'. -/
def hashHexesUptoCard : Claim7 := { stood := { row := hashHexesUptoRow, standIns := [], harness := (true, "f48163bece748e7de90b59345fce4b09d32a7a09ecb2ad2732eacf4467b66d07"), looks := true }, kinds := [], alts := [], laidByText := true, laidKinds := [.data, .data, .data, .sentinel, .sentinel], laidTests := true, laidLooks := .later }
def HashHexesUptoCardSaid : Prop := Claim7.holds Tryd.pinned (.plain (OpenSpec.upto hashHexesSpec)) hashHexesUptoCard

/-- THE SECOND FORM's CARD OF 'faaslaw03.HashBuckets'. -/
def hashBucketsUptoCard : Claim7 := { stood := { row := hashBucketsUptoRow, standIns := [], harness := (true, "f48163bece748e7de90b59345fce4b09d32a7a09ecb2ad2732eacf4467b66d07"), looks := true }, kinds := [], alts := [], laidByText := true, laidKinds := [.data, .data, .data, .sentinel, .sentinel], laidTests := true, laidLooks := .later }
def HashBucketsUptoCardSaid : Prop := Claim7.holds Tryd.pinned (.plain (OpenSpec.upto hashBucketsSpec)) hashBucketsUptoCard

/-- THE SECOND FORM's CARD OF 'faaslaw03.HashSums'. -/
def hashSumsUptoCard : Claim7 := { stood := { row := hashSumsUptoRow, standIns := [], harness := (true, "f48163bece748e7de90b59345fce4b09d32a7a09ecb2ad2732eacf4467b66d07"), looks := true }, kinds := [], alts := [], laidByText := true, laidKinds := [.data, .data, .data, .sentinel, .sentinel], laidTests := true, laidLooks := .later }
def HashSumsUptoCardSaid : Prop := Claim7.holds Tryd.pinned (.plain (OpenSpec.upto hashSumsSpec)) hashSumsUptoCard

/-- THE SECOND FORM's CARD OF 'faaslaw03.HashChains'. -/
def hashChainsUptoCard : Claim7 := { stood := { row := hashChainsUptoRow, standIns := [], harness := (true, "f48163bece748e7de90b59345fce4b09d32a7a09ecb2ad2732eacf4467b66d07"), looks := true }, kinds := [], alts := [], laidByText := true, laidKinds := [.data, .data, .data, .sentinel, .sentinel], laidTests := true, laidLooks := .later }
def HashChainsUptoCardSaid : Prop := Claim7.holds Tryd.pinned (.plain (OpenSpec.upto hashChainsSpec)) hashChainsUptoCard

/-- THE SECOND FORM's CARD OF 'faaslaw03.HashRanks'. -/
def hashRanksUptoCard : Claim7 := { stood := { row := hashRanksUptoRow, standIns := [], harness := (true, "f48163bece748e7de90b59345fce4b09d32a7a09ecb2ad2732eacf4467b66d07"), looks := true }, kinds := [], alts := [], laidByText := true, laidKinds := [.data, .data, .data, .sentinel, .sentinel], laidTests := true, laidLooks := .later }
def HashRanksUptoCardSaid : Prop := Claim7.holds Tryd.pinned (.plain (OpenSpec.upto hashRanksSpec)) hashRanksUptoCard

/-- THE SECOND FORM's CARD OF 'faaslaw03.HashMovesOnlyOwn'. -/
def hashMovesOnlyOwnUptoCard : Claim7 := { stood := { row := hashMovesOnlyOwnUptoRow, standIns := [], harness := (true, "f48163bece748e7de90b59345fce4b09d32a7a09ecb2ad2732eacf4467b66d07"), looks := true }, kinds := [], alts := [], laidByText := true, laidKinds := [.data, .data, .data, .sentinel, .sentinel], laidTests := true, laidLooks := .later }
def HashMovesOnlyOwnUptoCardSaid : Prop := Claim7.holds Tryd.pinned (.plain (OpenSpec.upto hashMovesOnlyOwnSpec)) hashMovesOnlyOwnUptoCard
end Rows
end Go.Proofs.YtjjmdgiaohmjkaaDoor
