/- The word for the join of FifoDoes. -/
import Derived.Test.YtbofclohnmojmaaGreatDoorRDB
import Derived.Test.YtbofclohnmojmaaGreatDoorGNU
namespace Go.Proofs.YtbofclohnmojmaaGreatDoor
open Go.RowKit

theorem law_does (pv pr : Int) (A : Option Addr) (c : Nat) (l : List Cl) (key : ByteArray) (w : World) (hL : LaidW w ∧ ErrV w) (hl : Reads w w.heap.size 11 A l.length (l.flatMap Cl.cells)) (hn : l.length ≤ maxLen) (hs : ∀ x ∈ l, EvIn w w.heap.size x.e ∧ ClWf x) (hu : ∀ x ∈ l, ClUp x) :
    Calls Tryz.prog 3 #[.agg #[.int .i64 pv, .int .i64 pr], .slice A l.length c, .string key] w fun e w' => e = .returned (.bool true) ∧ Below w.heap.size w w' :=
  FifoDoes_any pv pr A c l key w hl (by unfold maxLen at hn; omega) (fun x hx => (hs x hx).1) hu hL.1 hL.2
end Go.Proofs.YtbofclohnmojmaaGreatDoor
