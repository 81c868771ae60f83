/- The word for the join of FifoOrders. -/
import Derived.Test.YtbofclohnmojmaaGreatDoorGY
import Derived.Test.YtbofclohnmojmaaGreatDoorGNU
namespace Go.Proofs.YtbofclohnmojmaaGreatDoor
open Go.RowKit

theorem law_orders (pv pr : Int) (A : Option Addr) (c : Nat) (l : List Cl) (w : World) (hL : LaidW w ∧ ErrV w) (hl : Reads w w.heap.size 11 A l.length (l.flatMap Cl.cells)) (hn : l.length ≤ maxLen) (hs : ∀ x ∈ l, EvIn w w.heap.size x.e ∧ ClWf x) (hu : ∀ x ∈ l, ClUp x) :
    Calls Tryz.prog 5 #[.agg #[.int .i64 pv, .int .i64 pr], .slice A l.length c] w fun e w' => e = .returned (.bool true) ∧ Below w.heap.size w w' :=
  FifoOrders_any pv pr A c l w hl (by unfold maxLen at hn; omega) (fun x hx => (hs x hx).1) hu hL.1 hL.2
end Go.Proofs.YtbofclohnmojmaaGreatDoor
