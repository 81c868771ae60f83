/- The word for the join of PoolReuses. -/
import Derived.Test.YtmpaogmfceldjaaDoorKO
import Derived.Test.YtmpaogmfceldjaaDoorKWN
namespace Go.Proofs.YtmpaogmfceldjaaDoor
open Go.RowKit

theorem law_reuses (nm : ByteArray) (pa pb pc pd : Int) (A : Option Addr) (c : Nat) (l : List POp) (w : World) (hL : LaidW w) (hs : nm.size ≤ 9223372036854775807) (hl : OpsAt w w.heap.size A l) (hn : l.length ≤ maxLen) (_hz : ∀ x ∈ l, OpWf x) :
    Calls Tryd.prog 5 #[.string nm, .agg #[.int .i64 pa, .int .i64 pb, .int .i64 pc, .int .i64 pd], .slice A l.length c] w fun e w' => e = .returned (.bool true) ∧ Below w.heap.size w w' :=
  PoolReuses_any nm pa pb pc pd A c l w hs hl (by unfold maxLen at hn; omega) hL
end Go.Proofs.YtmpaogmfceldjaaDoor
