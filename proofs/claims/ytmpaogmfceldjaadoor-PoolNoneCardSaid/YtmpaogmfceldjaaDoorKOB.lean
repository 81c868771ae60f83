/- The word for the join of PoolNone. -/
import Derived.Test.YtmpaogmfceldjaaDoorKO
import Derived.Test.YtmpaogmfceldjaaDoorKL
namespace Go.Proofs.YtmpaogmfceldjaaDoor
open Go.RowKit

theorem law_none (id : ByteArray) (now : Int) (w : World) (hL : LaidW w) (_hs : id.size ≤ 9223372036854775807) :
    Calls Tryd.prog 4 #[.string id, .int .i64 now] w fun e w' => e = .returned (.bool true) ∧ Below w.heap.size w w' := PoolNone_any id now w hL
end Go.Proofs.YtmpaogmfceldjaaDoor
