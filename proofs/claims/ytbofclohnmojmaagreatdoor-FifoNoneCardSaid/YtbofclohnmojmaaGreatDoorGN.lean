/- The word for the join of FifoNone. -/
import Derived.Test.YtbofclohnmojmaaGreatDoorY9
import Derived.Test.YtbofclohnmojmaaGreatDoorYO
namespace Go.Proofs.YtbofclohnmojmaaGreatDoor
open Go.RowKit

theorem law_none (x : Cl) (w : World) (hL : LaidW w ∧ ErrV w) :
    Calls Tryz.prog 4 #[.agg #[.int .i64 x.k, .string x.e.id, .string x.e.tn, .string x.e.src, .string x.e.key, .int .i64 x.e.at_, .string x.e.cause, .slice x.e.A x.e.body.length x.e.cp, .string x.s, .int .i64 x.now, .int .i64 x.n]] w fun e w' => e = .returned (.bool true) ∧ Below w.heap.size w w' :=
  FifoNone_any (fun w hX hE => awake_any w hX.below_ hE.below_) w x hL.1 hL.2
end Go.Proofs.YtbofclohnmojmaaGreatDoor
