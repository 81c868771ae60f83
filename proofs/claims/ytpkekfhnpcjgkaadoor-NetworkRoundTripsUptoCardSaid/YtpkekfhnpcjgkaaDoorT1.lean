import Derived.Test.YtpkekfhnpcjgkaaDoorWA
namespace Go.Proofs.YtpkekfhnpcjgkaaDoor
open Go.RowKit
theorem run_neq_E4 (W : World) (a b c d : Int) : (binOp .neq 75 (.agg #[.int .i64 a, .int .i64 b, .int .i64 c, .int .i64 d]) (.agg #[.int .i64 0, .int .i64 0, .int .i64 0, .int .i64 0])).run Tryd.prog W = .ok (.bool (!(a == 0 && b == 0 && c == 0 && d == 0))) W := by
  rw [run_neq_struct]
  have hh : ((Op.equalIn 10000 75 (.agg #[.int .i64 a, .int .i64 b, .int .i64 c, .int .i64 d]) (.agg #[.int .i64 0, .int .i64 0, .int .i64 0, .int .i64 0])).run Tryd.prog W) = .ok (a == 0 && b == 0 && c == 0 && d == 0) W := by
    unfold Op.equalIn
    simp only [Sem.run_bind, run_underlying Tryd.underlying75, Result.andThen_ok, Tryd.sizeOf24]
    simp [List.range', go_sem]
    by_cases ha : a = 0 <;> by_cases hb : b = 0 <;> by_cases hc : c = 0 <;> by_cases hd : d = 0 <;> simp [ha, hb, hc, hd, go_sem]
  rw [hh]
  rfl
end Go.Proofs.YtpkekfhnpcjgkaaDoor
