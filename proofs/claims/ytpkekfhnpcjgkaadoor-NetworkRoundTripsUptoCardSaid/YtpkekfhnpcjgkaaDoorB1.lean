/- Valid integers. -/
import Derived.Test.YtpkekfhnpcjgkaaDoorU
namespace Go.Proofs.YtpkekfhnpcjgkaaDoor
open Go.RowKit

/-- A valid integer. -/
def vI (n : Int) : Bool := decide (-1000000000000 ≤ n) && decide (n ≤ 1000000000000)
theorem vI_iff (n : Int) : vI n = true ↔ -1000000000000 ≤ n ∧ n ≤ 1000000000000 := by simp [vI]
theorem vI_false (n : Int) : vI n = false ↔ n < -1000000000000 ∨ 1000000000000 < n := by
  unfold vI
  simp only [Bool.and_eq_false_iff, decide_eq_false_iff_not]
  omega
theorem Valid_any (n : Int) (w : World) : Calls Tryd.prog 60 #[.int .i64 n] w fun e w' => e = .returned (.bool (vI n)) ∧ w' = w := by
  go_enter Tryd.func60, Tryd.ntmps60
  go_wp2
  all_goals
    go_ret
    refine ⟨ret_bool ?_, rfl⟩
    first | (symm; rw [vI_iff]; omega) | (symm; rw [vI_false]; omega) | (simp [vI, *]; done)
theorem rValid_any (n : Int) (w : World) : Calls Tryd.prog 62 #[.int .i64 n] w fun e w' => e = .returned (.bool (vI n)) ∧ w' = w := by
  go_enter Tryd.func62, Tryd.ntmps62
  go_wp2
  all_goals
    go_ret
    refine ⟨ret_bool ?_, rfl⟩
    first | (symm; rw [vI_iff]; omega) | (symm; rw [vI_false]; omega) | (simp [vI, *]; done)
end Go.Proofs.YtpkekfhnpcjgkaaDoor
