/- bits.Div64. -/
import Derived.Test.YtpkekfhnpcjgkaaDoorZ
import Derived.Deep.QuietTactic
namespace Go.Proofs.YtpkekfhnpcjgkaaDoor
open Go.RowKit

theorem Div64_zero (x y : Nat) (hy : 0 < y) (hx : x < 18446744073709551616) (hy2 : y < 18446744073709551616) (w : World) :
    Calls Tryd.prog 70 #[.int .u64 0, .int .u64 x, .int .u64 y] w fun e w' => e = .returned (.tuple #[.int .u64 ((x / y : Nat) : Int), .int .u64 ((x % y : Nat) : Int)]) ∧ Below w.heap.size w w' := by
  have g0 : ((y : Int) == 0) = false := beq_eq_false_iff_ne.2 (by omega)
  have h3 : x / y ≤ x := Nat.div_le_self _ _
  have h4 : x % y ≤ x := Nat.mod_le _ _
  have h1 : IntKind.u64.wrap ((x : Int) / (y : Int)) = ((x / y : Nat) : Int) := by
    have e : (x : Int) / (y : Int) = ((x / y : Nat) : Int) := (Int.natCast_ediv x y).symm
    rw [e]
    generalize x / y = q at h3
    exact IntWalk.u64_in _ (by omega)
  have H1 := Lib.hid h1
  clear h1
  go_enter Tryd.func70, Tryd.ntmps70
  go_wp2_with fail
  go_quiet (fail)
  go_wp2
  go_ret2
  refine ⟨?_, below_drewN' _ _ _⟩
  show Ending.returned (.tuple #[.int .u64 (IntKind.u64.wrap ((x : Int) / (y : Int))), .int .u64 ((x : Int) % (y : Int))]) = _
  rw [H1.out, ← Int.natCast_emod]
/-- bits.Div64 below the divisor. -/
theorem Div64_any (x1 x0 y : Nat) (hx1 : x1 < y) (hx0 : x0 < 18446744073709551616) (hy : y < 18446744073709551616) (w : World) :
    Calls Tryd.prog 70 #[.int .u64 x1, .int .u64 x0, .int .u64 y] w fun e w' => e = .returned (.tuple #[.int .u64 (((x1 * (4294967296 * 4294967296) + x0) / y : Nat) : Int), .int .u64 (((x1 * (4294967296 * 4294967296) + x0) % y : Nat) : Int)]) ∧ Below w.heap.size w w' := by
  by_cases h0 : x1 = 0
  · subst h0
    rw [Nat.zero_mul, Nat.zero_add]
    exact Div64_zero x0 y hx1 hx0 hy w
  · obtain ⟨s, Y, yh, yl, U, t, u1, u0, qa, pa, ra, va, vb, d1, vc, m1, qb, pb, rb, ve, vf, d0, vg, R, D⟩ := divN_of x1 x0 y hx1 hx0 hy
    refine (Div64_core D hx1 (by omega) hy w).mono ?_
    rintro e w' ⟨rfl, rfl⟩
    exact ⟨rfl, Below.refl _ _⟩
end Go.Proofs.YtpkekfhnpcjgkaaDoor
