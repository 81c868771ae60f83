/- MulDiv where the product fits in one word, and the examples. -/
import Derived.Test.YtkfoimjnkinkpaaDoorB
import Derived.Lib.AppendIntMem
namespace Go.Proofs.YtkfoimjnkinkpaaDoor
open Go.RowKit
open Go.Sort (grow)

theorem Div64_zero (x y : Nat) (hy : 0 < y) (hx : x < 18446744073709551616) (hy2 : y < 18446744073709551616) (w : World) :
    Calls Tryd.prog 38 #[.int .u64 0, .int .u64 x, .int .u64 y] w fun e w' => e = .returned (.tuple #[.int .u64 ((x / y : Nat) : Int), .int .u64 ((x % y : Nat) : Int)]) ∧ Below w.heap.size w w' := by
  have g0 : ((y : Int) == 0) = false := beq_eq_false_iff_ne.2 (by omega)
  have h3 : x / y ≤ x := Nat.div_le_self _ _
  have h4 : x % y ≤ x := Nat.mod_le _ _
  have h1 : IntKind.u64.wrap ((x : Int) / (y : Int)) = ((x / y : Nat) : Int) := by
    have e : (x : Int) / (y : Int) = ((x / y : Nat) : Int) := (Int.natCast_ediv x y).symm
    rw [e]
    generalize x / y = q at h3
    exact IntWalk.u64_in _ (by omega)
  have H1 := Lib.hid h1
  clear h1
  go_enter Tryd.func38, Tryd.ntmps38
  go_wp2_with fail
  go_quiet (fail)
  go_wp2
  go_ret2
  refine ⟨?_, below_drewN' _ _ _⟩
  show Ending.returned (.tuple #[.int .u64 (IntKind.u64.wrap ((x : Int) / (y : Int))), .int .u64 ((x : Int) % (y : Int))]) = _
  rw [H1.out, ← Int.natCast_emod]
theorem MulDiv_1 (w : World) : Calls Tryd.prog 21 #[.int .i64 7, .int .i64 5, .int .i64 3] w fun e w' => e = .returned (.tuple #[.int .i64 11, .int .i64 0]) ∧ Below w.heap.size w w' := by
  go_enter Tryd.func21, Tryd.ntmps21
  go_wp2_with fail
  refine (valid3 7 5 3 _ _ _ rfl).mono ?_
  rintro e w1 ⟨rfl, rfl⟩
  rw [show (vI 7 && (vI 5 && vI 3)) = true from by decide]
  have hlow : Below w.heap.size w (w.alloc (.cells #[.int .i64 7, .int .i64 5, .int .i64 3] 3)) := (Below.refl _ _).alloc (Nat.le_refl _) _
  have hz := hlow.size
  generalize w.alloc (.cells #[.int .i64 7, .int .i64 5, .int .i64 3] 3) = W at *
  go_wp2_with fail
  refine (Tryd.bits_Mul64 7 5 (by decide) (by decide) W).mono ?_
  rintro e w2 ⟨rfl, rfl⟩
  go_wp2_with fail
  refine (Div64_zero 35 3 (by decide) (by decide) (by decide) w2).mono ?_
  rintro e w3 ⟨rfl, hb⟩
  go_wp2
  go_ret2
  exact ⟨rfl, hlow.trans (hb.mono hz)⟩
theorem MulDiv_2 (w : World) : Calls Tryd.prog 21 #[.int .i64 1000000000000, .int .i64 2, .int .i64 1] w fun e w' => e = .returned (.tuple #[.int .i64 0, .int .i64 8]) ∧ Below w.heap.size w w' := by
  go_enter Tryd.func21, Tryd.ntmps21
  go_wp2_with fail
  refine (valid3 1000000000000 2 1 _ _ _ rfl).mono ?_
  rintro e w1 ⟨rfl, rfl⟩
  rw [show (vI 1000000000000 && (vI 2 && vI 1)) = true from by decide]
  have hlow : Below w.heap.size w (w.alloc (.cells #[.int .i64 1000000000000, .int .i64 2, .int .i64 1] 3)) := (Below.refl _ _).alloc (Nat.le_refl _) _
  have hz := hlow.size
  generalize w.alloc (.cells #[.int .i64 1000000000000, .int .i64 2, .int .i64 1] 3) = W at *
  go_wp2_with fail
  refine (Tryd.bits_Mul64 1000000000000 2 (by decide) (by decide) W).mono ?_
  rintro e w2 ⟨rfl, rfl⟩
  go_wp2_with fail
  refine (Div64_zero 2000000000000 1 (by decide) (by decide) (by decide) w2).mono ?_
  rintro e w3 ⟨rfl, hb⟩
  go_wp2
  go_ret2
  exact ⟨rfl, hlow.trans (hb.mono hz)⟩
theorem Format_any (n : Int) (h0 : -9223372036854775808 ≤ n) (h1 : n ≤ 9223372036854775807) (w : World) (htab : Lib.TabIs Tryd.prog w "internal/strconv.uint64pow10" .u64 Lib.pow10Tab) :
    Calls Tryd.prog 15 #[.int .i64 n] w fun e w' => e = .returned (.string ⟨(Lib.itoa n).toArray⟩) ∧ Below w.heap.size w w' := by
  go_enter Tryd.func15, Tryd.ntmps15
  go_wp2_with fail
  refine (Tryd.strconv_Itoa n h0 h1 w htab).mono ?_
  rintro e w1 ⟨rfl, k, os, rfl⟩
  go_wp2
  go_ret
  exact ⟨rfl, Lib.below_grow _ w (Nat.le_refl _) k os⟩
theorem Parse_007 (w : World) : Calls Tryd.prog 11 #[.string ⟨#[48, 48, 55]⟩] w fun e w' => e = .returned (.tuple #[.int .i64 0, .int .i64 1]) ∧ Below w.heap.size w w' := by
  go_enter Tryd.func11, Tryd.ntmps11
  go_wp2
  go_ret2
  exact ⟨rfl, Below.refl _ _⟩
end Go.Proofs.YtkfoimjnkinkpaaDoor
