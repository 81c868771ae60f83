/- The walks of NumDivides and NumClamps. -/
import Derived.Test.YtkfoimjnkinkpaaDoorD
namespace Go.Proofs.YtkfoimjnkinkpaaDoor
open Go.RowKit

set_option maxHeartbeats 1000000 in
theorem law_divides (a b : Int) (w : World) (htab : Lib.TabIs Tryd.prog w "internal/strconv.uint64pow10" .u64 Lib.pow10Tab) : Calls Tryd.prog 5 #[.int .i64 a, .int .i64 b] w fun e w' => e = .returned (.bool true) ∧ Below w.heap.size w w' := by
  have HT := Lib.hid (Lib.tabBelow_of_tabIs htab)
  clear htab
  go_enter Tryd.func5, Tryd.ntmps5
  go_wp2_with fail
  refine (DivMod_any a b _).mono ?_
  rintro e w1 ⟨rfl, h1⟩
  simp only [tup3]
  go_wp2_with fail
  refine (CeilDiv_any a b _).mono ?_
  rintro e w2 ⟨rfl, hb2⟩
  have h2 := h1.trans (hb2.mono h1.size)
  clear hb2
  simp only [tup2]
  go_wp2_with fail
  refine (rDivMod_any a b _).mono ?_
  rintro e w3 ⟨rfl, hb3⟩
  have h3 := h2.trans (hb3.mono h2.size)
  clear hb3
  simp only [tup3]
  go_wp2_with fail
  refine (rCeilDiv_any a b _).mono ?_
  rintro e w4 ⟨rfl, hb4⟩
  have h4 := h3.trans (hb4.mono h3.size)
  clear hb4
  simp only [tup2]
  generalize dmI a b = D
  generalize cdI a b = C
  obtain ⟨q, r, e1⟩ := D
  obtain ⟨c, e2⟩ := C
  go_wp2_with fail
  refine (awake_any _ (HT.out _ h4)).mono ?_
  rintro e w5 ⟨rfl, hb5⟩
  have h5 := h4.trans (hb5.mono h4.size)
  go_wp2
  go_ret
  exact ⟨rfl, h5⟩

def clI (n lo hi : Int) : Int := if n < lo then lo else if hi < n then hi else n
theorem Clamp_any (n lo hi : Int) (w : World) : Calls Tryd.prog 24 #[.int .i64 n, .int .i64 lo, .int .i64 hi] w fun e w' => e = .returned (.int .i64 (clI n lo hi)) ∧ w' = w := by
  go_enter Tryd.func24, Tryd.ntmps24
  go_wp2
  all_goals
    go_ret
    refine ⟨ret_int ?_, rfl⟩
    unfold clI
    repeat' split
    all_goals first | rfl | omega
theorem rClamp_any (n lo hi : Int) (w : World) : Calls Tryd.prog 25 #[.int .i64 n, .int .i64 lo, .int .i64 hi] w fun e w' => e = .returned (.int .i64 (clI n lo hi)) ∧ w' = w := by
  go_enter Tryd.func25, Tryd.ntmps25
  go_wp2
  all_goals
    go_ret
    refine ⟨ret_int ?_, rfl⟩
    unfold clI
    repeat' split
    all_goals first | rfl | omega
theorem clI_bd (n lo hi : Int) (h : lo ≤ hi) : lo ≤ clI n lo hi ∧ clI n lo hi ≤ hi ∧ (lo ≤ n → n ≤ hi → clI n lo hi = n) := by
  unfold clI
  repeat' split
  all_goals omega
set_option maxHeartbeats 1000000 in
theorem law_clamps (n lo hi : Int) (w : World) (htab : Lib.TabIs Tryd.prog w "internal/strconv.uint64pow10" .u64 Lib.pow10Tab) : Calls Tryd.prog 8 #[.int .i64 n, .int .i64 lo, .int .i64 hi] w fun e w' => e = .returned (.bool true) ∧ Below w.heap.size w w' := by
  have HC := Lib.hid (clI_bd n lo hi)
  go_enter Tryd.func8, Tryd.ntmps8
  go_wp2_with fail
  refine (Clamp_any n lo hi _).mono ?_
  rintro e w1 ⟨rfl, rfl⟩
  go_wp2_with fail
  refine (rClamp_any n lo hi _).mono ?_
  rintro e w1 ⟨rfl, rfl⟩
  generalize clI n lo hi = c at *
  go_wp2_with fail
  all_goals first
    | (refine (awake_any _ htab).mono ?_
       rintro e w5 ⟨rfl, hb5⟩
       go_wp2
       go_ret
       exact ⟨rfl, hb5⟩)
    | (exfalso; obtain ⟨x1, x2, x3⟩ := HC.out (by assumption); first | omega | (have x4 := x3 (by assumption) (by assumption); simp_all; done))
end Go.Proofs.YtkfoimjnkinkpaaDoor
