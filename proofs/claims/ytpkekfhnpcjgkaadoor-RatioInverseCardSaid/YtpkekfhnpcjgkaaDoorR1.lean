/- The walks of the small functions on fractions. -/
import Derived.Test.YtpkekfhnpcjgkaaDoorU
import Derived.Test.YtpkekfhnpcjgkaaDoorRP
namespace Go.Proofs.YtpkekfhnpcjgkaaDoor
open Go.RowKit
open Rt

def agg2 (x : Int × Int) : Value := .agg #[.int .i64 x.1, .int .i64 x.2]
theorem ret_agg2 {x : Int × Int} {a b : Int} (h : x = (a, b)) : Ending.returned (.agg #[.int .i64 a, .int .i64 b]) = .returned (agg2 x) := by subst h; rfl
theorem abs_cases (n : Int) : (n < 0 ∧ (n.natAbs : Int) = -n) ∨ (0 ≤ n ∧ (n.natAbs : Int) = n) := by omega
set_option maxHeartbeats 400000 in
theorem size_any (n : Int) (w : World) (h1 : -9000000000000000000 ≤ n) (h2 : n ≤ 9000000000000000000) : Calls Tryd.prog 69 #[.int .i64 n] w fun e w' => e = .returned (.int .i64 (n.natAbs : Int)) ∧ w = w' := by
  rcases abs_cases n with ⟨h, e⟩ | ⟨h, e⟩
  all_goals
    rw [e]
    clear e
    go_enter Tryd.func69, Tryd.ntmps69
    go_wp2
    all_goals try (exfalso; omega)
    go_ret
    exact ⟨rfl, rfl⟩
set_option maxHeartbeats 400000 in
theorem amount_any (n : Int) (w : World) (h1 : -9000000000000000000 ≤ n) (h2 : n ≤ 9000000000000000000) : Calls Tryd.prog 67 #[.int .i64 n] w fun e w' => e = .returned (.int .i64 (n.natAbs : Int)) ∧ w = w' := by
  rcases abs_cases n with ⟨h, e⟩ | ⟨h, e⟩
  all_goals
    rw [e]
    clear e
    go_enter Tryd.func67, Tryd.ntmps67
    go_wp2
    all_goals try (exfalso; omega)
    go_ret
    exact ⟨rfl, rfl⟩
set_option maxHeartbeats 400000 in
theorem common_any (a b : Int) (w : World) (ha : 0 ≤ a) (hb : 0 ≤ b) (ha2 : a ≤ 9000000000000000000) (hb2 : b ≤ 9000000000000000000) :
    Calls Tryd.prog 84 #[.int .i64 a, .int .i64 b] w fun e w' => e = .returned (.int .i64 (gc a b)) ∧ Below w.heap.size w w' := by
  go_enter Tryd.func84, Tryd.ntmps84
  go_wp2_with fail
  go_loopw [0, 1] (fun x y wr => ∃ p q : Int, 0 ≤ p ∧ 0 ≤ q ∧ p ≤ 9000000000000000000 ∧ q ≤ 9000000000000000000 ∧ x = .int .i64 p ∧ y = .int .i64 q ∧ gc p q = gc a b ∧ ∃ n, wr = w.drewN n) (fun _ y _ => (intOf y).toNat)
  case atStart => exact ⟨a, b, ha, hb, ha2, hb2, rfl, rfl, rfl, 0, rfl⟩
  case round =>
    obtain ⟨p, q, p1, q1, p2, q2, rfl, rfl, hg, nw, rfl⟩ := hrel
    have HG := Lib.hid hg
    clear hg
    rcases Int.lt_or_le 0 q with h0 | h0
    · have qb : (q != 0) = true := by rw [bne_iff_ne]; omega
      have hne : q ≠ 0 := by omega
      have r1 := Int.emod_nonneg p hne
      have r2 := Int.emod_lt_of_pos p h0
      have HS := Lib.hid (gc_step p q p1 q1)
      have t1 : p.tmod q = p % q := Int.tmod_eq_emod_of_nonneg p1
      generalize p % q = r at *
      go_wp2_with fail
      try go_quiet (fail)
      go_wp2_with fail
      go_roundw
      case rel => exact ⟨q, r, by omega, by omega, by omega, by omega, rfl, rfl, HS.out.trans HG.out, _, by first | rfl | rw [World.drewN_drewN]⟩
      case measure => simp [intOf]; omega
    · obtain rfl : q = 0 := by omega
      rw [gc_zero p p1] at HG
      go_wp2_with fail
      go_ret
      exact ⟨ret_int HG.out, below_drewN' _ _ _⟩
set_option maxHeartbeats 400000 in
theorem divisor_any (a b : Int) (w : World) (ha : 0 ≤ a) (hb : 0 ≤ b) (ha2 : a ≤ 9000000000000000000) (hb2 : b ≤ 9000000000000000000) :
    Calls Tryd.prog 66 #[.int .i64 a, .int .i64 b] w fun e w' => e = .returned (.int .i64 (gc a b)) ∧ Below w.heap.size w w' := by
  go_enter Tryd.func66, Tryd.ntmps66
  go_wp2_with fail
  go_loopw [0, 1] (fun x y wr => ∃ p q : Int, 0 ≤ p ∧ 0 ≤ q ∧ p ≤ 9000000000000000000 ∧ q ≤ 9000000000000000000 ∧ x = .int .i64 p ∧ y = .int .i64 q ∧ gc p q = gc a b ∧ ∃ n, wr = w.drewN n) (fun _ y _ => (intOf y).toNat)
  case atStart => exact ⟨a, b, ha, hb, ha2, hb2, rfl, rfl, rfl, 0, rfl⟩
  case round =>
    obtain ⟨p, q, p1, q1, p2, q2, rfl, rfl, hg, nw, rfl⟩ := hrel
    have HG := Lib.hid hg
    clear hg
    rcases Int.lt_or_le 0 q with h0 | h0
    · have qb : (q != 0) = true := by rw [bne_iff_ne]; omega
      have hne : q ≠ 0 := by omega
      have r1 := Int.emod_nonneg p hne
      have r2 := Int.emod_lt_of_pos p h0
      have HS := Lib.hid (gc_step p q p1 q1)
      have t1 : p.tmod q = p % q := Int.tmod_eq_emod_of_nonneg p1
      generalize p % q = r at *
      go_wp2_with fail
      try go_quiet (fail)
      go_wp2_with fail
      go_roundw
      case rel => exact ⟨q, r, by omega, by omega, by omega, by omega, rfl, rfl, HS.out.trans HG.out, _, by first | rfl | rw [World.drewN_drewN]⟩
      case measure => simp [intOf]; omega
    · obtain rfl : q = 0 := by omega
      rw [gc_zero p p1] at HG
      go_wp2_with fail
      go_ret
      exact ⟨ret_int HG.out, below_drewN' _ _ _⟩
end Go.Proofs.YtpkekfhnpcjgkaaDoor
