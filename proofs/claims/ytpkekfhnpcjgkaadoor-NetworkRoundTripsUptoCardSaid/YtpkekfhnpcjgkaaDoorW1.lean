/- The small functions on addresses and ports. -/
import Derived.Test.YtpkekfhnpcjgkaaDoorU
import Derived.Test.YtpkekfhnpcjgkaaDoorNP
import Derived.Laws.BitsAllLaws
namespace Go.Proofs.YtpkekfhnpcjgkaaDoor
open Go.RowKit
open Nw

theorem in_any (n lo hi : Int) (w : World) : Calls Tryd.prog 76 #[.int .i64 n, .int .i64 lo, .int .i64 hi] w fun e w' => e = .returned (.bool (inB n lo hi)) ∧ w = w' := by
  rcases Int.lt_or_le n lo with h | h
  · have HD := Lib.hid (inB_no (n := n) (lo := lo) (hi := hi) (by omega))
    go_enter Tryd.func76, Tryd.ntmps76
    go_wp2
    all_goals try (exfalso; omega)
    go_ret
    exact ⟨ret_bool HD.out.symm, rfl⟩
  · rcases Int.lt_or_le hi n with h' | h'
    · have HD := Lib.hid (inB_no (n := n) (lo := lo) (hi := hi) (by omega))
      have hd : decide (n ≤ hi) = false := decide_eq_false (by omega)
      go_enter Tryd.func76, Tryd.ntmps76
      go_wp2
      all_goals try (exfalso; omega)
      go_ret
      exact ⟨ret_bool HD.out.symm, rfl⟩
    · have HD := Lib.hid (inB_yes (n := n) (lo := lo) (hi := hi) ⟨h, h'⟩)
      have hd : decide (n ≤ hi) = true := decide_eq_true h'
      go_enter Tryd.func76, Tryd.ntmps76
      go_wp2
      all_goals try (exfalso; omega)
      go_ret
      exact ⟨ret_bool HD.out.symm, rfl⟩
theorem address_any (n : Int) (w : World) : Calls Tryd.prog 78 #[.int .i64 n] w fun e w' => e = .returned (.bool (inB n 0 4294967295)) ∧ w = w' := by
  have hcase : (n < 0) ∨ (0 ≤ n ∧ n ≤ 4294967295 ∧ decide (n ≤ 4294967295) = true) ∨ (0 ≤ n ∧ 4294967295 < n ∧ decide (n ≤ 4294967295) = false) := by
    rcases Int.lt_or_le n 0 with h | h
    · exact .inl h
    · rcases Int.lt_or_le 4294967295 n with h' | h'
      · exact .inr (.inr ⟨h, h', decide_eq_false (by omega)⟩)
      · exact .inr (.inl ⟨h, h', decide_eq_true h'⟩)
  rcases hcase with h | ⟨h, h', hd⟩ | ⟨h, h', hd⟩
  all_goals
    first
      | have HD := Lib.hid (inB_no (n := n) (lo := 0) (hi := 4294967295) (by omega))
        go_enter Tryd.func78, Tryd.ntmps78
        go_wp2
        all_goals try (exfalso; omega)
        go_ret
        exact ⟨ret_bool HD.out.symm, rfl⟩
      | have HD := Lib.hid (inB_yes (n := n) (lo := 0) (hi := 4294967295) (by omega))
        go_enter Tryd.func78, Tryd.ntmps78
        go_wp2
        all_goals try (exfalso; omega)
        go_ret
        exact ⟨ret_bool HD.out.symm, rfl⟩
theorem port_any (n : Int) (w : World) : Calls Tryd.prog 79 #[.int .i64 n] w fun e w' => e = .returned (.bool (inB n 1 65535)) ∧ w = w' := by
  have hcase : (n < 1) ∨ (1 ≤ n ∧ n ≤ 65535 ∧ decide (n ≤ 65535) = true) ∨ (1 ≤ n ∧ 65535 < n ∧ decide (n ≤ 65535) = false) := by
    rcases Int.lt_or_le n 1 with h | h
    · exact .inl h
    · rcases Int.lt_or_le 65535 n with h' | h'
      · exact .inr (.inr ⟨h, h', decide_eq_false (by omega)⟩)
      · exact .inr (.inl ⟨h, h', decide_eq_true h'⟩)
  rcases hcase with h | ⟨h, h', hd⟩ | ⟨h, h', hd⟩
  all_goals
    first
      | have HD := Lib.hid (inB_no (n := n) (lo := 1) (hi := 65535) (by omega))
        go_enter Tryd.func79, Tryd.ntmps79
        go_wp2
        all_goals try (exfalso; omega)
        go_ret
        exact ⟨ret_bool HD.out.symm, rfl⟩
      | have HD := Lib.hid (inB_yes (n := n) (lo := 1) (hi := 65535) (by omega))
        go_enter Tryd.func79, Tryd.ntmps79
        go_wp2
        all_goals try (exfalso; omega)
        go_ret
        exact ⟨ret_bool HD.out.symm, rfl⟩
theorem rest_any (b : Int) (w : World) (h0 : 0 ≤ b) (h1 : b ≤ 32) : Calls Tryd.prog 77 #[.int .i64 b] w fun e w' => e = .returned (.int .i64 (sz b - 1)) ∧ w = w' := by
  go_enter Tryd.func77, Tryd.ntmps77
  go_wp2
  go_ret
  have e : (2 : Int) ^ ((32 - b).toNat) = sz b := by
    unfold sz
    rw [show (32 - b).toNat = 32 - b.toNat by omega]
    simp
  have s1 := sz_pos b
  have s2 := sz_le b
  refine ⟨ret_int ?_, rfl⟩
  rw [e]
  generalize sz b = z at *
  unfold wrap64
  omega
theorem sz_step (i : Nat) : (2 : Int) * ((2 ^ i : Nat) : Int) = ((2 ^ (i + 1) : Nat) : Int) := by rw [Nat.pow_succ]; omega
theorem rsize_any (b : Int) (w : World) (h0 : 0 ≤ b) (h1 : b ≤ 32) : Calls Tryd.prog 80 #[.int .i64 b] w fun e w' => e = .returned (.int .i64 (sz b)) ∧ w = w' := by
  go_enter Tryd.func80, Tryd.ntmps80
  go_wp2_with fail
  go_loop [3, 4] (fun n i => ∃ k : Nat, b + k ≤ 32 ∧ n = .int .i64 ((2 ^ k : Nat) : Int) ∧ i = .int .i64 (b + k)) (fun _ i => (32 - intOf i).toNat)
  case atStart => exact ⟨0, by omega, rfl, by simp⟩
  case round =>
    obtain ⟨k, hk, rfl, rfl⟩ := hrel
    have hp : (2 : Nat) ^ k ≤ 2 ^ 32 := Nat.pow_le_pow_right (by omega) (by omega)
    have hp2 : ((2 ^ k : Nat) : Int) ≤ 4294967296 := by have e : (2 : Nat) ^ 32 = 4294967296 := by decide
                                                        omega
    by_cases hlt : b + k < 32
    · have HS := Lib.hid (sz_step k)
      have hp3 : (0 : Int) ≤ ((2 ^ k : Nat) : Int) := Int.natCast_nonneg _
      generalize ((2 ^ k : Nat) : Int) = m at *
      go_wp2_with fail
      go_round
      case rel => exact ⟨k + 1, by omega, by rw [HS.out], by go_num⟩
      case measure => simp [intOf]; omega
    · have hz : ((2 ^ k : Nat) : Int) = sz b := by unfold sz; congr 2; omega
      have HZ := Lib.hid hz
      generalize ((2 ^ k : Nat) : Int) = m at *
      clear hz
      go_wp2_with fail
      go_ret
      exact ⟨ret_int HZ.out, rfl⟩
end Go.Proofs.YtpkekfhnpcjgkaaDoor
