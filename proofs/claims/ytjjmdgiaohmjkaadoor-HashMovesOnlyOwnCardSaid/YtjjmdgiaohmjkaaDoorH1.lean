/- The walks of Sum, Bucket, digit, the reference's Unhex and Crc. -/
import Derived.Test.YtjjmdgiaohmjkaaDoorH0
namespace Go.Proofs.YtjjmdgiaohmjkaaDoor
open Go.RowKit
open Go.Sort (grow)

/-! ### the hash of a string -/
def fnvS (h : Int) (c : UInt8) : Int := IntKind.u64.wrap (bits .xor .u64 h (c.toNat : Int) * 1099511628211)
def fnv (l : List UInt8) : Int := l.foldl fnvS 14695981039346656037
theorem fnv_step (s : ByteArray) (k : Nat) (h : k < s.size) : fnv (s.data.toList.take (k + 1)) = IntKind.u64.wrap (bits .xor .u64 (fnv (s.data.toList.take k)) (s[k].toNat : Int) * 1099511628211) := by
  unfold fnv
  rw [List.take_add_one, byte_at s k h, List.foldl_append]
  rfl
theorem wrap_pos (x : Int) : 0 ≤ IntKind.u64.wrap x := by rw [IntKind.wrap_u64]; omega
theorem fnv_pos (l : List UInt8) : 0 ≤ fnv l := by
  unfold fnv
  have : ∀ (l : List UInt8) (h : Int), 0 ≤ h → 0 ≤ l.foldl fnvS h := by
    intro l
    induction l with
    | nil => intro h hh; exact hh
    | cons c r ih => intro h _; exact ih _ (wrap_pos _)
  exact this l _ (by omega)
set_option maxHeartbeats 1000000 in
theorem Sum_any (s : ByteArray) (w : World) (hs : s.size ≤ 9223372036854775807) : Calls Tryd.prog 16 #[.string s] w fun e w' => e = .returned (.int .u64 (fnv s.data.toList)) ∧ w = w' := by
  go_enter Tryd.func16, Tryd.ntmps16
  go_wp2_with fail
  go_loop [3, 4, 7] (fun h _ i => ∃ k : Nat, k ≤ s.size ∧ i = .int .i64 k ∧ h = .int .u64 (fnv (s.data.toList.take k))) (fun _ _ i => s.size - (intOf i).toNat)
  case atStart => exact ⟨0, Nat.zero_le _, rfl, rfl⟩
  case round =>
    obtain ⟨k, hk, rfl, rfl⟩ := hrel
    by_cases hp : k < s.size
    · have HS := Lib.hid (fnv_step s k hp)
      have hbw : IntKind.u64.wrap (s[k].toNat : Int) = (s[k].toNat : Int) := by rw [IntKind.wrap_u64]; have := s[k].toNat_lt; omega
      generalize fnv (s.data.toList.take k) = h at *
      go_wp2_with fail
      go_round
      case rel => exact ⟨k + 1, by omega, by go_num, by rw [HS.out]⟩
      case measure => simp [intOf]; omega
    · obtain rfl : k = s.size := by omega
      rw [take_size]
      go_wp2_with fail
      go_ret
      exact ⟨rfl, rfl⟩
set_option maxHeartbeats 1000000 in
theorem rSum_any (s : ByteArray) (w : World) (hs : s.size ≤ 9223372036854775807) : Calls Tryd.prog 17 #[.string s] w fun e w' => e = .returned (.int .u64 (fnv s.data.toList)) ∧ w = w' := by
  go_enter Tryd.func17, Tryd.ntmps17
  go_wp2_with fail
  go_loop [3, 4] (fun h i => ∃ k : Nat, k ≤ s.size ∧ i = .int .i64 k ∧ h = .int .u64 (fnv (s.data.toList.take k))) (fun _ i => s.size - (intOf i).toNat)
  case atStart => exact ⟨0, Nat.zero_le _, rfl, rfl⟩
  case round =>
    obtain ⟨k, hk, rfl, rfl⟩ := hrel
    by_cases hp : k < s.size
    · have HS := Lib.hid (fnv_step s k hp)
      have hbw : IntKind.u64.wrap (s[k].toNat : Int) = (s[k].toNat : Int) := by rw [IntKind.wrap_u64]; have := s[k].toNat_lt; omega
      generalize fnv (s.data.toList.take k) = h at *
      go_wp2_with fail
      go_round
      case rel => exact ⟨k + 1, by omega, by go_num, by rw [HS.out]⟩
      case measure => simp [intOf]; omega
    · obtain rfl : k = s.size := by omega
      rw [take_size]
      go_wp2_with fail
      go_ret
      exact ⟨rfl, rfl⟩
def bktI (l : List UInt8) (n : Int) : Int × Int := if 1 ≤ n ∧ n ≤ 1000000000000 then (fnv l % n, 0) else (0, 2)
set_option maxHeartbeats 1000000 in
theorem Bucket_any (s : ByteArray) (n : Int) (w : World) (hs : s.size ≤ 9223372036854775807) : Calls Tryd.prog 13 #[.string s, .int .i64 n] w fun e w' => e = .returned (tup2 (bktI s.data.toList n)) ∧ w = w' := by
  rcases Int.lt_or_le n 1 with h1 | h1
  · have HD := Lib.hid (show bktI s.data.toList n = (0, 2) by unfold bktI; rw [if_neg (by omega)])
    go_enter Tryd.func13, Tryd.ntmps13
    go_wp2_with fail
    all_goals try (exfalso; omega)
    go_ret2
    exact ⟨ret_tup2 HD.out, rfl⟩
  · rcases Int.lt_or_le 1000000000000 n with h2 | h2
    · have HD := Lib.hid (show bktI s.data.toList n = (0, 2) by unfold bktI; rw [if_neg (by omega)])
      have h3 : decide (1000000000000 < n) = true := decide_eq_true h2
      go_enter Tryd.func13, Tryd.ntmps13
      go_wp2_with fail
      all_goals try (exfalso; omega)
      go_ret2
      exact ⟨ret_tup2 HD.out, rfl⟩
    · have HD := Lib.hid (show bktI s.data.toList n = (fnv s.data.toList % n, 0) by unfold bktI; rw [if_pos ⟨h1, h2⟩])
      have h3 : decide (1000000000000 < n) = false := decide_eq_false (by omega)
      have hp := fnv_pos s.data.toList
      have hm1 := Int.emod_nonneg (fnv s.data.toList) (show n ≠ 0 by omega)
      have hm2 := Int.emod_lt_of_pos (fnv s.data.toList) (show 0 < n by omega)
      have h0 : (n == 0) = false := beq_eq_false_iff_ne.2 (by omega)
      go_enter Tryd.func13, Tryd.ntmps13
      go_wp2_with fail
      all_goals try (exfalso; omega)
      refine (Sum_any s _ hs).mono ?_
      rintro e w1 ⟨rfl, rfl⟩
      generalize fnv s.data.toList = h at *
      go_wp2_with fail
      go_ret2
      exact ⟨ret_tup2 HD.out, rfl⟩
set_option maxHeartbeats 1000000 in
theorem rBucket_any (s : ByteArray) (n : Int) (w : World) (hs : s.size ≤ 9223372036854775807) : Calls Tryd.prog 14 #[.string s, .int .i64 n] w fun e w' => e = .returned (tup2 (bktI s.data.toList n)) ∧ w = w' := by
  rcases Int.lt_or_le n 1 with h1 | h1
  · have HD := Lib.hid (show bktI s.data.toList n = (0, 2) by unfold bktI; rw [if_neg (by omega)])
    go_enter Tryd.func14, Tryd.ntmps14
    go_wp2_with fail
    all_goals try (exfalso; omega)
    go_ret2
    exact ⟨ret_tup2 HD.out, rfl⟩
  · rcases Int.lt_or_le 1000000000000 n with h2 | h2
    · have HD := Lib.hid (show bktI s.data.toList n = (0, 2) by unfold bktI; rw [if_neg (by omega)])
      have h3 : decide (1000000000000 < n) = true := decide_eq_true h2
      go_enter Tryd.func14, Tryd.ntmps14
      go_wp2_with fail
      all_goals try (exfalso; omega)
      go_ret2
      exact ⟨ret_tup2 HD.out, rfl⟩
    · have HD := Lib.hid (show bktI s.data.toList n = (fnv s.data.toList % n, 0) by unfold bktI; rw [if_pos ⟨h1, h2⟩])
      have h3 : decide (1000000000000 < n) = false := decide_eq_false (by omega)
      have hp := fnv_pos s.data.toList
      have hm1 := Int.emod_nonneg (fnv s.data.toList) (show n ≠ 0 by omega)
      have hm2 := Int.emod_lt_of_pos (fnv s.data.toList) (show 0 < n by omega)
      have h0 : (n == 0) = false := beq_eq_false_iff_ne.2 (by omega)
      go_enter Tryd.func14, Tryd.ntmps14
      go_wp2_with fail
      all_goals try (exfalso; omega)
      refine (rSum_any s _ hs).mono ?_
      rintro e w1 ⟨rfl, rfl⟩
      generalize fnv s.data.toList = h at *
      go_wp2_with fail
      go_ret2
      exact ⟨ret_tup2 HD.out, rfl⟩
end Go.Proofs.YtjjmdgiaohmjkaaDoor
