/- The walk of the reference's test for decimal numerals. -/
import Derived.Test.YtpkekfhnpcjgkaaDoorG
namespace Go.Proofs.YtpkekfhnpcjgkaaDoor
open Go.RowKit

set_option maxHeartbeats 800000 in
theorem form_m1 (s : ByteArray) (w : World) (hs : s.size ≤ 9223372036854775807) (h0 : 0 < s.size) (h45 : s[0].toNat = 45) (ht : (s.extract 1 s.size).size = s.size - 1) (h1 : s.size ≤ 2) (h1b : 2 ≤ s.size) (h48 : ¬ (s.extract 1 s.size)[0].toNat = 48) (HD : Hid (decB s.data.toList = (s.extract 1 s.size).data.toList.all isDg)) :
    Calls Tryd.prog 88 #[.string s] w fun e w' => e = .returned (.bool (decB s.data.toList)) ∧ w = w' := by
  have hz : (((s.size - 1 : Nat) : Int) == 0) = false := beq_eq_false_iff_ne.2 (by omega)
  have hq : decide ((1 : Int) < ((s.size - 1 : Nat) : Int)) = false := by simp; omega
  go_enter Tryd.func88, Tryd.ntmps88
  go_wp2
  all_goals try (exfalso; omega)
  all_goals
    clear h48
    generalize s.extract 1 s.size = t at *
    have hts : t.size ≤ 9223372036854775807 := by omega
    go_loop [4, 39] (fun _ i => ∃ k : Nat, k ≤ t.size ∧ i = .int .i64 k ∧ (t.data.toList.take k).all isDg = true) (fun _ i => t.size - (intOf i).toNat)
    case atStart => exact ⟨0, Nat.zero_le _, rfl, rfl⟩
    case round =>
      obtain ⟨k, hk, rfl, hall⟩ := hrel
      by_cases hlt : k < t.size
      · have hst := all_step t k hlt
        rw [hall, Bool.true_and] at hst
        have hno := all_no t k hlt
        have HN := Lib.hid (And.intro hst hno)
        clear hst hno hall
        by_cases h1 : 48 ≤ t[k].toNat
        · by_cases h2 : t[k].toNat ≤ 57
          · have HY := Lib.hid ((isDg_iff t[k]).2 ⟨h1, h2⟩)
            go_wp2
            go_round
            case rel => first | exact ⟨k + 1, by omega, by go_num, by rw [HN.out.1, HY.out]⟩ | ((repeat apply Exists.intro); exact ⟨⟨k + 1, by omega, by go_num, by rw [HN.out.1, HY.out]⟩, rfl⟩)
            case measure => first | (simp [intOf]; omega) | (simp; omega)
          · have HY := Lib.hid (show isDg t[k] = false by simp [isDg]; omega)
            have h3 : 57 < t[k].toNat := by omega
            clear h2
            go_wp2
            all_goals
              go_ret
              exact ⟨ret_bool (by rw [HD.out, HN.out.2 HY.out]), rfl⟩
        · have HY := Lib.hid (show isDg t[k] = false by simp [isDg]; omega)
          go_wp2
          all_goals
            go_ret
            exact ⟨ret_bool (by rw [HD.out, HN.out.2 HY.out]), rfl⟩
      · obtain rfl : k = t.size := by omega
        have HY := Lib.hid hall
        clear hall
        go_wp2
        go_ret
        exact ⟨ret_bool (by rw [HD.out, ← HY.out, ← size_len, List.take_length]), rfl⟩
set_option maxHeartbeats 800000 in
theorem form_m2 (s : ByteArray) (w : World) (hs : s.size ≤ 9223372036854775807) (h0 : 0 < s.size) (h45 : s[0].toNat = 45) (ht : (s.extract 1 s.size).size = s.size - 1) (h1 : 2 < s.size) (h48 : ¬ (s.extract 1 s.size)[0].toNat = 48) (HD : Hid (decB s.data.toList = (s.extract 1 s.size).data.toList.all isDg)) :
    Calls Tryd.prog 88 #[.string s] w fun e w' => e = .returned (.bool (decB s.data.toList)) ∧ w = w' := by
  have hz : (((s.size - 1 : Nat) : Int) == 0) = false := beq_eq_false_iff_ne.2 (by omega)
  have hq : decide ((1 : Int) < ((s.size - 1 : Nat) : Int)) = true := by simp; omega
  go_enter Tryd.func88, Tryd.ntmps88
  go_wp2
  all_goals try (exfalso; omega)
  all_goals
    clear h48
    generalize s.extract 1 s.size = t at *
    have hts : t.size ≤ 9223372036854775807 := by omega
    go_loop [4, 39] (fun _ i => ∃ k : Nat, k ≤ t.size ∧ i = .int .i64 k ∧ (t.data.toList.take k).all isDg = true) (fun _ i => t.size - (intOf i).toNat)
    case atStart => exact ⟨0, Nat.zero_le _, rfl, rfl⟩
    case round =>
      obtain ⟨k, hk, rfl, hall⟩ := hrel
      by_cases hlt : k < t.size
      · have hst := all_step t k hlt
        rw [hall, Bool.true_and] at hst
        have hno := all_no t k hlt
        have HN := Lib.hid (And.intro hst hno)
        clear hst hno hall
        by_cases h1 : 48 ≤ t[k].toNat
        · by_cases h2 : t[k].toNat ≤ 57
          · have HY := Lib.hid ((isDg_iff t[k]).2 ⟨h1, h2⟩)
            go_wp2
            go_round
            case rel => first | exact ⟨k + 1, by omega, by go_num, by rw [HN.out.1, HY.out]⟩ | ((repeat apply Exists.intro); exact ⟨⟨k + 1, by omega, by go_num, by rw [HN.out.1, HY.out]⟩, rfl⟩)
            case measure => first | (simp [intOf]; omega) | (simp; omega)
          · have HY := Lib.hid (show isDg t[k] = false by simp [isDg]; omega)
            have h3 : 57 < t[k].toNat := by omega
            clear h2
            go_wp2
            all_goals
              go_ret
              exact ⟨ret_bool (by rw [HD.out, HN.out.2 HY.out]), rfl⟩
        · have HY := Lib.hid (show isDg t[k] = false by simp [isDg]; omega)
          go_wp2
          all_goals
            go_ret
            exact ⟨ret_bool (by rw [HD.out, HN.out.2 HY.out]), rfl⟩
      · obtain rfl : k = t.size := by omega
        have HY := Lib.hid hall
        clear hall
        go_wp2
        go_ret
        exact ⟨ret_bool (by rw [HD.out, ← HY.out, ← size_len, List.take_length]), rfl⟩
set_option maxHeartbeats 800000 in
theorem form_p1 (s : ByteArray) (w : World) (hs : s.size ≤ 9223372036854775807) (h0 : 0 < s.size) (h45 : ¬ s[0].toNat = 45) (HD : Hid (decB s.data.toList = s.data.toList.all isDg)) (h1 : s.size < 2) :
    Calls Tryd.prog 88 #[.string s] w fun e w' => e = .returned (.bool (decB s.data.toList)) ∧ w = w' := by
  have hz : ((s.size : Int) == 0) = false := beq_eq_false_iff_ne.2 (by omega)
  have hq : decide ((1 : Int) < (s.size : Int)) = false := by simp; omega
  go_enter Tryd.func88, Tryd.ntmps88
  go_wp2
  all_goals
    have hts : s.size ≤ 9223372036854775807 := by omega
    go_loop [4, 39] (fun _ i => ∃ k : Nat, k ≤ s.size ∧ i = .int .i64 k ∧ (s.data.toList.take k).all isDg = true) (fun _ i => s.size - (intOf i).toNat)
    case atStart => exact ⟨0, Nat.zero_le _, rfl, rfl⟩
    case round =>
      obtain ⟨k, hk, rfl, hall⟩ := hrel
      by_cases hlt : k < s.size
      · have hst := all_step s k hlt
        rw [hall, Bool.true_and] at hst
        have hno := all_no s k hlt
        have HN := Lib.hid (And.intro hst hno)
        clear hst hno hall
        by_cases h1 : 48 ≤ s[k].toNat
        · by_cases h2 : s[k].toNat ≤ 57
          · have HY := Lib.hid ((isDg_iff s[k]).2 ⟨h1, h2⟩)
            go_wp2
            go_round
            case rel => first | exact ⟨k + 1, by omega, by go_num, by rw [HN.out.1, HY.out]⟩ | ((repeat apply Exists.intro); exact ⟨⟨k + 1, by omega, by go_num, by rw [HN.out.1, HY.out]⟩, rfl⟩)
            case measure => first | (simp [intOf]; omega) | (simp; omega)
          · have HY := Lib.hid (show isDg s[k] = false by simp [isDg]; omega)
            have h3 : 57 < s[k].toNat := by omega
            clear h2
            go_wp2
            all_goals
              go_ret
              exact ⟨ret_bool (by rw [HD.out, HN.out.2 HY.out]), rfl⟩
        · have HY := Lib.hid (show isDg s[k] = false by simp [isDg]; omega)
          go_wp2
          all_goals
            go_ret
            exact ⟨ret_bool (by rw [HD.out, HN.out.2 HY.out]), rfl⟩
      · obtain rfl : k = s.size := by omega
        have HY := Lib.hid hall
        clear hall
        go_wp2
        go_ret
        exact ⟨ret_bool (by rw [HD.out, ← HY.out, ← size_len, List.take_length]), rfl⟩
set_option maxHeartbeats 800000 in
theorem form_p2 (s : ByteArray) (w : World) (hs : s.size ≤ 9223372036854775807) (h0 : 0 < s.size) (h45 : ¬ s[0].toNat = 45) (HD : Hid (decB s.data.toList = s.data.toList.all isDg)) (h1 : 1 < s.size) (h48 : ¬ s[0].toNat = 48) :
    Calls Tryd.prog 88 #[.string s] w fun e w' => e = .returned (.bool (decB s.data.toList)) ∧ w = w' := by
  have hz : ((s.size : Int) == 0) = false := beq_eq_false_iff_ne.2 (by omega)
  have hq : decide ((1 : Int) < (s.size : Int)) = true := by simp; omega
  go_enter Tryd.func88, Tryd.ntmps88
  go_wp2
  all_goals
    have hts : s.size ≤ 9223372036854775807 := by omega
    go_loop [4, 39] (fun _ i => ∃ k : Nat, k ≤ s.size ∧ i = .int .i64 k ∧ (s.data.toList.take k).all isDg = true) (fun _ i => s.size - (intOf i).toNat)
    case atStart => exact ⟨0, Nat.zero_le _, rfl, rfl⟩
    case round =>
      obtain ⟨k, hk, rfl, hall⟩ := hrel
      by_cases hlt : k < s.size
      · have hst := all_step s k hlt
        rw [hall, Bool.true_and] at hst
        have hno := all_no s k hlt
        have HN := Lib.hid (And.intro hst hno)
        clear hst hno hall
        by_cases h1 : 48 ≤ s[k].toNat
        · by_cases h2 : s[k].toNat ≤ 57
          · have HY := Lib.hid ((isDg_iff s[k]).2 ⟨h1, h2⟩)
            go_wp2
            go_round
            case rel => first | exact ⟨k + 1, by omega, by go_num, by rw [HN.out.1, HY.out]⟩ | ((repeat apply Exists.intro); exact ⟨⟨k + 1, by omega, by go_num, by rw [HN.out.1, HY.out]⟩, rfl⟩)
            case measure => first | (simp [intOf]; omega) | (simp; omega)
          · have HY := Lib.hid (show isDg s[k] = false by simp [isDg]; omega)
            have h3 : 57 < s[k].toNat := by omega
            clear h2
            go_wp2
            all_goals
              go_ret
              exact ⟨ret_bool (by rw [HD.out, HN.out.2 HY.out]), rfl⟩
        · have HY := Lib.hid (show isDg s[k] = false by simp [isDg]; omega)
          go_wp2
          all_goals
            go_ret
            exact ⟨ret_bool (by rw [HD.out, HN.out.2 HY.out]), rfl⟩
      · obtain rfl : k = s.size := by omega
        have HY := Lib.hid hall
        clear hall
        go_wp2
        go_ret
        exact ⟨ret_bool (by rw [HD.out, ← HY.out, ← size_len, List.take_length]), rfl⟩

set_option maxHeartbeats 800000 in
theorem form_any (s : ByteArray) (w : World) (hs : s.size ≤ 9223372036854775807) :
    Calls Tryd.prog 88 #[.string s] w fun e w' => e = .returned (.bool (decB s.data.toList)) ∧ w = w' := by
  by_cases h0 : 0 < s.size
  · by_cases h45 : s[0].toNat = 45
    · by_cases h1 : 1 < s.size
      · have ht := tail_size s
        have htl := tail_bytes s
        have ht0 := tail_zero h1 (by rw [ht]; omega)
        have hD := decB_minus h1 h45
        rw [← htl] at hD
        by_cases h48 : s[1].toNat = 48
        · rw [h48] at hD
          have HD := Lib.hid hD
          have h48' : (s.extract 1 s.size)[0].toNat = 48 := by rw [ht0]; exact h48
          clear hD htl ht0
          go_enter Tryd.func88, Tryd.ntmps88
          go_wp2
          go_ret
          exact ⟨ret_bool (by rw [HD.out]; simp), rfl⟩
        · have hn : (!(decide (s[1].toNat = 48))) = true := by simpa using h48
          rw [hn, Bool.true_and] at hD
          have h48' : ¬ (s.extract 1 s.size)[0].toNat = 48 := by rw [ht0]; exact h48
          by_cases h2 : 2 < s.size
          · exact form_m2 s w hs h0 h45 ht h2 h48' hD
          · exact form_m1 s w hs h0 h45 ht (by omega) (by omega) h48' hD
      · have ht := tail_size s
        have HD := Lib.hid (decB_lone (show s.size = 1 by omega) h45)
        have hz : (((s.size - 1 : Nat) : Int) == 0) = true := beq_iff_eq.2 (by omega)
        go_enter Tryd.func88, Tryd.ntmps88
        go_wp2
        go_ret
        exact ⟨ret_bool HD.out.symm, rfl⟩
    · have hD := decB_plus h0 h45
      by_cases h48 : s[0].toNat = 48
      · by_cases h1 : s.size = 1
        · have hn : (!(decide (s[0].toNat = 48)) || decide (s.size = 1)) = true := by simp [h1]
          rw [hn, Bool.true_and] at hD
          exact form_p1 s w hs h0 h45 hD (by omega)
        · have hn : (!(decide (s[0].toNat = 48)) || decide (s.size = 1)) = false := by simp [h1, h48]
          rw [hn, Bool.false_and] at hD
          have HD := Lib.hid hD
          have h1' : 1 < s.size := by omega
          have hz : ((s.size : Int) == 0) = false := beq_eq_false_iff_ne.2 (by omega)
          have hq : decide ((1 : Int) < (s.size : Int)) = true := by simp; omega
          clear hD hn h1
          go_enter Tryd.func88, Tryd.ntmps88
          go_wp2
          all_goals
            go_ret
            exact ⟨ret_bool HD.out.symm, rfl⟩
      · have hn : (!(decide (s[0].toNat = 48)) || decide (s.size = 1)) = true := by simp [h48]
        rw [hn, Bool.true_and] at hD
        by_cases h1 : 1 < s.size
        · exact form_p2 s w hs h0 h45 hD h1 h48
        · exact form_p1 s w hs h0 h45 hD (by omega)
  · have HD := Lib.hid (decB_empty (show s.size = 0 by omega))
    have hz : ((s.size : Int) == 0) = true := beq_iff_eq.2 (by omega)
    go_enter Tryd.func88, Tryd.ntmps88
    go_wp2
    go_ret
    exact ⟨ret_bool HD.out.symm, rfl⟩
end Go.Proofs.YtpkekfhnpcjgkaaDoor
