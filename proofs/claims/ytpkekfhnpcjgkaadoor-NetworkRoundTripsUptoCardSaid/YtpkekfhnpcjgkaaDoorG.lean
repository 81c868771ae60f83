/- The walks of the tests for decimal numerals. -/
import Derived.Test.YtpkekfhnpcjgkaaDoorP1
import Derived.Test.YtpkekfhnpcjgkaaDoorB1
import Derived.Lib.IndexBytes
import Derived.Outline
namespace Go.Proofs.YtpkekfhnpcjgkaaDoor
open Go.RowKit

theorem byte_at (s : ByteArray) (k : Nat) (hk : k < s.size) : s.data.toList[k]? = some s[k] := by
  have h' : k < s.data.toList.length := by simpa using hk
  rw [List.getElem?_eq_getElem h']
  simp
  rfl
theorem byte_is (s : ByteArray) (k : Nat) (hk : k < s.size) {c : UInt8} (h : s.data.toList[k]? = some c) : s[k] = c := by
  rw [byte_at s k hk] at h
  injection h
theorem size_len (s : ByteArray) : s.data.toList.length = s.size := by simp
theorem isEmpty_of {s : ByteArray} (h : s.size = 0) : s.toList.isEmpty = true := by
  rw [Lib.toList_data, List.isEmpty_iff_length_eq_zero, size_len, h]
theorem isEmpty_not {s : ByteArray} (h : 0 < s.size) : s.toList.isEmpty = false := by
  rw [Lib.toList_data]
  cases e : s.data.toList with
  | nil => have := size_len s; rw [e] at this; simp at this; omega
  | cons a b => rfl
theorem list_of_bytes {s : ByteArray} (h : 0 < s.size) : s.data.toList = s[0] :: s.data.toList.drop 1 := by
  have h1 := byte_at s 0 h
  cases e : s.data.toList with
  | nil => rw [e] at h1; simp at h1
  | cons a b => rw [e] at h1; simp at h1; simp [h1]
theorem tail_bytes (s : ByteArray) : (s.extract 1 s.size).data.toList = s.data.toList.drop 1 := Lib.extract_to_end s 1
theorem tail_size (s : ByteArray) : (s.extract 1 s.size).size = s.size - 1 := by
  rw [← size_len, tail_bytes, List.length_drop, size_len]
theorem isDg_iff (c : UInt8) : isDg c = true ↔ 48 ≤ c.toNat ∧ c.toNat ≤ 57 := by simp [isDg]
theorem all_step (t : ByteArray) (k : Nat) (h : k < t.size) : (t.data.toList.take (k + 1)).all isDg = ((t.data.toList.take k).all isDg && isDg t[k]) := by
  rw [List.take_add_one, byte_at t k h, List.all_append]
  simp
theorem all_no (t : ByteArray) (k : Nat) (h : k < t.size) (hd : isDg t[k] = false) : t.data.toList.all isDg = false := by
  rw [List.all_eq_false]
  exact ⟨t[k], List.mem_of_getElem? (byte_at t k h), by simp [hd]⟩
theorem decB_empty {s : ByteArray} (h : s.size = 0) : decB s.data.toList = false := by
  have : s.data.toList = [] := List.eq_nil_of_length_eq_zero (by rw [size_len, h])
  rw [this]; rfl
theorem decB_minus {s : ByteArray} (h : 1 < s.size) (h45 : s[0].toNat = 45) : decB s.data.toList = (!(decide (s[1].toNat = 48)) && (s.data.toList.drop 1).all isDg) := by
  rw [list_of_bytes (by omega)]
  rw [decB_cons, if_pos h45]
  have h1 := byte_at s 1 h
  cases e : s.data.toList.drop 1 with
  | nil => have := congrArg List.length e; simp at this; omega
  | cons a b =>
    have : a = s[1] := by
      have h2 : (s.data.toList.drop 1)[0]? = s.data.toList[1]? := by rw [List.getElem?_drop]
      rw [e, h1] at h2
      simpa using h2
    subst this
    simp
theorem decB_plus {s : ByteArray} (h : 0 < s.size) (h45 : s[0].toNat ≠ 45) : decB s.data.toList = ((!(decide (s[0].toNat = 48)) || decide (s.size = 1)) && s.data.toList.all isDg) := by
  have e := list_of_bytes h
  have hl := size_len s
  generalize s.data.toList.drop 1 = r at e
  rw [e] at hl ⊢
  rw [decB_cons, if_neg h45]
  congr 2
  cases r with
  | nil => simp at hl; simp [← hl]
  | cons a b => simp at hl; simp; omega
theorem decB_lone {s : ByteArray} (h : s.size = 1) (h45 : s[0].toNat = 45) : decB s.data.toList = false := by
  rw [list_of_bytes (by omega), decB_cons, if_pos h45]
  have : s.data.toList.drop 1 = [] := List.eq_nil_of_length_eq_zero (by simp [h])
  rw [this]
theorem is_zero_text {s : ByteArray} (h : 0 < s.size) (h48 : s[0].toNat = 48) : (s.toList == [48]) = decide (s.size = 1) := by
  have e := list_of_bytes h
  have hl := size_len s
  rw [Lib.toList_data]
  have hc : s[0] = 48 := UInt8.toNat_inj.1 h48
  generalize s.data.toList.drop 1 = r at e
  rw [e] at hl ⊢
  rw [hc]
  cases r with
  | nil => simp at hl; simp [← hl]
  | cons a b => simp at hl; simp; omega
theorem not_zero_text {s : ByteArray} (h : 0 < s.size) (h48 : s[0].toNat ≠ 48) : (s.toList == [48]) = false := by
  rw [Lib.toList_data, list_of_bytes h]
  have : s[0] ≠ 48 := fun e => h48 (by rw [e]; rfl)
  simp [this]

theorem tail_zero {s : ByteArray} (h : 1 < s.size) (h' : 0 < (s.extract 1 s.size).size) : (s.extract 1 s.size)[0] = s[1] :=
  byte_is _ 0 h' (by rw [tail_bytes, List.getElem?_drop]; exact byte_at s 1 h)

set_option maxHeartbeats 400000 in
theorem decimal_any (s : ByteArray) (w : World) (hs : s.size ≤ 9223372036854775807) :
    Calls Tryd.prog 86 #[.string s] w fun e w' => e = .returned (.bool (decB s.data.toList)) ∧ w = w' := by
  by_cases h0 : 0 < s.size
  · by_cases h45 : s[0].toNat = 45
    · by_cases h1 : 1 < s.size
      · have ht := tail_size s
        have hE := isEmpty_not (s := s.extract 1 s.size) (by rw [ht]; omega)
        have hZ := not_zero_text h0 (by omega)
        have htl := tail_bytes s
        have ht0 := tail_zero h1 (by rw [ht]; omega)
        have hD := decB_minus h1 h45
        rw [← htl] at hD
        by_cases h48 : s[1].toNat = 48
        · rw [h48] at hD
          have HD := Lib.hid hD
          have h48' : (s.extract 1 s.size)[0].toNat = 48 := by rw [ht0]; exact h48
          clear hD htl ht0
          go_enter Tryd.func86, Tryd.ntmps86
          go_wp2
          go_ret
          exact ⟨ret_bool (by rw [HD.out]; simp), rfl⟩
        · have hn : (!(decide (s[1].toNat = 48))) = true := by simpa using h48
          rw [hn, Bool.true_and] at hD
          have HD := Lib.hid hD
          have h48' : ¬ (s.extract 1 s.size)[0].toNat = 48 := by rw [ht0]; exact h48
          clear hD htl ht0
          go_enter Tryd.func86, Tryd.ntmps86
          go_wp2
          clear h48' hE hZ h1 h48 hn
          generalize s.extract 1 s.size = t at *
          have hts : t.size ≤ 9223372036854775807 := by omega
          go_loop [4, 29] (fun _ i => ∃ k : Nat, k ≤ t.size ∧ i = .int .i64 k ∧ (t.data.toList.take k).all isDg = true) (fun _ i => t.size - (intOf i).toNat)
          case atStart => exact ⟨0, Nat.zero_le _, rfl, rfl⟩
          case round =>
            obtain ⟨k, hk, rfl, hall⟩ := hrel
            by_cases hlt : k < t.size
            · have hst := all_step t k hlt
              rw [hall, Bool.true_and] at hst
              have hno := all_no t k hlt
              have HN := Lib.hid (And.intro hst hno)
              clear hst hno hall
              by_cases h1 : 48 ≤ t[k].toNat
              · by_cases h2 : t[k].toNat ≤ 57
                · have HY := Lib.hid ((isDg_iff t[k]).2 ⟨h1, h2⟩)
                  go_wp2
                  go_round
                  case rel => exact ⟨k + 1, by omega, by go_num, by rw [HN.out.1, HY.out]⟩
                  case measure => simp [intOf]; omega
                · have HY := Lib.hid (show isDg t[k] = false by simp [isDg]; omega)
                  have h3 : 57 < t[k].toNat := by omega
                  clear h2
                  go_wp2
                  all_goals
                    go_ret
                    exact ⟨ret_bool (by rw [HD.out, HN.out.2 HY.out]), rfl⟩
              · have HY := Lib.hid (show isDg t[k] = false by simp [isDg]; omega)
                go_wp2
                all_goals
                  go_ret
                  exact ⟨ret_bool (by rw [HD.out, HN.out.2 HY.out]), rfl⟩
            · obtain rfl : k = t.size := by omega
              have HY := Lib.hid hall
              clear hall
              go_wp2
              go_ret
              exact ⟨ret_bool (by rw [HD.out, ← HY.out, ← size_len, List.take_length]), rfl⟩
      · have hE := isEmpty_of (s := s.extract 1 s.size) (by rw [tail_size]; omega)
        have HD := Lib.hid (decB_lone (show s.size = 1 by omega) h45)
        go_enter Tryd.func86, Tryd.ntmps86
        go_wp2
        go_ret
        exact ⟨ret_bool HD.out.symm, rfl⟩
    · have hD := decB_plus h0 h45
      have hE := isEmpty_not h0
      by_cases h48 : s[0].toNat = 48
      · have hZ := is_zero_text h0 h48
        by_cases h1 : s.size = 1
        · have hZ' : (s.toList == [48]) = true := by rw [hZ]; simpa using h1
          have hn : (!(decide (s[0].toNat = 48)) || decide (s.size = 1)) = true := by simp [h1]
          rw [hn, Bool.true_and] at hD
          have HD := Lib.hid hD
          clear hD hn hZ h1
          go_enter Tryd.func86, Tryd.ntmps86
          go_wp2
          clear hZ' hE h48 h45
          have hts : s.size ≤ 9223372036854775807 := by omega
          go_loop [4, 29] (fun _ i => ∃ k : Nat, k ≤ s.size ∧ i = .int .i64 k ∧ (s.data.toList.take k).all isDg = true) (fun _ i => s.size - (intOf i).toNat)
          case atStart => exact ⟨0, Nat.zero_le _, rfl, rfl⟩
          case round =>
            obtain ⟨k, hk, rfl, hall⟩ := hrel
            by_cases hlt : k < s.size
            · have hst := all_step s k hlt
              rw [hall, Bool.true_and] at hst
              have hno := all_no s k hlt
              have HN := Lib.hid (And.intro hst hno)
              clear hst hno hall
              by_cases h1 : 48 ≤ s[k].toNat
              · by_cases h2 : s[k].toNat ≤ 57
                · have HY := Lib.hid ((isDg_iff s[k]).2 ⟨h1, h2⟩)
                  go_wp2
                  go_round
                  case rel => exact ⟨k + 1, by omega, by go_num, by rw [HN.out.1, HY.out]⟩
                  case measure => simp [intOf]; omega
                · have HY := Lib.hid (show isDg s[k] = false by simp [isDg]; omega)
                  have h3 : 57 < s[k].toNat := by omega
                  clear h2
                  go_wp2
                  all_goals
                    go_ret
                    exact ⟨ret_bool (by rw [HD.out, HN.out.2 HY.out]), rfl⟩
              · have HY := Lib.hid (show isDg s[k] = false by simp [isDg]; omega)
                go_wp2
                all_goals
                  go_ret
                  exact ⟨ret_bool (by rw [HD.out, HN.out.2 HY.out]), rfl⟩
            · obtain rfl : k = s.size := by omega
              have HY := Lib.hid hall
              clear hall
              go_wp2
              go_ret
              exact ⟨ret_bool (by rw [HD.out, ← HY.out, ← size_len, List.take_length]), rfl⟩
        · have hZ' : (s.toList == [48]) = false := by rw [hZ]; simpa using h1
          have hn : (!(decide (s[0].toNat = 48)) || decide (s.size = 1)) = false := by simp [h1, h48]
          rw [hn, Bool.false_and] at hD
          have HD := Lib.hid hD
          clear hD hn hZ h1
          go_enter Tryd.func86, Tryd.ntmps86
          go_wp2
          go_ret
          exact ⟨ret_bool HD.out.symm, rfl⟩
      · have hn : (!(decide (s[0].toNat = 48)) || decide (s.size = 1)) = true := by simp [h48]
        rw [hn, Bool.true_and] at hD
        have HD := Lib.hid hD
        clear hD hn
        go_enter Tryd.func86, Tryd.ntmps86
        go_wp2
        clear hE h48 h45
        have hts : s.size ≤ 9223372036854775807 := by omega
        go_loop [4, 29] (fun _ i => ∃ k : Nat, k ≤ s.size ∧ i = .int .i64 k ∧ (s.data.toList.take k).all isDg = true) (fun _ i => s.size - (intOf i).toNat)
        case atStart => exact ⟨0, Nat.zero_le _, rfl, rfl⟩
        case round =>
          obtain ⟨k, hk, rfl, hall⟩ := hrel
          by_cases hlt : k < s.size
          · have hst := all_step s k hlt
            rw [hall, Bool.true_and] at hst
            have hno := all_no s k hlt
            have HN := Lib.hid (And.intro hst hno)
            clear hst hno hall
            by_cases h1 : 48 ≤ s[k].toNat
            · by_cases h2 : s[k].toNat ≤ 57
              · have HY := Lib.hid ((isDg_iff s[k]).2 ⟨h1, h2⟩)
                go_wp2
                go_round
                case rel => exact ⟨k + 1, by omega, by go_num, by rw [HN.out.1, HY.out]⟩
                case measure => simp [intOf]; omega
              · have HY := Lib.hid (show isDg s[k] = false by simp [isDg]; omega)
                have h3 : 57 < s[k].toNat := by omega
                clear h2
                go_wp2
                all_goals
                  go_ret
                  exact ⟨ret_bool (by rw [HD.out, HN.out.2 HY.out]), rfl⟩
            · have HY := Lib.hid (show isDg s[k] = false by simp [isDg]; omega)
              go_wp2
              all_goals
                go_ret
                exact ⟨ret_bool (by rw [HD.out, HN.out.2 HY.out]), rfl⟩
          · obtain rfl : k = s.size := by omega
            have HY := Lib.hid hall
            clear hall
            go_wp2
            go_ret
            exact ⟨ret_bool (by rw [HD.out, ← HY.out, ← size_len, List.take_length]), rfl⟩
  · have hE := isEmpty_of (show s.size = 0 by omega)
    have HD := Lib.hid (decB_empty (show s.size = 0 by omega))
    go_enter Tryd.func86, Tryd.ntmps86
    go_wp2
    go_ret
    exact ⟨ret_bool HD.out.symm, rfl⟩
end Go.Proofs.YtpkekfhnpcjgkaaDoor
