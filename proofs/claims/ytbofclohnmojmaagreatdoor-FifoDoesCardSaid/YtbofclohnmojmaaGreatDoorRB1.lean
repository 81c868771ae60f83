/- The reference's Plain, after, key. -/
import Derived.Test.YtbofclohnmojmaaGreatDoorRA0
import Derived.BigQuiet
namespace Go.Proofs.YtbofclohnmojmaaGreatDoor
open Go.RowKit
open Go.Sort (grow)

set_option maxHeartbeats 1000000 in
theorem rPlain_any (s : ByteArray) (w : World) (hs : s.size ≤ 9223372036854775807) : Calls Tryz.prog 137 #[.string s] w fun e w' => e = .returned (.bool (txL s.data.toList)) ∧ w' = w := by
  go_enter Tryz.func137, Tryz.ntmps137
  go_wp2_with fail
  go_loopw [3] (fun i wr => ∃ k : Nat, k ≤ s.size ∧ i = .int .i64 k ∧ wr = w ∧ txL (s.data.toList.take k) = true) (fun i _ => s.size - (intOf i).toNat)
  case atStart => exact ⟨0, Nat.zero_le _, rfl, rfl, rfl⟩
  case round =>
    obtain ⟨k, hk, rfl, rfl, ht⟩ := hrel
    have HT := Lib.hid ht
    clear ht
    by_cases hlt : k < s.size
    · have hltz : (k : Int) < (s.size : Int) := by omega
      have p0 : (0 : Int) ≤ k := by omega
      by_cases h1 : s[k].toNat < 32
      · have d1 : decide ((s[k].toNat : Int) < 32) = true := decide_eq_true (by omega)
        have HE := Lib.hid (show false = txL s.data.toList from (txL_no s k hlt (by rw [decide_eq_false (by omega), Bool.false_and])).symm)
        clear h1
        go_wp2_with fail
        go_ret
        exact ⟨ret_bool HE.out, rfl⟩
      · have d1 : decide ((s[k].toNat : Int) < 32) = false := decide_eq_false (by omega)
        by_cases h2 : 126 < s[k].toNat
        · have d2 : decide ((126 : Int) < (s[k].toNat : Int)) = true := decide_eq_true (by omega)
          have HE := Lib.hid (show false = txL s.data.toList from (txL_no s k hlt (by rw [decide_eq_false (show ¬ s[k].toNat ≤ 126 by omega), Bool.and_false])).symm)
          clear h1 h2
          go_wp2_with fail
          go_ret
          exact ⟨ret_bool HE.out, rfl⟩
        · have d2 : decide ((126 : Int) < (s[k].toNat : Int)) = false := decide_eq_false (by omega)
          have HE := Lib.hid (show txL (s.data.toList.take (k + 1)) = true by rw [txL_step s k hlt, HT.out, decide_eq_true (show 32 ≤ s[k].toNat by omega), decide_eq_true (show s[k].toNat ≤ 126 by omega)]; rfl)
          clear h1 h2
          go_wp2_with fail
          go_roundw
          case rel => exact ⟨k + 1, by omega, by go_num, trivial, HE.out⟩
          case measure => simp [intOf] <;> omega
    · obtain rfl : k = s.size := by omega
      have HE := Lib.hid (show true = txL s.data.toList by have h := HT.out; rw [← size_len, List.take_length] at h; exact h.symm)
      go_wp2_with fail
      go_ret
      exact ⟨ret_bool HE.out, rfl⟩
theorem after_any (b : Bool) (i : Int) (w : World) (h0 : -9223372036854775808 ≤ i + 1) (h1 : i + 1 ≤ 9223372036854775807) : Calls Tryz.prog 122 #[.bool b, .int .i64 i] w fun e w' => e = .returned (.int .i64 (if b = true then i + 1 else -1)) ∧ w' = w := by
  obtain ⟨wa1, wa2⟩ := w64 h0 h1
  cases b
  · go_enter Tryz.func122, Tryz.ntmps122
    go_wp2_with fail
    go_ret
    exact ⟨rfl, rfl⟩
  · go_enter Tryz.func122, Tryz.ntmps122
    go_wp2_with fail
    go_ret
    exact ⟨rfl, rfl⟩
def kyI (k i : Int) (s : ByteArray) (n : Int) : Bool := decide (k = 4) && (decide (i = 0) && decide (n = 0) && txL s.data.toList)
theorem kyB_eq (c : Cel) : kyB c = kyI c.k c.i c.s c.n := by
  unfold kyB kyI Cel.pl
  by_cases h : c.k = 4
  · unfold plI
    rw [h]
    simp
  · rw [decide_eq_false h, Bool.false_and, Bool.false_and]
set_option maxHeartbeats 2000000 in
theorem key_any (k i : Int) (s : ByteArray) (n : Int) (w : World) (hs : s.size ≤ 9223372036854775807) : Calls Tryz.prog 123 #[.agg #[.int .i64 k, .int .i64 i, .string s, .int .i64 n]] w fun e w' => e = .returned (.bool (kyI k i s n)) ∧ Below w.heap.size w w' := by
  by_cases h4 : k = 4
  · subst h4
    by_cases h_i0 : i = 0
    · have f_i0 : (i == 0) = true := beq_iff_eq.2 h_i0
      by_cases h_n0 : n = 0
      · have f_n0 : (n == 0) = true := beq_iff_eq.2 h_n0
        have HE := Lib.hid (show txL s.data.toList = kyI 4 i s n by unfold kyI; rw [decide_eq_true h_i0, decide_eq_true h_n0]; simp)
        clear h_i0 h_n0
        go_enter Tryz.func123, Tryz.ntmps123
        go_wp2_with fail
        refine (rPlain_any s _ hs).mono ?_
        rintro e wq ⟨rfl, hq⟩
        obtain rfl := hq.symm
        go_wp2_with fail
        go_ret
        exact ⟨ret_bool HE.out, al_new w _⟩
      · have f_n0 : (n == 0) = false := beq_eq_false_iff_ne.2 h_n0
        have HE := Lib.hid (show false = kyI 4 i s n by unfold kyI; rw [decide_eq_false h_n0]; simp)
        clear h_i0 h_n0
        go_enter Tryz.func123, Tryz.ntmps123
        go_wp2_with fail
        go_ret
        exact ⟨ret_bool HE.out, al_new w _⟩
    · have f_i0 : (i == 0) = false := beq_eq_false_iff_ne.2 h_i0
      have HE := Lib.hid (show false = kyI 4 i s n by unfold kyI; rw [decide_eq_false h_i0]; simp)
      clear h_i0
      go_enter Tryz.func123, Tryz.ntmps123
      go_wp2_with fail
      go_ret
      exact ⟨ret_bool HE.out, al_new w _⟩
  · have b4 : (k == 4) = false := beq_eq_false_iff_ne.2 h4
    have HE := Lib.hid (show false = kyI k i s n by unfold kyI; rw [decide_eq_false h4]; rfl)
    clear h4
    go_enter Tryz.func123, Tryz.ntmps123
    go_wp2_with fail
    go_ret
    exact ⟨ret_bool HE.out, al_new w _⟩
end Go.Proofs.YtbofclohnmojmaaGreatDoor
