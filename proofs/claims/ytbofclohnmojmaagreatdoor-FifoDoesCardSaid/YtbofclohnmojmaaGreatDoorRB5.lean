/- The reference's quoted, levels. -/
import Derived.Test.YtbofclohnmojmaaGreatDoorRB4
namespace Go.Proofs.YtbofclohnmojmaaGreatDoor
open Go.RowKit
open Go.Sort (grow)

theorem count_snoc (l : List UInt8) (x : UInt8) (c : UInt8) : Lib.countByte (l ++ [x]) c = Lib.countByte l c + if x = c then 1 else 0 := by
  unfold Lib.countByte
  first
    | (rw [List.count_append, List.count_singleton]; simp [beq_iff_eq])
    | (rw [List.filter_append, List.length_append]; congr 1; simp only [List.filter_cons, List.filter_nil]; split <;> simp_all)
    | (rw [List.countP_append]; congr 1; simp [List.countP_cons, beq_iff_eq])
/-- The length of a quoted text of the first k bytes, without the last quotation mark. -/
def qk (s : ByteArray) (k : Nat) : Nat := 1 + k + Lib.countByte (s.data.toList.take k) 34 + Lib.countByte (s.data.toList.take k) 92
theorem qk_step (s : ByteArray) (k : Nat) (h : k < s.size) : qk s (k + 1) = qk s k + 1 + ((if s[k] = 34 then 1 else 0) + if s[k] = 92 then 1 else 0) := by
  unfold qk
  rw [List.take_add_one, byte_at s k h]
  simp only [Option.toList]
  rw [count_snoc, count_snoc]
  omega
theorem qk_end (s : ByteArray) : qk s s.size + 1 = qtN s := by
  unfold qk qtN
  rw [← size_len, List.take_length]
  omega
theorem qk_le (s : ByteArray) (k : Nat) (h : k ≤ s.size) : qk s k ≤ 1 + 3 * s.size := by
  unfold qk
  have h1 := count_le (s.data.toList.take k) 34
  have h2 := count_le (s.data.toList.take k) 92
  rw [List.length_take] at h1 h2
  rw [size_len] at h1 h2
  omega
theorem byte_lit {b : UInt8} {n : Nat} (h : n < 256) : b = UInt8.ofNat n ↔ b.toNat = n := by
  constructor
  · rintro rfl; rw [UInt8.toNat_ofNat']; omega
  · intro h2; apply UInt8.toNat_inj.1; rw [h2, UInt8.toNat_ofNat']; omega
theorem sz_one (t s : ByteArray) {k : Nat} (h : k < s.size) : (t ++ s.extract k (k + 1)).size = t.size + 1 := by
  rw [ByteArray.size_append, ByteArray.size_extract]
  omega
theorem sz_two (t s : ByteArray) {k : Nat} (h : k < s.size) : (t ++ ⟨#[92]⟩ ++ s.extract k (k + 1)).size = t.size + 2 := by
  rw [sz_one _ s h, ByteArray.size_append]
  rfl
theorem sz_is {a b c d n : Nat} (h1 : a = b + n) (h2 : d = b) (h3 : c = d + n) : c = a := by omega
set_option maxHeartbeats 4000000 in
theorem rquoted_any (s : ByteArray) (w : World) (hs : s.size ≤ 1048576) : Calls Tryz.prog 112 #[.string s] w fun e w' => ∃ t : ByteArray, e = .returned (.string t) ∧ t.size = qtN s ∧ Below w.heap.size w w' := by
  go_enter Tryz.func112, Tryz.ntmps112
  go_wp2_with fail
  go_loopw [3, 4] (fun v3 v4 wr => ∃ (k : Nat) (t : ByteArray), k ≤ s.size ∧ v4 = .int .i64 k ∧ v3 = .string t ∧ t.size = qk s k ∧ Below w.heap.size w wr) (fun _ i _ => s.size - (intOf i).toNat)
  case atStart => exact ⟨0, _, Nat.zero_le _, rfl, rfl, rfl, Below.refl _ _⟩
  case round =>
    obtain ⟨k, t, hk, rfl, rfl, ht, hb⟩ := hrel
    have HB := Lib.hid hb
    have HT := Lib.hid ht
    clear hb ht
    have hql := qk_le s k hk
    have HTL := Lib.hid (show t.size ≤ 3145729 by rw [HT.out]; omega)
    by_cases hlt : k < s.size
    · have hltz : (k : Int) < (s.size : Int) := by omega
      have p0 : (0 : Int) ≤ k := by omega
      have HS := Lib.hid (qk_step s k hlt)
      have h34 : s[k] = 34 ↔ s[k].toNat = 34 := byte_lit (b := s[k]) (n := 34) (by decide)
      have h92 : s[k] = 92 ↔ s[k].toNat = 92 := byte_lit (b := s[k]) (n := 92) (by decide)
      have htl := HTL.out
      have HW := Lib.hid (w64 (x := (k : Int) + 1) (by omega) (by omega))
      by_cases h1 : s[k].toNat = 34
      · have f1 : ((s[k].toNat : Int) == 34) = true := by simp [h1]
        have h2 : ¬ s[k].toNat = 92 := by omega
        have HSZ := Lib.hid (show qk s (k + 1) = qk s k + 2 by rw [HS.out, if_pos (h34.2 h1), if_neg (fun e => h2 (h92.1 e))])
        obtain ⟨wk1, wk2⟩ := HW.out
        clear h34 h92 h1 h2 hql
        go_wp2_with fail
        clear wk1 wk2
        go_roundw
        case rel => exact ⟨k + 1, _, by omega, by first | rfl | go_num, rfl, sz_is HSZ.out HT.out (by first | exact sz_two t s hlt | exact sz_one t s hlt), HB.out⟩
        case measure => simp [intOf] <;> omega
      · have f1 : ((s[k].toNat : Int) == 34) = false := beq_eq_false_iff_ne.2 (by omega)
        by_cases h2 : s[k].toNat = 92
        · have f2 : ((s[k].toNat : Int) == 92) = true := by simp [h2]
          have HSZ := Lib.hid (show qk s (k + 1) = qk s k + 2 by rw [HS.out, if_neg (fun e => h1 (h34.1 e)), if_pos (h92.2 h2)])
          obtain ⟨wk1, wk2⟩ := HW.out
          clear h34 h92 h1 h2 hql
          go_wp2_with fail
          clear wk1 wk2
          go_roundw
          case rel => exact ⟨k + 1, _, by omega, by first | rfl | go_num, rfl, sz_is HSZ.out HT.out (by first | exact sz_two t s hlt | exact sz_one t s hlt), HB.out⟩
          case measure => simp [intOf] <;> omega
        · have f2 : ((s[k].toNat : Int) == 92) = false := beq_eq_false_iff_ne.2 (by omega)
          have HSZ := Lib.hid (show qk s (k + 1) = qk s k + 1 by rw [HS.out, if_neg (fun e => h1 (h34.1 e)), if_neg (fun e => h2 (h92.1 e))])
          obtain ⟨wk1, wk2⟩ := HW.out
          clear h34 h92 h1 h2 hql
          go_wp2_with fail
          clear wk1 wk2
          go_roundw
          case rel => exact ⟨k + 1, _, by omega, by first | rfl | go_num, rfl, sz_is HSZ.out HT.out (by first | exact sz_two t s hlt | exact sz_one t s hlt), HB.out⟩
          case measure => simp [intOf] <;> omega
    · obtain rfl : k = s.size := by omega
      have HE := Lib.hid (qk_end s)
      have htl := HTL.out
      go_wp2_with fail
      go_ret
      exact ⟨_, rfl, by rw [ByteArray.size_append, HT.out, ← HE.out]; rfl, HB.out⟩
end Go.Proofs.YtbofclohnmojmaaGreatDoor
