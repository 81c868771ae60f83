/- The walks of the two Format, Sum and Bucket. -/
import Derived.Test.YtefaojbfoboikaaDoorE
import Derived.Lib.ItoaLen
import Derived.Lib.SmallJoins
import Derived.Lib.AppendIntMem
namespace Go.Proofs.YtefaojbfoboikaaDoor
open Go.RowKit
open Go.Sort (grow)

theorem isEmpty_of {s : ByteArray} (h : s.size = 0) : s.toList.isEmpty = true := by
  rw [Lib.toList_data, List.isEmpty_iff_length_eq_zero, size_len, h]
theorem isEmpty_not {s : ByteArray} (h : 0 < s.size) : s.toList.isEmpty = false := by
  rw [Lib.toList_data]
  cases e : s.data.toList with
  | nil => have := size_len s; rw [e] at this; simp at this; omega
  | cons a b => rfl
theorem ret_str {a b : ByteArray} (h : a = b) : Ending.returned (.string a) = .returned (.string b) := by rw [h]
def emptyV : Value → Nat
  | .string t => if t.size = 0 then 1 else 0
  | _ => 0
theorem emptyV_yes {t : ByteArray} (h : t.size = 0) : emptyV (.string t) = 1 := by show (if t.size = 0 then 1 else 0) = 1; rw [if_pos h]
theorem emptyV_no {t : ByteArray} (h : 0 < t.size) : emptyV (.string t) = 0 := by show (if t.size = 0 then 1 else 0) = 0; rw [if_neg (by omega)]
/-- The loop of the reference: what is still to be written (m) stands ahead of what is written (t). -/
def FmtR (n m : Int) (t : ByteArray) : Prop :=
  (t.size = 0 ∧ m = n) ∨ (0 < t.size ∧ Lib.decDigits n.natAbs = (if m = 0 then [] else Lib.decDigits m.natAbs) ++ t.data.toList)
abbrev tenDig : ByteArray := ⟨#[48, 49, 50, 51, 52, 53, 54, 55, 56, 57]⟩
theorem ten_fin : ∀ i : Fin 10, (tenDig.data.toList.drop i.val).take 1 = [UInt8.ofNat (48 + i.val)] := by decide +kernel
theorem ten_at (d : Nat) (h : d < 10) : (tenDig.extract d (d + 1)).data.toList = [UInt8.ofNat (48 + d)] := by
  rw [Lib.extract_data, show d + 1 - d = 1 by omega]
  exact ten_fin ⟨d, h⟩
theorem fmt_step {n m m' : Int} {t : ByteArray} {d : Nat} (h : FmtR n m t) (hgo : m ≠ 0 ∨ t.size = 0) (hd : d = m.natAbs % 10) (hm : m'.natAbs = m.natAbs / 10) :
    FmtR n m' (tenDig.extract d (d + 1) ++ t) ∧ 0 < (tenDig.extract d (d + 1) ++ t).size := by
  have hl : (tenDig.extract d (d + 1) ++ t).data.toList = UInt8.ofNat (48 + d) :: t.data.toList := by
    rw [Joins.data_append, ten_at d (by omega)]; rfl
  have hs : 0 < (tenDig.extract d (d + 1) ++ t).size := by rw [← size_len, hl]; simp
  refine ⟨.inr ⟨hs, ?_⟩, hs⟩
  rw [hl]
  have hk : ∀ u : Nat, d = u % 10 → m'.natAbs = u / 10 → Lib.decDigits u = (if m' = 0 then [] else Lib.decDigits m'.natAbs) ++ [UInt8.ofNat (48 + d)] := by
    intro u h1 h2
    rw [Lib.decDigits]
    split
    · rename_i h10
      rw [if_pos (by omega), List.nil_append, h1, Nat.mod_eq_of_lt h10]
    · rw [if_neg (by omega), h2, h1]
  rcases h with ⟨ht, rfl⟩ | ⟨ht, he⟩
  · have : t.data.toList = [] := List.eq_nil_of_length_eq_zero (by rw [size_len, ht])
    rw [this]
    exact hk _ hd hm
  · have hm0 : m ≠ 0 := by rcases hgo with h | h; exact h; omega
    rw [he, if_neg hm0, hk _ hd hm, List.append_assoc]
    rfl
theorem fmt_end {n : Int} {t : ByteArray} (h : FmtR n 0 t) (ht : 0 < t.size) : t.data.toList = Lib.decDigits n.natAbs := by
  rcases h with ⟨h, _⟩ | ⟨_, he⟩
  · omega
  · rw [he, if_pos rfl, List.nil_append]
theorem itoa_abs (n : Int) : Lib.itoa n = if n < 0 then 45 :: Lib.decDigits n.natAbs else Lib.decDigits n.natAbs := by
  unfold Lib.itoa
  split
  · rfl
  · rw [show n.toNat = n.natAbs by omega]
theorem bytes_of {t : ByteArray} {l : List UInt8} (h : t.data.toList = l) : t = ⟨l.toArray⟩ := by subst h; cases t; simp
theorem fmt_len {n m : Int} {t : ByteArray} (h : FmtR n m t) (h0 : -9223372036854775808 ≤ n) (h1 : n ≤ 9223372036854775807) : t.size ≤ 21 := by
  rcases h with ⟨h, _⟩ | ⟨_, he⟩
  · omega
  · have := congrArg List.length he
    rw [List.length_append, size_len] at this
    have hl := Lib.itoa_length_le n h0 h1
    rw [itoa_abs] at hl
    split at hl <;> (try rw [List.length_cons] at hl) <;> omega

theorem tmod10 (m : Int) (h : m < 0) : m.tmod 10 = -((m.natAbs % 10 : Nat) : Int) := by
  obtain ⟨k, rfl⟩ : ∃ k : Nat, m = -(k : Int) := ⟨m.natAbs, by omega⟩
  rw [Int.neg_tmod, Int.natAbs_neg, Int.natAbs_natCast]; rfl
theorem tdiv10 (m : Int) (h : m < 0) : m.tdiv 10 = -((m.natAbs / 10 : Nat) : Int) := by
  obtain ⟨k, rfl⟩ : ∃ k : Nat, m = -(k : Int) := ⟨m.natAbs, by omega⟩
  rw [Int.neg_tdiv, Int.natAbs_neg, Int.natAbs_natCast]; rfl
set_option maxHeartbeats 1000000 in
theorem rFormat_any (n : Int) (w : World) (h0 : -9223372036854775808 ≤ n) (h1 : n ≤ 9223372036854775807) :
    Calls Tryd.prog 32 #[.int .i64 n] w fun e w' => e = .returned (.string ⟨(Lib.itoa n).toArray⟩) ∧ Below w.heap.size w w' := by
  have hfin : ∀ t : ByteArray, FmtR n 0 t → 0 < t.size → (n < 0 → (⟨#[45]⟩ ++ t : ByteArray) = ⟨(Lib.itoa n).toArray⟩) ∧ (¬ n < 0 → t = ⟨(Lib.itoa n).toArray⟩) := by
    intro t ht hs
    have he := fmt_end ht hs
    refine ⟨fun hn => bytes_of ?_, fun hn => bytes_of ?_⟩
    · rw [Joins.data_append, he, itoa_abs, if_pos hn]; rfl
    · rw [he, itoa_abs, if_neg hn]
  have HF := Lib.hid hfin
  clear hfin
  go_enter Tryd.func32, Tryd.ntmps32
  go_wp2_with fail
  go_loop [4, 5] (fun s m => ∃ (k : Int) (t : ByteArray), m = .int .i64 k ∧ s = .string t ∧ FmtR n k t ∧ -9223372036854775808 ≤ k ∧ k ≤ 9223372036854775807) (fun s m => (Lib.intOf m).natAbs + emptyV s)
  case atStart => exact ⟨n, ⟨#[]⟩, rfl, rfl, .inl ⟨rfl, rfl⟩, h0, h1⟩
  case round =>
    obtain ⟨m, t, rfl, rfl, hR, b1, b2⟩ := hrel
    have hlen := fmt_len hR h0 h1
    have HR := Lib.hid hR
    clear hR
    by_cases hgo : m ≠ 0 ∨ t.size = 0
    · have hstep := fun (m' : Int) (d : Nat) => fmt_step (m' := m') (d := d) HR.out hgo
      have HS := Lib.hid hstep
      clear hstep
      obtain ⟨d, hd⟩ : ∃ d : Nat, d = m.natAbs % 10 := ⟨_, rfl⟩
      obtain ⟨q, hq⟩ : ∃ q : Nat, q = m.natAbs / 10 := ⟨_, rfl⟩
      have hd10 : d < 10 := by omega
      have HM : Hid (d = m.natAbs % 10 ∧ q = m.natAbs / 10) := ⟨hd, hq⟩
      have hemp : emptyV (.string t) = 1 ∨ m ≠ 0 := by
        rcases hgo with h | h
        · exact .inr h
        · exact .inl (emptyV_yes h)
      have HE := Lib.hid hemp
      clear hemp
      have hgoW : ((m != 0) = true) ∨ ((m != 0) = false ∧ t.toList.isEmpty = true) := by
        by_cases h : m = 0
        · refine .inr ⟨by simpa using h, isEmpty_of ?_⟩
          rcases hgo with h' | h'
          · exact absurd h h'
          · exact h'
        · exact .inl (by simpa using h)
      clear hgo
      rcases hgoW with hne | ⟨hne, hte⟩
      all_goals
        rcases Int.lt_or_le m 0 with hm | hm
        · have e1 := tmod10 m hm
          have e2 := tdiv10 m hm
          rw [← hd] at e1
          rw [← hq] at e2
          have hqb : q ≤ 922337203685477581 := by omega
          clear hd hq
          by_cases hd0 : d = 0
          · subst hd0
            rw [show -((0 : Nat) : Int) = 0 from rfl] at e1
            go_wp2
            go_round
            case rel => exact ⟨_, _, rfl, rfl, (HS.out (-(q : Int)) 0 HM.out.1 (by have := HM.out.2; omega)).1, by have := HM.out.2; omega, by omega⟩
            case measure => rw [show emptyV _ = 0 from emptyV_no (HS.out (-(q : Int)) 0 HM.out.1 (by have := HM.out.2; omega)).2]; have := HM.out.2; rcases HE.out with h | h <;> simp [Lib.intOf] <;> omega
          · go_wp2
            go_round
            case rel => exact ⟨_, _, rfl, rfl, (HS.out (-(q : Int)) d HM.out.1 (by have := HM.out.2; omega)).1, by have := HM.out.2; omega, by omega⟩
            case measure => rw [show emptyV _ = 0 from emptyV_no (HS.out (-(q : Int)) d HM.out.1 (by have := HM.out.2; omega)).2]; have := HM.out.2; rcases HE.out with h | h <;> simp [Lib.intOf] <;> omega
        · have e1 : m % 10 = (d : Int) := by omega
          clear hd hq
          go_wp2
          go_round
          case rel => exact ⟨_, _, rfl, rfl, (HS.out (m / 10) d HM.out.1 (by omega)).1, by omega, by omega⟩
          case measure => rw [show emptyV _ = 0 from emptyV_no (HS.out (m / 10) d HM.out.1 (by omega)).2]; rcases HE.out with h | h <;> simp [Lib.intOf, h] <;> omega
    · have hne : (m != 0) = false := by
        by_cases h : m = 0
        · simpa using h
        · exact absurd (Or.inl h) hgo
      have hm0 : m = 0 := by simpa using hne
      have hts : 0 < t.size := by
        rcases Nat.eq_zero_or_pos t.size with h | h
        · exact absurd (Or.inr h) hgo
        · exact h
      have hte := isEmpty_not hts
      subst hm0
      have HG := Lib.hid (HF.out t HR.out hts)
      clear hgo
      by_cases hn : n < 0
      · go_wp2
        go_ret
        exact ⟨ret_str (HG.out.1 hn), Below.refl _ _⟩
      · go_wp2
        go_ret
        exact ⟨ret_str (HG.out.2 hn), Below.refl _ _⟩

theorem Format_any (n : Int) (h0 : -9223372036854775808 ≤ n) (h1 : n ≤ 9223372036854775807) (w : World) (htab : Lib.TabIs Tryd.prog w "internal/strconv.uint64pow10" .u64 Lib.pow10Tab) :
    Calls Tryd.prog 29 #[.int .i64 n] w fun e w' => e = .returned (.string ⟨(Lib.itoa n).toArray⟩) ∧ Below w.heap.size w w' := by
  go_enter Tryd.func29, Tryd.ntmps29
  go_wp2_with fail
  refine (Tryd.strconv_Itoa n h0 h1 w htab).mono ?_
  rintro e w1 ⟨rfl, k, os, rfl⟩
  go_wp2
  go_ret
  exact ⟨rfl, Lib.below_grow _ w (Nat.le_refl _) k os⟩

/-! ### the hash of a string -/
def fnvS (h : Int) (c : UInt8) : Int := IntKind.u64.wrap (bits .xor .u64 h (c.toNat : Int) * 1099511628211)
def fnv (l : List UInt8) : Int := l.foldl fnvS 14695981039346656037
theorem fnv_step (s : ByteArray) (k : Nat) (h : k < s.size) : fnv (s.data.toList.take (k + 1)) = IntKind.u64.wrap (bits .xor .u64 (fnv (s.data.toList.take k)) (s[k].toNat : Int) * 1099511628211) := by
  unfold fnv
  rw [List.take_add_one, byte_at s k h, List.foldl_append]
  rfl
theorem wrap_pos (x : Int) : 0 ≤ IntKind.u64.wrap x := by rw [IntKind.wrap_u64]; omega
theorem fnv_pos (l : List UInt8) : 0 ≤ fnv l := by
  unfold fnv
  have : ∀ (l : List UInt8) (h : Int), 0 ≤ h → 0 ≤ l.foldl fnvS h := by
    intro l
    induction l with
    | nil => intro h hh; exact hh
    | cons c r ih => intro h _; exact ih _ (wrap_pos _)
  exact this l _ (by omega)
set_option maxHeartbeats 1000000 in
theorem Sum_any (s : ByteArray) (w : World) (hs : s.size ≤ 9223372036854775807) : Calls Tryd.prog 36 #[.string s] w fun e w' => e = .returned (.int .u64 (fnv s.data.toList)) ∧ w = w' := by
  go_enter Tryd.func36, Tryd.ntmps36
  go_wp2_with fail
  go_loop [3, 4, 7] (fun h _ i => ∃ k : Nat, k ≤ s.size ∧ i = .int .i64 k ∧ h = .int .u64 (fnv (s.data.toList.take k))) (fun _ _ i => s.size - (Lib.intOf i).toNat)
  case atStart => exact ⟨0, Nat.zero_le _, rfl, rfl⟩
  case round =>
    obtain ⟨k, hk, rfl, rfl⟩ := hrel
    by_cases hp : k < s.size
    · have HS := Lib.hid (fnv_step s k hp)
      have hbw : IntKind.u64.wrap (s[k].toNat : Int) = (s[k].toNat : Int) := by rw [IntKind.wrap_u64]; have := s[k].toNat_lt; omega
      generalize fnv (s.data.toList.take k) = h at *
      go_wp2_with fail
      go_round
      case rel => exact ⟨k + 1, by omega, by go_num, by rw [HS.out]⟩
      case measure => simp [Lib.intOf]; omega
    · obtain rfl : k = s.size := by omega
      rw [take_size]
      go_wp2_with fail
      go_ret
      exact ⟨rfl, rfl⟩
set_option maxHeartbeats 1000000 in
theorem rSum_any (s : ByteArray) (w : World) (hs : s.size ≤ 9223372036854775807) : Calls Tryd.prog 39 #[.string s] w fun e w' => e = .returned (.int .u64 (fnv s.data.toList)) ∧ w = w' := by
  go_enter Tryd.func39, Tryd.ntmps39
  go_wp2_with fail
  go_loop [3, 4] (fun h i => ∃ k : Nat, k ≤ s.size ∧ i = .int .i64 k ∧ h = .int .u64 (fnv (s.data.toList.take k))) (fun _ i => s.size - (Lib.intOf i).toNat)
  case atStart => exact ⟨0, Nat.zero_le _, rfl, rfl⟩
  case round =>
    obtain ⟨k, hk, rfl, rfl⟩ := hrel
    by_cases hp : k < s.size
    · have HS := Lib.hid (fnv_step s k hp)
      have hbw : IntKind.u64.wrap (s[k].toNat : Int) = (s[k].toNat : Int) := by rw [IntKind.wrap_u64]; have := s[k].toNat_lt; omega
      generalize fnv (s.data.toList.take k) = h at *
      go_wp2_with fail
      go_round
      case rel => exact ⟨k + 1, by omega, by go_num, by rw [HS.out]⟩
      case measure => simp [Lib.intOf]; omega
    · obtain rfl : k = s.size := by omega
      rw [take_size]
      go_wp2_with fail
      go_ret
      exact ⟨rfl, rfl⟩

def bktI (l : List UInt8) (n : Int) : Int × Int := if 1 ≤ n ∧ n ≤ 1000000000000 then (fnv l % n, 0) else (0, 2)
set_option maxHeartbeats 1000000 in
theorem Bucket_any (s : ByteArray) (n : Int) (w : World) (hs : s.size ≤ 9223372036854775807) : Calls Tryd.prog 28 #[.string s, .int .i64 n] w fun e w' => e = .returned (tup2 (bktI s.data.toList n)) ∧ w = w' := by
  rcases Int.lt_or_le n 1 with h1 | h1
  · have HD := Lib.hid (show bktI s.data.toList n = (0, 2) by unfold bktI; rw [if_neg (by omega)])
    go_enter Tryd.func28, Tryd.ntmps28
    go_wp2_with fail
    all_goals try (exfalso; omega)
    go_ret2
    exact ⟨ret_tup2 HD.out, rfl⟩
  · rcases Int.lt_or_le 1000000000000 n with h2 | h2
    · have HD := Lib.hid (show bktI s.data.toList n = (0, 2) by unfold bktI; rw [if_neg (by omega)])
      have h3 : decide (1000000000000 < n) = true := decide_eq_true h2
      go_enter Tryd.func28, Tryd.ntmps28
      go_wp2_with fail
      all_goals try (exfalso; omega)
      go_ret2
      exact ⟨ret_tup2 HD.out, rfl⟩
    · have HD := Lib.hid (show bktI s.data.toList n = (fnv s.data.toList % n, 0) by unfold bktI; rw [if_pos ⟨h1, h2⟩])
      have h3 : decide (1000000000000 < n) = false := decide_eq_false (by omega)
      have hp := fnv_pos s.data.toList
      have hm1 := Int.emod_nonneg (fnv s.data.toList) (show n ≠ 0 by omega)
      have hm2 := Int.emod_lt_of_pos (fnv s.data.toList) (show 0 < n by omega)
      have h0 : (n == 0) = false := beq_eq_false_iff_ne.2 (by omega)
      go_enter Tryd.func28, Tryd.ntmps28
      go_wp2_with fail
      all_goals try (exfalso; omega)
      refine (Sum_any s _ hs).mono ?_
      rintro e w1 ⟨rfl, rfl⟩
      generalize fnv s.data.toList = h at *
      go_wp2_with fail
      go_ret2
      exact ⟨ret_tup2 HD.out, rfl⟩
set_option maxHeartbeats 1000000 in
theorem rBucket_any (s : ByteArray) (n : Int) (w : World) (hs : s.size ≤ 9223372036854775807) : Calls Tryd.prog 31 #[.string s, .int .i64 n] w fun e w' => e = .returned (tup2 (bktI s.data.toList n)) ∧ w = w' := by
  rcases Int.lt_or_le n 1 with h1 | h1
  · have HD := Lib.hid (show bktI s.data.toList n = (0, 2) by unfold bktI; rw [if_neg (by omega)])
    go_enter Tryd.func31, Tryd.ntmps31
    go_wp2_with fail
    all_goals try (exfalso; omega)
    go_ret2
    exact ⟨ret_tup2 HD.out, rfl⟩
  · rcases Int.lt_or_le 1000000000000 n with h2 | h2
    · have HD := Lib.hid (show bktI s.data.toList n = (0, 2) by unfold bktI; rw [if_neg (by omega)])
      have h3 : decide (1000000000000 < n) = true := decide_eq_true h2
      go_enter Tryd.func31, Tryd.ntmps31
      go_wp2_with fail
      all_goals try (exfalso; omega)
      go_ret2
      exact ⟨ret_tup2 HD.out, rfl⟩
    · have HD := Lib.hid (show bktI s.data.toList n = (fnv s.data.toList % n, 0) by unfold bktI; rw [if_pos ⟨h1, h2⟩])
      have h3 : decide (1000000000000 < n) = false := decide_eq_false (by omega)
      have hp := fnv_pos s.data.toList
      have hm1 := Int.emod_nonneg (fnv s.data.toList) (show n ≠ 0 by omega)
      have hm2 := Int.emod_lt_of_pos (fnv s.data.toList) (show 0 < n by omega)
      have h0 : (n == 0) = false := beq_eq_false_iff_ne.2 (by omega)
      go_enter Tryd.func31, Tryd.ntmps31
      go_wp2_with fail
      all_goals try (exfalso; omega)
      refine (rSum_any s _ hs).mono ?_
      rintro e w1 ⟨rfl, rfl⟩
      generalize fnv s.data.toList = h at *
      go_wp2_with fail
      go_ret2
      exact ⟨ret_tup2 HD.out, rfl⟩
end Go.Proofs.YtefaojbfoboikaaDoor
