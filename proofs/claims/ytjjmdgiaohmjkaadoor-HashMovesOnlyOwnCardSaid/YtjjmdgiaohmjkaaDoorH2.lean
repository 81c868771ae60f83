/- The walks of the reference's digit, Unhex and Crc. -/
import Derived.Test.YtjjmdgiaohmjkaaDoorH1
namespace Go.Proofs.YtjjmdgiaohmjkaaDoor
open Go.RowKit
open Go.Sort (grow)

/-- The place of a digit among the digits, or -1. -/
def dgI (c : UInt8) : Int := if hlv c < 16 then hlv c else -1
abbrev hexS : ByteArray := ⟨#[48, 49, 50, 51, 52, 53, 54, 55, 56, 57, 97, 98, 99, 100, 101, 102]⟩
theorem hexS_size : hexS.size = 16 := rfl
theorem hexS_fin : ∀ k : Fin 16, ∀ c : Fin 256, ((hexS.data.toList.getD k.val 0).toNat = c.val ↔ hlv (UInt8.ofNat c.val) = k.val) := by decide +kernel
theorem hexS_at {k : Nat} (hk : k < 16) (c : UInt8) : (hexS[k]'(by rw [hexS_size]; exact hk)).toNat = c.toNat ↔ hlv c = k := by
  have h := hexS_fin ⟨k, hk⟩ ⟨c.toNat, c.toNat_lt⟩
  rw [u8_fin] at h
  have e : hexS.data.toList.getD k 0 = hexS[k]'(by rw [hexS_size]; exact hk) := by
    rw [List.getD_eq_getElem?_getD, byte_at hexS k (by rw [hexS_size]; exact hk)]; rfl
  rw [← e]
  exact h
theorem dg_yes {c : UInt8} {k : Nat} (h : hlv c = k) (hk : k < 16) : (k : Int) = dgI c := by unfold dgI; rw [h, if_pos hk]
theorem dg_no {c : UInt8} (h : ∀ j, j < 16 → hlv c ≠ j) : (-1 : Int) = dgI c := by
  unfold dgI
  rw [if_neg (fun hh => h _ hh rfl)]
set_option maxHeartbeats 1000000 in
theorem digit_any (c : UInt8) (w : World) : Calls Tryd.prog 31 #[.int .u8 (c.toNat : Int)] w fun e w' => e = .returned (.int .i64 (dgI c)) ∧ w = w' := by
  have HQ := Lib.hid (fun k (hk : k < 16) => hexS_at hk c)
  have hz := hexS_size
  go_enter Tryd.func31, Tryd.ntmps31
  go_wp2_with fail
  go_loop [3] (fun i => ∃ k : Nat, k ≤ 16 ∧ i = .int .i64 k ∧ ∀ j, j < k → hlv c ≠ j) (fun i => 16 - (intOf i).toNat)
  case atStart => exact ⟨0, Nat.zero_le _, rfl, fun j hj => absurd hj (by omega)⟩
  case round =>
    obtain ⟨k, hk, rfl, hno⟩ := hrel
    have HN := Lib.hid hno
    clear hno
    by_cases hlt : k < 16
    · have h1 := HQ.out k hlt
      generalize hb : hexS[k]'(by rw [hexS_size]; exact hlt) = b at *
      by_cases he : hlv c = k
      · have HE := Lib.hid (dg_yes he hlt)
        have hbc : ((b.toNat : Int) == (c.toNat : Int)) = true := beq_iff_eq.2 (by rw [h1.2 he])
        clear h1 he
        go_wp2_with fail
        go_ret
        exact ⟨ret_int HE.out, rfl⟩
      · have HE := Lib.hid he
        have hbc : ((b.toNat : Int) == (c.toNat : Int)) = false := beq_eq_false_iff_ne.2 (fun e => he (h1.1 (by omega)))
        clear h1 he
        go_wp2_with fail
        go_round
        case rel => exact ⟨k + 1, by omega, by go_num, fun j hj => by
          rcases Nat.lt_or_ge j k with h | h
          · exact HN.out j h
          · rw [show j = k by omega]; exact HE.out⟩
        case measure => simp [intOf]; omega
    · obtain rfl : k = 16 := by omega
      have HE := Lib.hid (dg_no HN.out)
      go_wp2_with fail
      go_ret
      exact ⟨ret_int HE.out, rfl⟩

/-! ### the reference's Unhex -/
def tup2u (x : Int × Int) : Value := .tuple #[.int .u64 x.1, .int .i64 x.2]
theorem ret_tup2u {x : Int × Int} {a b : Int} (h : x = (a, b)) : Ending.returned (.tuple #[.int .u64 a, .int .i64 b]) = .returned (tup2u x) := by subst h; rfl
theorem unh_short {l : List UInt8} (h : l.length ≠ 16) : unhI l = (0, 1) := by unfold unhI; rw [if_neg (fun hh => h hh.1)]
theorem unh_bad {l : List UInt8} {k : Nat} {c : UInt8} (hk : l[k]? = some c) (h : 16 ≤ hlv c) : unhI l = (0, 1) := by
  unfold unhI
  rw [if_neg]
  rintro ⟨-, ha⟩
  have := List.all_eq_true.1 ha c (List.mem_of_getElem? hk)
  simp at this; omega
theorem pow_bd {m k : Nat} (h : m < 16 ^ k) (hk : k ≤ 15) : m < 1152921504606846976 := by
  have : (16 : Nat) ^ k ≤ 16 ^ 15 := Nat.pow_le_pow_right (by omega) hk
  have e : (16 : Nat) ^ 15 = 1152921504606846976 := by decide
  omega
set_option maxHeartbeats 1000000 in
theorem rUnhex_any (s : ByteArray) (w : World) (hs : s.size ≤ 9223372036854775807) : Calls Tryd.prog 11 #[.string s] w fun e w' => e = .returned (tup2u (unhI s.data.toList)) ∧ w = w' := by
  by_cases h16 : s.size = 16
  · have hb : ((s.size : Int) != 16) = false := by simp [h16]
    have HZ := Lib.hid h16
    have hz1 : s.size ≤ 16 := by omega
    have hz2 : 16 ≤ s.size := by omega
    clear h16
    go_enter Tryd.func11, Tryd.ntmps11
    go_wp2_with fail
    go_loop [4, 5] (fun n i => ∃ k m : Nat, k ≤ 16 ∧ i = .int .i64 k ∧ n = .int .u64 m ∧ m = valX hlv (s.data.toList.take k) ∧ m < 16 ^ k ∧ allX hlv (s.data.toList.take k) = true) (fun _ i => 16 - (intOf i).toNat)
    case atStart => exact ⟨0, 0, Nat.zero_le _, rfl, rfl, rfl, by decide, rfl⟩
    case round =>
      obtain ⟨k, m, hk, rfl, rfl, hm, hlt, ha⟩ := hrel
      have HM := Lib.hid (And.intro hm (And.intro hlt ha))
      clear hm hlt ha
      by_cases hlt : k < 16
      · have hks : k < s.size := by omega
        have HT := Lib.hid (take_snoc s k hks)
        have HB := Lib.hid (byte_at s k hks)
        go_wp2_with fail
        refine (digit_any s[k] _).mono ?_
        rintro e wq ⟨rfl, rfl⟩
        generalize s[k] = c at *
        by_cases hd : hlv c < 16
        · have hmb := pow_bd HM.out.2.1 (by omega)
          have HD := Lib.hid (show hlv c < 16 ∧ m * 16 + hlv c < 16 ^ (k + 1) by refine ⟨hd, ?_⟩; have := HM.out.2.1; rw [Nat.pow_succ]; omega)
          have ho := o64 m (hlv c) (by omega) hd
          rw [show dgI c = ((hlv c : Nat) : Int) from if_pos hd]
          have HV := Lib.hid (show valX hlv (s.data.toList.take (k + 1)) = m * 16 + hlv c ∧ allX hlv (s.data.toList.take (k + 1)) = true by
            rw [HT.out, valX_snoc, allX_snoc, ← HM.out.1, HM.out.2.2]
            exact ⟨rfl, by simpa using hd⟩)
          generalize hlv c = d at *
          have hmi : (m : Int) ≤ 1152921504606846975 := by omega
          clear hmb
          have HO := Lib.hid ho
          clear ho
          go_wp2_with fail
          rw [HO.out]
          go_round
          case rel => exact ⟨k + 1, m * 16 + d, by omega, by go_num, rfl, HV.out.1.symm, HD.out.2, HV.out.2⟩
          case measure => simp [intOf]; omega
        · have HE := Lib.hid (unh_bad HB.out (by omega))
          rw [show dgI c = -1 from if_neg hd]
          go_wp2_with fail
          go_ret2
          exact ⟨ret_tup2u HE.out, rfl⟩
      · obtain rfl : k = 16 := by omega
        have HE := Lib.hid (show unhI s.data.toList = ((m : Int), 0) by
          have h1 := HM.out.1
          have h2 := HM.out.2.2
          have h3 : s.data.toList.take 16 = s.data.toList := by have := take_size s; rw [HZ.out] at this; exact this
          rw [h3] at h1 h2
          unfold unhI
          rw [if_pos ⟨by rw [size_len]; exact HZ.out, h2⟩, h1])
        go_wp2_with fail
        go_ret2
        exact ⟨ret_tup2u HE.out, rfl⟩
  · have HE := Lib.hid (unh_short (l := s.data.toList) (by rw [size_len]; exact h16))
    have hb : ((s.size : Int) != 16) = true := by simp; omega
    clear h16
    go_enter Tryd.func11, Tryd.ntmps11
    go_wp2_with fail
    go_ret2
    exact ⟨ret_tup2u HE.out, rfl⟩

/-! ### the reference's Crc -/
theorem crN_odd {r : Nat} {k : Nat} (h : crN k r % 2 = 1) : crN (k + 1) r = (crN k r / 2) ^^^ 3988292384 := by show crf _ = _; unfold crf; rw [if_pos h]
theorem crN_ev {r : Nat} {k : Nat} (h : crN k r % 2 = 0) : crN (k + 1) r = crN k r / 2 := by show crf _ = _; unfold crf; rw [if_neg (by omega)]
theorem crL_step (s : ByteArray) (k : Nat) (h : k < s.size) : crL (s.data.toList.take (k + 1)) = crN 8 (crL (s.data.toList.take k) ^^^ s[k].toNat) := by
  rw [take_snoc s k h, crL_snoc]; rfl
set_option maxHeartbeats 1000000 in
theorem rCrc_any (s : ByteArray) (w : World) (hs : s.size ≤ 9223372036854775807) : Calls Tryd.prog 19 #[.string s] w fun e w' => e = .returned (.int .u32 (crcI s.data.toList)) ∧ w = w' := by
  go_enter Tryd.func19, Tryd.ntmps19
  go_wp2_with fail
  go_loop [3, 4] (fun h i => ∃ k m : Nat, k ≤ s.size ∧ i = .int .i64 k ∧ h = .int .u32 m ∧ m = crL (s.data.toList.take k) ∧ m < 4294967296) (fun _ i => s.size - (intOf i).toNat)
  case atStart => exact ⟨0, 4294967295, Nat.zero_le _, rfl, rfl, rfl, by decide⟩
  case round =>
    obtain ⟨k, m, hk, rfl, rfl, hm, hml⟩ := hrel
    by_cases hp : k < s.size
    · have HS := Lib.hid (crL_step s k hp)
      rw [← hm] at HS
      have hbl := s[k].toNat_lt
      have hbw : (s[k].toNat : Int) % 4294967296 = (s[k].toNat : Int) := by omega
      have hx := x32 m s[k].toNat hml (by omega)
      have hxl : m ^^^ s[k].toNat < 4294967296 := Nat.xor_lt_two_pow (n := 32) (by omega) (by omega)
      have HX := Lib.hid hx
      have HM := Lib.hid hm
      clear hx hm
      go_wp2_with fail
      rw [HX.out]
      generalize m ^^^ s[k].toNat = r at *
      go_loop [3, 5] (fun h j => ∃ q t : Nat, q ≤ 8 ∧ j = .int .i64 q ∧ h = .int .u32 t ∧ t = crN q r ∧ t < 4294967296) (fun _ j => 8 - (intOf j).toNat)
      case atStart => exact ⟨0, r, by omega, rfl, rfl, rfl, hxl⟩
      case round =>
        obtain ⟨q, t, hq, rfl, rfl, ht, htl⟩ := hrel
        by_cases hq8 : q < 8
        · have ha := a32 t htl
          rcases Nat.mod_two_eq_zero_or_one t with h2 | h2
          · have HT := Lib.hid (show crN (q + 1) r = t / 2 by rw [ht]; exact crN_ev (by rw [← ht]; exact h2))
            rw [h2] at ha
            have HA := Lib.hid ht
            clear ht h2
            go_wp2_with fail
            go_round
            case rel => exact ⟨q + 1, t / 2, by omega, by go_num, by go_num, HT.out.symm, by omega⟩
            case measure => simp [intOf]; omega
          · have HT := Lib.hid (show crN (q + 1) r = (t / 2) ^^^ 3988292384 by rw [ht]; exact crN_odd (by rw [← ht]; exact h2))
            have hx2 := x32 (t / 2) 3988292384 (by omega) (by omega)
            have HL : Hid ((t / 2) ^^^ 3988292384 < 4294967296) := Nat.xor_lt_two_pow (n := 32) (by omega) (by omega)
            rw [h2] at ha
            have HA := Lib.hid ht
            have HX2 := Lib.hid hx2
            clear ht h2 hx2
            go_wp2_with fail
            go_round
            case rel => exact ⟨q + 1, (t / 2) ^^^ 3988292384, by omega, by go_num, by rw [← HX2.out]; go_num, HT.out.symm, HL.out⟩
            case measure => simp [intOf]; omega
        · obtain rfl : q = 8 := by omega
          have HT := Lib.hid ht
          clear ht
          go_wp2_with fail
          go_round
          case rel => exact ⟨k + 1, t, by omega, by go_num, rfl, by rw [HS.out, HT.out], htl⟩
          case measure => simp [intOf]; omega
    · obtain rfl : k = s.size := by omega
      rw [take_size] at hm
      have HN := Lib.hid (show bits .xor .u32 4294967295 (m : Int) = crcI s.data.toList by rw [n32 m hml, hm]; rfl)
      clear hm
      go_wp2_with fail
      go_ret
      exact ⟨ret_int HN.out, rfl⟩
end Go.Proofs.YtjjmdgiaohmjkaaDoor
