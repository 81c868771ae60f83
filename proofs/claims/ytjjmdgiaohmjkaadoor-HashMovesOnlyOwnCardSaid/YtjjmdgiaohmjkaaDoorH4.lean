/- The walk of ParseUint at base 16 and 16 bytes, and of Unhex. -/
import Derived.Test.YtjjmdgiaohmjkaaDoorH3
import Derived.Lib.Strings
import Derived.Lib.ConvBytes
import Derived.Lib.AtoiAllMem
import Derived.BigCall
import Derived.BigGuard
namespace Go.Proofs.YtjjmdgiaohmjkaaDoor
open Go.RowKit
open Go.Sort (grow)

theorem or8 (a : Nat) (ha : a < 256) : bits .or .u8 (a : Int) 32 = ((a ||| 32 : Nat) : Int) := by
  have hx : a ||| 32 < 2 ^ 8 := Nat.or_lt_two_pow (by omega) (by omega)
  show IntKind.u8.wrap ((BitVec.ofInt 8 (a : Int) ||| BitVec.ofInt 8 ((32 : Nat) : Int)).toNat : Int) = _
  rw [BitVec.toNat_or, ofInt_nat (n := 8) (by omega), ofInt_nat (n := 8) (by omega), IntKind.wrap_u8]
  omega
theorem low_fin : ∀ c : Fin 256, (c.val ||| 32) < 256 ∧ (48 ≤ c.val ∧ c.val ≤ 57 → hxv (UInt8.ofNat c.val) = c.val - 48) ∧ (¬ (48 ≤ c.val ∧ c.val ≤ 57) → 97 ≤ (c.val ||| 32) ∧ (c.val ||| 32) ≤ 122 → hxv (UInt8.ofNat c.val) = (c.val ||| 32) - 87) ∧ (¬ (48 ≤ c.val ∧ c.val ≤ 57) → ¬ (97 ≤ (c.val ||| 32) ∧ (c.val ||| 32) ≤ 122) → hxv (UInt8.ofNat c.val) = 99) := by decide +kernel
theorem low_c (c : UInt8) : (c.toNat ||| 32) < 256 ∧ (48 ≤ c.toNat ∧ c.toNat ≤ 57 → hxv c = c.toNat - 48) ∧ (¬ (48 ≤ c.toNat ∧ c.toNat ≤ 57) → 97 ≤ (c.toNat ||| 32) ∧ (c.toNat ||| 32) ≤ 122 → hxv c = (c.toNat ||| 32) - 87) ∧ (¬ (48 ≤ c.toNat ∧ c.toNat ≤ 57) → ¬ (97 ≤ (c.toNat ||| 32) ∧ (c.toNat ||| 32) ≤ 122) → hxv c = 99) := by
  have h := low_fin ⟨c.toNat, c.toNat_lt⟩
  rw [u8_fin] at h
  exact h
/-- The code's answer: the number, or (0, a syntax error). -/
def puE (l : List UInt8) : Value := if allX hxv l = true then .tuple #[.int .u64 (valX hxv l : Nat), .nilIface] else .tuple #[.int .u64 0, .iface 86 (.int .i64 2)]
theorem pu_bad {l : List UInt8} {k : Nat} {c : UInt8} (hk : l[k]? = some c) (h : 16 ≤ hxv c) : puE l = .tuple #[.int .u64 0, .iface 86 (.int .i64 2)] := by
  unfold puE
  rw [if_neg]
  intro ha
  have := List.all_eq_true.1 ha c (List.mem_of_getElem? hk)
  simp at this; omega
theorem ret_val {a b : Value} (h : a = b) : Ending.returned a = .returned b := by rw [h]
set_option maxHeartbeats 8000000 in
set_option maxRecDepth 100000 in
theorem PU_any (t : ByteArray) (h16 : t.size = 16) (w : World) :
    Calls Tryd.prog 45 #[.string t, .int .i64 16, .int .i64 64] w fun e w' => e = .returned (puE t.data.toList) ∧ Below w.heap.size w w' := by
  have hemp : t.toList.isEmpty = false := by
    rw [Lib.toList_data]
    cases e : t.data.toList with
    | nil => have := size_len t; rw [e] at this; simp at this; omega
    | cons a b => rfl
  have hcv := Lib.run_convert_string_bytes (P := Tryd.prog) w 9 58 5 t (u := .string) Tryd.underlying9 Tryd.underlying58 Tryd.underlying5
  have hB : ∀ j, j < t.size → (Lib.bytesWorld w 5 t).cell? ⟨w.heap.size, j, none⟩ = some (.int .u8 (t.data.toList.getD j 0).toNat) := fun j hj => Lib.bytesWorld_cell w 5 t j hj
  have HBW := Lib.hid (Lib.bytesWorld_below w 5 t)
  obtain ⟨W1, hW1⟩ : ∃ W1, W1 = Lib.bytesWorld w 5 t := ⟨_, rfl⟩
  rw [← hW1] at hcv hB HBW
  clear hW1
  have HCB := Lib.hid hB
  have HZ := Lib.hid h16
  have hz1 : (t.size : Int) = 16 := by omega
  have hmv : IntKind.u64.wrap (IntKind.u64.wrap 18446744073709551616 - 1) = 18446744073709551615 := by
    rw [IntKind.wrap_u64, IntKind.wrap_u64]
    decide
  clear hB h16
  go_enter Tryd.func45, Tryd.ntmps45
  go_wp2
  go_loop [12, 13, 101] (fun vu vn vi => ∃ (k m : Nat) (a : Int), vu = .bool false ∧ vn = .int .u64 a ∧ vi = .int .i64 k ∧ k ≤ 16 ∧ Hid (a = (m : Int) ∧ m = valX hxv (t.data.toList.take k) ∧ m < 16 ^ k ∧ allX hxv (t.data.toList.take k) = true)) (fun _ _ vi => 16 - (intOf vi).toNat)
  case atStart => exact ⟨0, 0, 0, rfl, rfl, rfl, by omega, rfl, rfl, by decide, rfl⟩
  case round =>
    obtain ⟨k, m, a, rfl, rfl, rfl, hk, HH⟩ := hrel
    by_cases hlt : k < 16
    · have hks : k < t.size := by have := HZ.out; omega
      have hm := pow_bd HH.out.2.2.1 (by omega)
      have a0 : 0 ≤ a := by have := HH.out.1; omega
      have a1 : a < 1152921504606846976 := by have := HH.out.1; omega
      clear hm
      have hc := HCB.out k hks
      have hg : t.data.toList.getD k 0 = t[k] := by rw [List.getD_eq_getElem?_getD, byte_at t k hks]; rfl
      rw [hg] at hc
      have HT := Lib.hid (take_snoc t k hks)
      have HQ := Lib.hid (byte_at t k hks)
      generalize t[k] = c at *
      have hc256 : c.toNat < 256 := c.toNat_lt
      obtain ⟨l0, l1, l2, l3⟩ := low_c c
      have hor := or8 c.toNat hc256
      have hki : (k : Int) < 16 := by omega
      have hk0 : (0 : Int) ≤ k := by omega
      clear hg
      have HS := fun (h : hxv c < 16) => Lib.hid (show (a * 16 + (hxv c : Int) = ((m * 16 + hxv c : Nat) : Int)) ∧ m * 16 + hxv c = valX hxv (t.data.toList.take (k + 1)) ∧ m * 16 + hxv c < 16 ^ (k + 1) ∧ allX hxv (t.data.toList.take (k + 1)) = true by
        obtain ⟨e1, e2, e3, e4⟩ := HH.out
        refine ⟨by omega, by rw [HT.out, valX_snoc, ← e2], by rw [Nat.pow_succ]; omega, by rw [HT.out, allX_snoc, e4]; simpa using h⟩)
      have HBD := fun (h : 16 ≤ hxv c) => Lib.hid (pu_bad HQ.out h)
      have HSS := Lib.hid (And.intro HS HBD)
      clear HS HBD
      generalize (c.toNat ||| 32) = L at *
      have hmul : IntKind.u64.wrap (a * 16) = a * 16 := by rw [IntKind.wrap_u64]; omega
      have hcut : decide (1152921504606846976 ≤ a) = false := decide_eq_false (by omega)
      obtain ⟨ci, hci⟩ : ∃ ci : Int, (c.toNat : Int) = ci := ⟨_, rfl⟩
      obtain ⟨Li, hLi⟩ : ∃ Li : Int, (L : Int) = Li := ⟨_, rfl⟩
      rw [hci] at hc hor
      rw [hLi] at hor
      by_cases hdig : 48 ≤ c.toNat ∧ c.toNat ≤ 57
      · have hv := l1 hdig
        have HN := Lib.hid (HSS.out.1 (by omega)).out
        have d1 : decide (48 ≤ ci) = true := decide_eq_true (by omega)
        have d2 : decide (ci ≤ 57) = true := decide_eq_true (by omega)
        have d3 : (ci == 95) = false := beq_eq_false_iff_ne.2 (by omega)
        have d4 : decide (16 ≤ ci - 48) = false := decide_eq_false (by omega)
        have d5 : decide (a * 16 + (ci - 48) < a * 16) = false := decide_eq_false (by omega)
        have d6 : decide (18446744073709551615 < a * 16 + (ci - 48)) = false := decide_eq_false (by omega)
        have b1 : 48 ≤ ci := by omega
        have b2 : ci ≤ 57 := by omega
        have HN2 := Lib.hid (show a * 16 + (ci - 48) = a * 16 + ((hxv c : Nat) : Int) by rw [hv]; omega)
        clear l1 l2 l3 hv hdig hci hLi hor l0 hc256
        go_wp2
        refine ⟨⟨k + 1, m * 16 + hxv c, a * 16 + (ci - 48), rfl, rfl, by go_num, by omega, by rw [HN2.out]; exact HN.out⟩, by simp [intOf]; omega⟩
      · have d12 : (decide (48 ≤ ci) = false) ∨ (decide (48 ≤ ci) = true ∧ decide (ci ≤ 57) = false) := by
          by_cases h : 48 ≤ ci
          · exact .inr ⟨decide_eq_true h, decide_eq_false (fun hh => hdig (by omega))⟩
          · exact .inl (decide_eq_false h)
        have hlb : 0 ≤ Li := by omega
        have hub : Li < 256 := by omega
        obtain ⟨b, hb⟩ : ∃ b, (ci == 95) = b := ⟨_, rfl⟩
        by_cases hlet : 97 ≤ L ∧ L ≤ 122
        · have hv := l2 hdig hlet
          have e1 : decide (97 ≤ Li) = true := decide_eq_true (by omega)
          have e2 : decide (Li ≤ 122) = true := decide_eq_true (by omega)
          have b1 : 97 ≤ Li := by omega
          have b2 : Li ≤ 122 := by omega
          by_cases hs : L < 103
          · have HN := Lib.hid (HSS.out.1 (by omega)).out
            have d4 : decide (16 ≤ Li - 97 + 10) = false := decide_eq_false (by omega)
            have d5 : decide (a * 16 + (Li - 97 + 10) < a * 16) = false := decide_eq_false (by omega)
            have d6 : decide (18446744073709551615 < a * 16 + (Li - 97 + 10)) = false := decide_eq_false (by omega)
            have HN2 := Lib.hid (show a * 16 + (Li - 97 + 10) = a * 16 + ((hxv c : Nat) : Int) by rw [hv]; omega)
            have hw : IntKind.u64.wrap (a * 16 + (Li - 97 + 10)) = a * 16 + (Li - 97 + 10) := by rw [IntKind.wrap_u64]; omega
            clear l1 l2 l3 hv hdig hci hLi l0 hc256 hlet hs
            rcases d12 with d1 | ⟨d1, d2⟩ <;> cases b
            all_goals
              go_wp2_with (go_at_call 59; refine (Tryd.internal_strconv_lower _ _).mono ?_; rintro e w' ⟨rfl, rfl⟩)
              refine ⟨⟨k + 1, m * 16 + hxv c, a * 16 + (Li - 97 + 10), rfl, rfl, by go_num, by omega, by rw [HN2.out]; exact HN.out⟩, by simp [intOf]; omega⟩
          · have HE := Lib.hid (HSS.out.2 (by omega)).out
            have d4 : decide (16 ≤ Li - 97 + 10) = true := decide_eq_true (by omega)
            clear l1 l2 l3 hv hdig hci hLi l0 hc256 hlet hs
            rcases d12 with d1 | ⟨d1, d2⟩ <;> cases b
            all_goals
              go_wp2_with (go_at_call 59; refine (Tryd.internal_strconv_lower _ _).mono ?_; rintro e w' ⟨rfl, rfl⟩)
              go_ret2
              exact ⟨ret_val HE.out.symm, HBW.out⟩
        · have hv := l3 hdig hlet
          have HE := Lib.hid (HSS.out.2 (by omega)).out
          have hdel : (decide (97 ≤ Li) = false) ∨ (decide (97 ≤ Li) = true ∧ decide (Li ≤ 122) = false) := by
            by_cases h : 97 ≤ Li
            · exact .inr ⟨decide_eq_true h, decide_eq_false (fun hh => hlet (by omega))⟩
            · exact .inl (decide_eq_false h)
          clear l1 l2 l3 hdig hlet hv hci hLi l0 hc256
          rcases d12 with d1 | ⟨d1, d2⟩ <;> rcases hdel with hdl | ⟨hdl, hdl2⟩ <;> cases b
          all_goals
            go_wp2_with (go_at_call 59; refine (Tryd.internal_strconv_lower _ _).mono ?_; rintro e w' ⟨rfl, rfl⟩)
            go_ret2
            exact ⟨ret_val HE.out.symm, HBW.out⟩
    · obtain rfl : k = 16 := by omega
      have HE := Lib.hid (show Value.tuple #[.int .u64 a, .nilIface] = puE t.data.toList by
        obtain ⟨e1, e2, -, e4⟩ := HH.out
        have h3 : t.data.toList.take 16 = t.data.toList := by have := take_size t; rw [HZ.out] at this; exact this
        rw [h3] at e2 e4
        unfold puE
        rw [if_pos e4, e1, e2])
      go_wp2
      go_ret2
      exact ⟨ret_val HE.out, HBW.out⟩
end Go.Proofs.YtjjmdgiaohmjkaaDoor
