/- The walks of the two Parse. -/
import Derived.Test.YtpkekfhnpcjgkaaDoorH
import Derived.Test.YtpkekfhnpcjgkaaDoorB2
namespace Go.Proofs.YtpkekfhnpcjgkaaDoor
open Go.RowKit

theorem vI_bnd (n : Int) : vI n = bndB n := rfl
theorem parI_no {l : List UInt8} (h : decB l = false) : parI l = (0, 1) := by unfold parI; rw [h]; rfl
theorem parI_far {l : List UInt8} (h : decB l = true) (hb : bndB (valI l) = false) : parI l = (0, 2) := by unfold parI; rw [h, if_pos rfl, hb]; rfl
theorem parI_ok {l : List UInt8} (h : decB l = true) (hb : bndB (valI l) = true) : parI l = (valI l, 0) := by unfold parI; rw [h, if_pos rfl, hb]; rfl
set_option maxHeartbeats 400000 in
theorem Parse_any (s : ByteArray) (w : World) (hs : s.size ≤ 140737488351232) (hX : LaidW w) :
    Calls Tryd.prog 72 #[.string s] w fun e w' => e = .returned (tup2 (parI s.data.toList)) ∧ Below w.heap.size w w' := by
  obtain ⟨tp, p, hr⟩ := hX.rng
  have HR := Lib.hid hr
  clear hr hX
  go_enter Tryd.func72, Tryd.ntmps72
  go_wp2_with fail
  refine (decimal_any s _ (by omega)).mono ?_
  rintro e w1 ⟨rfl, rfl⟩
  cases hd : decB s.data.toList
  · have HD := Lib.hid (parI_no hd)
    clear hd
    go_wp2
    go_ret2
    exact ⟨ret_tup2 HD.out, Below.refl _ _⟩
  · rcases atoi_dec s.data.toList hd with ⟨ha, b1, b2⟩ | ⟨ha, ho⟩
    · have HA := Lib.hid (And.intro hd ha)
      clear hd ha
      go_wp2_with fail
      refine (Tryd.strconv_Atoi_ok s (by omega) _ HA.out.2 _).mono ?_
      rintro e w1 ⟨rfl, hw⟩
      have hb : Below w.heap.size w w1 := by
        rcases hw with rfl | ⟨t, rfl⟩
        · exact Below.refl _ _
        · exact Lib.bytesWorld_below _ _ _
      clear hw
      have hp1 := parI_ok HA.out.1
      have hp2 := parI_far HA.out.1
      have HP := Lib.hid (And.intro hp1 hp2)
      clear hp1 hp2 HA
      generalize valI s.data.toList = v at *
      go_wp2_with fail
      refine (Valid_any _ _).mono ?_
      rintro e w2 ⟨rfl, rfl⟩
      rw [vI_bnd]
      cases hv : bndB v
      · have HV := Lib.hid (HP.out.2 hv)
        clear hv
        go_wp2
        go_ret2
        exact ⟨ret_tup2 HV.out, hb⟩
      · have HV := Lib.hid (HP.out.1 hv)
        clear hv
        go_wp2
        go_ret2
        exact ⟨ret_tup2 HV.out, hb⟩
    · have HA := Lib.hid (And.intro hd ha)
      have HD := Lib.hid (parI_far hd (by rw [← vI_bnd, vI_false]; exact ho))
      clear hd ha
      go_wp2_with fail
      refine (Tryd.strconv_Atoi_range_var s (by omega) HA.out.2 tp p _ HR.out).mono ?_
      rintro e w1 ⟨N, rfl, _, _, hb⟩
      go_wp2
      go_ret2
      exact ⟨ret_tup2 HD.out, hb⟩

/-! ### the reference -/
def accF : List UInt8 → Nat
  | [] => 0
  | c :: r => if c.toNat = 45 then magF 0 r else magF 0 (c :: r)
theorem accF_cons (c : UInt8) (r : List UInt8) : accF (c :: r) = if c.toNat = 45 then magF 0 r else magF 0 (c :: r) := rfl
theorem accF_snoc (l : List UInt8) (c : UInt8) (h : l ≠ [] ∨ c.toNat ≠ 45) : accF (l ++ [c]) = accF l * 10 + (c.toNat - 48) := by
  cases l with
  | nil =>
    rw [List.nil_append, accF_cons, if_neg (by rcases h with h | h; exact absurd rfl h; exact h), magF_cons, magF_nil]; rfl
  | cons d r =>
    rw [List.cons_append, accF_cons, accF_cons]
    split
    · rw [magF_append, magF_cons, magF_nil]
    · rw [← List.cons_append, magF_append, magF_cons, magF_nil]
theorem accF_le (a b : List UInt8) : accF a ≤ accF (a ++ b) := by
  cases a with
  | nil => exact Nat.zero_le _
  | cons d r =>
    rw [List.cons_append, accF_cons, accF_cons]
    split
    · rw [magF_append]; exact magF_ge _ _
    · rw [← List.cons_append, magF_append]; exact magF_ge _ _
theorem acc_step (s : ByteArray) (k : Nat) (hk : k < s.size) (h : 0 < k ∨ s[k].toNat ≠ 45) : accF (s.data.toList.take (k + 1)) = accF (s.data.toList.take k) * 10 + (s[k].toNat - 48) := by
  rw [List.take_add_one, byte_at s k hk, Option.toList_some]
  refine accF_snoc _ _ ?_
  rcases h with h | h
  · refine .inl fun e => ?_
    have := congrArg List.length e
    rw [List.length_take, size_len, List.length_nil] at this
    omega
  · exact .inr h
theorem acc_first (s : ByteArray) (hk : 0 < s.size) (h : s[0].toNat = 45) : accF (s.data.toList.take (0 + 1)) = 0 := by
  rw [List.take_add_one, byte_at s 0 hk, Option.toList_some, List.take_zero, List.nil_append, accF_cons, if_pos h, magF_nil]
theorem take_size (s : ByteArray) : s.data.toList.take s.size = s.data.toList := by rw [← size_len, List.take_length]
theorem acc_le (s : ByteArray) (k : Nat) : accF (s.data.toList.take k) ≤ accF s.data.toList := by
  have := accF_le (s.data.toList.take k) (s.data.toList.drop k)
  rwa [List.take_append_drop] at this
theorem val_acc (s : ByteArray) (h0 : 0 < s.size) : valI s.data.toList = if s[0].toNat = 45 then -(accF s.data.toList : Int) else accF s.data.toList := by
  rw [list_of_bytes h0, valI_cons, accF_cons]
  split <;> rfl
theorem dec_byte (s : ByteArray) (hd : decB s.data.toList = true) (k : Nat) (hk : k < s.size) : (k = 0 ∧ s[k].toNat = 45) ∨ (48 ≤ s[k].toNat ∧ s[k].toNat ≤ 57) := by
  have h0 : 0 < s.size := by omega
  by_cases h45 : s[0].toNat = 45
  · by_cases hk0 : k = 0
    · subst hk0; exact .inl ⟨rfl, h45⟩
    · rw [decB_minus (by omega) h45, Bool.and_eq_true] at hd
      have := List.all_eq_true.1 hd.2 s[k] (by
        refine List.mem_of_getElem? (i := k - 1) ?_
        rw [List.getElem?_drop, show 1 + (k - 1) = k by omega, byte_at s k hk])
      exact .inr ((isDg_iff _).1 this)
  · rw [decB_plus h0 h45, Bool.and_eq_true] at hd
    exact .inr ((isDg_iff _).1 (List.all_eq_true.1 hd.2 s[k] (List.mem_of_getElem? (byte_at s k hk))))
theorem dec_size {s : ByteArray} (hd : decB s.data.toList = true) : 0 < s.size := by
  rcases Nat.eq_zero_or_pos s.size with h | h
  · rw [decB_empty h] at hd; cases hd
  · exact h
set_option maxHeartbeats 1000000 in
theorem rParse_any (s : ByteArray) (w : World) (hs : s.size ≤ 140737488351232) :
    Calls Tryd.prog 73 #[.string s] w fun e w' => e = .returned (tup2 (parI s.data.toList)) ∧ Below w.heap.size w w' := by
  cases hd : decB s.data.toList
  · have HD := Lib.hid (parI_no hd)
    have Hd := Lib.hid hd
    clear hd
    go_enter Tryd.func73, Tryd.ntmps73
    go_wp2_with fail
    all_goals
      refine (form_any s _ (by omega)).mono ?_
      rintro e w1 ⟨rfl, rfl⟩
      rw [Hd.out]
      go_wp2
      go_ret2
      exact ⟨ret_tup2 HD.out, Below.refl _ _⟩
  · have h0 := dec_size hd
    have hv := val_acc s h0
    have hf := parI_far hd
    have ho := parI_ok hd
    have hdb := dec_byte s hd
    have HF := Lib.hid (And.intro hd (And.intro hv (And.intro hf (And.intro ho hdb))))
    clear hd hv hf ho hdb
    have hcase : (s[0].toNat = 45 ∧ ((s[0].toNat : Int) == 45) = true) ∨ (¬ s[0].toNat = 45 ∧ ((s[0].toNat : Int) == 45) = false) := by
      by_cases h : s[0].toNat = 45
      · exact .inl ⟨h, beq_iff_eq.2 (by omega)⟩
      · exact .inr ⟨h, beq_eq_false_iff_ne.2 (by omega)⟩
    rcases hcase with ⟨h45, hb⟩ | ⟨h45, hb⟩
    all_goals
      go_enter Tryd.func73, Tryd.ntmps73
      go_wp2_with fail
      refine (form_any s _ (by omega)).mono ?_
      rintro e w1 ⟨rfl, rfl⟩
      rw [HF.out.1]
      go_wp2_with fail
      have H45 := Lib.hid h45
      clear h45
      go_loop [5, 6, 20] (fun n _ i => ∃ k : Nat, k ≤ s.size ∧ i = .int .i64 k ∧ n = .int .i64 (accF (s.data.toList.take k)) ∧ accF (s.data.toList.take k) ≤ 1000000000000) (fun _ _ i => s.size - (intOf i).toNat)
      case atStart => exact ⟨0, Nat.zero_le _, rfl, rfl, Nat.zero_le _⟩
      case round =>
        obtain ⟨k, hk, rfl, rfl, hle⟩ := hrel
        by_cases hlt : k < s.size
        · rcases HF.out.2.2.2.2 k hlt with ⟨rfl, hc⟩ | ⟨hc1, hc2⟩
          · have HS := Lib.hid (acc_first s hlt hc)
            have hc' : ((s[0].toNat : Int) == 45) = true := beq_iff_eq.2 (by omega)
            rw [List.take_zero]
            go_wp2
            go_round
            case rel => exact ⟨0 + 1, by omega, by go_num, by rw [HS.out]; rfl, by rw [HS.out]; omega⟩
            case measure => simp [intOf]; omega
          · have hst := acc_step s k hlt (.inr (by omega))
            have hlt2 := acc_le s (k + 1)
            have hc' : ((s[k].toNat : Int) == 45) = false := beq_eq_false_iff_ne.2 (by omega)
            rw [hst] at hlt2
            have HS := Lib.hid (And.intro hst hlt2)
            clear hst hlt2
            generalize accF (s.data.toList.take k) = a at *
            by_cases hm : a * 10 + (s[k].toNat - 48) ≤ 1000000000000
            · go_wp2
              go_round
              case rel => exact ⟨k + 1, by omega, by go_num, by rw [HS.out.1]; congr 1; omega, by rw [HS.out.1]; exact hm⟩
              case measure => simp [intOf]; omega
            · have HD := Lib.hid (HF.out.2.2.1 (by
                rw [← vI_bnd, vI_false, HF.out.2.1]
                have := HS.out.2
                split <;> omega))
              have hm' : 1000000000000 < a * 10 + (s[k].toNat - 48) := by omega
              clear hm
              go_wp2
              go_ret2
              exact ⟨ret_tup2 HD.out, Below.refl _ _⟩
        · obtain rfl : k = s.size := by omega
          rw [take_size]
          rw [take_size] at hle
          have HD := Lib.hid (HF.out.2.2.2.1 (by
                rw [← vI_bnd, vI_iff, HF.out.2.1]
                split <;> omega))
          have HV := Lib.hid HF.out.2.1
          generalize accF s.data.toList = a at *
          go_wp2
          go_ret2
          refine ⟨?_, Below.refl _ _⟩
          first | exact ret_tup2 (HD.out.trans (by rw [HV.out, if_pos H45.out])) | exact ret_tup2 (HD.out.trans (by rw [HV.out, if_neg H45.out]))
end Go.Proofs.YtpkekfhnpcjgkaaDoor
