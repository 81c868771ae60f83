/- The walks of NumForms, NumRoundTrips, NumQuotients, NumAdds. -/
import Derived.Test.YtkfoimjnkinkpaaDoorJ
import Derived.Test.YtkfoimjnkinkpaaDoorK
namespace Go.Proofs.YtkfoimjnkinkpaaDoor
open Go.RowKit

theorem awake_calls (w : World) (hX : LaidW w) : Calls Tryd.prog 10 #[] w fun e w' => e = .returned (.bool true) ∧ Below w.heap.size w w' := awake_any w hX.tab
set_option maxHeartbeats 1000000 in
theorem law_forms (n : Int) (s : ByteArray) (w : World) (h0 : -9223372036854775808 ≤ n) (h1 : n ≤ 9223372036854775807) (hs : s.size ≤ 9223372036854775807) (hX : LaidW w) :
    Calls Tryd.prog 3 #[.int .i64 n, .string s] w fun e w' => e = .returned (.bool true) ∧ Below w.heap.size w w' := by
  have HX := Lib.hid hX
  clear hX
  by_cases h200 : 200 < s.size
  · go_enter Tryd.func3, Tryd.ntmps3
    go_wp2_with fail
    refine (awake_calls _ HX.out).mono ?_
    rintro e w1 ⟨rfl, hb1⟩
    go_wp2
    go_ret
    exact ⟨rfl, hb1⟩
  · go_enter Tryd.func3, Tryd.ntmps3
    go_wp2_with fail
    refine (Parse_any s _ (by omega) HX.out).mono ?_
    rintro e w1 ⟨rfl, k1⟩
    simp only [tup2]
    go_wp2_with fail
    refine (rParse_any s _ (by omega)).mono ?_
    rintro e w2 ⟨rfl, hb2⟩
    have k2 := k1.trans (hb2.mono k1.size)
    clear hb2
    simp only [tup2]
    generalize parI s.data.toList = R
    obtain ⟨a, e⟩ := R
    go_wp2_with fail
    refine (Valid_any _ _).mono ?_
    rintro e w3 ⟨rfl, rfl⟩
    go_wp2_with fail
    refine (rValid_any _ _).mono ?_
    rintro e w3 ⟨rfl, rfl⟩
    generalize vI n = V
    go_wp2_with fail
    refine (Format_any n h0 h1 _ (HX.out.below k2).tab).mono ?_
    rintro e w4 ⟨rfl, hb4⟩
    have k4 := k2.trans (hb4.mono k2.size)
    clear hb4
    go_wp2_with fail
    refine (rFormat_any n _ h0 h1).mono ?_
    rintro e w5 ⟨rfl, hb5⟩
    have k5 := k4.trans (hb5.mono k4.size)
    clear hb5
    go_wp2_with fail
    refine (awake_calls _ (HX.out.below k5)).mono ?_
    rintro e w6 ⟨rfl, hb6⟩
    have k6 := k5.trans (hb6.mono k5.size)
    go_wp2
    go_ret
    exact ⟨rfl, k6⟩

theorem itoa_size {n : Int} (h0 : -9223372036854775808 ≤ n) (h1 : n ≤ 9223372036854775807) : (⟨(Lib.itoa n).toArray⟩ : ByteArray).size ≤ 21 := by
  have := Lib.itoa_length_le n h0 h1
  rw [← size_len]
  simpa using this
theorem parI_itoa (n : Int) : parI (⟨(Lib.itoa n).toArray⟩ : ByteArray).data.toList = if vI n = true then (n, 0) else (0, 2) := by
  show parI (Lib.itoa n) = _
  obtain ⟨h1, h2⟩ := itoa_dec n
  cases hv : vI n
  · rw [parI_far h1 (by rw [h2]; exact hv)]; rfl
  · rw [parI_ok h1 (by rw [h2]; exact hv), h2]; rfl
theorem parI_cases (s : ByteArray) : (∃ f, parI s.data.toList = (0, f) ∧ (f = 1 ∨ f = 2)) ∨ (∃ b, parI s.data.toList = (b, 0) ∧ vI b = true ∧ (⟨(Lib.itoa b).toArray⟩ : ByteArray) = s) := by
  cases hd : decB s.data.toList
  · exact .inl ⟨1, parI_no hd, .inl rfl⟩
  · cases hb : bndB (valI s.data.toList)
    · exact .inl ⟨2, parI_far hd hb, .inr rfl⟩
    · refine .inr ⟨_, parI_ok hd hb, hb, ?_⟩
      rw [dec_itoa _ hd]
set_option maxHeartbeats 1000000 in
theorem law_trips (n : Int) (s : ByteArray) (w : World) (h0 : -9223372036854775808 ≤ n) (h1 : n ≤ 9223372036854775807) (hs : s.size ≤ 9223372036854775807) (hX : LaidW w) :
    Calls Tryd.prog 4 #[.int .i64 n, .string s] w fun e w' => e = .returned (.bool true) ∧ Below w.heap.size w w' := by
  have HX := Lib.hid hX
  clear hX
  by_cases h200 : 200 < s.size
  · go_enter Tryd.func4, Tryd.ntmps4
    go_wp2_with fail
    refine (awake_calls _ HX.out).mono ?_
    rintro e w1 ⟨rfl, hb1⟩
    go_wp2
    go_ret
    exact ⟨rfl, hb1⟩
  · go_enter Tryd.func4, Tryd.ntmps4
    go_wp2_with fail
    refine (Format_any n h0 h1 _ HX.out.tab).mono ?_
    rintro e w1 ⟨rfl, k1⟩
    go_wp2_with fail
    refine (Parse_any _ _ (by have := itoa_size h0 h1; omega) (HX.out.below k1)).mono ?_
    rintro e w2 ⟨rfl, hb2⟩
    have k2 := k1.trans (hb2.mono k1.size)
    clear hb2
    rw [parI_itoa]
    cases hv : vI n
    all_goals
      have HV := Lib.hid hv
      simp only [tup2, Bool.false_eq_true, if_false, if_true]
      clear hv
      go_wp2_with fail
      refine (Valid_any _ _).mono ?_
      rintro e w3 ⟨rfl, rfl⟩
      rw [HV.out]
      go_wp2_with fail
      refine (Parse_any s _ (by omega) (HX.out.below k2)).mono ?_
      rintro e w3 ⟨rfl, hb3⟩
      have k3 := k2.trans (hb3.mono k2.size)
      clear hb3
      rcases parI_cases s with ⟨f, hf, hf'⟩ | ⟨b, hf, hb, hbs⟩
      · rw [hf]
        simp only [tup2]
        clear hf
        rcases hf' with rfl | rfl
        all_goals
          go_wp2_with fail
          refine (awake_calls _ (HX.out.below k3)).mono ?_
          rintro e w4 ⟨rfl, hb4⟩
          have k4 := k3.trans (hb4.mono k3.size)
          go_wp2
          go_ret
          exact ⟨rfl, k4⟩
      · rw [hf]
        simp only [tup2]
        have hbd := (vI_iff b).1 hb
        have HB := Lib.hid (And.intro hb (And.intro hbs hbd))
        clear hf hb hbs hbd
        go_wp2_with fail
        refine (Valid_any _ _).mono ?_
        rintro e w4 ⟨rfl, rfl⟩
        rw [HB.out.1]
        go_wp2_with fail
        refine (Format_any b (by have := HB.out.2.2; omega) (by have := HB.out.2.2; omega) _ (HX.out.below k3).tab).mono ?_
        rintro e w4 ⟨rfl, hb4⟩
        have k4 := k3.trans (hb4.mono k3.size)
        clear hb4
        rw [HB.out.2.1]
        go_wp2_with fail
        refine (awake_calls _ (HX.out.below k4)).mono ?_
        rintro e w5 ⟨rfl, hb5⟩
        have k5 := k4.trans (hb5.mono k4.size)
        go_wp2
        go_ret
        exact ⟨rfl, k5⟩

set_option maxHeartbeats 1000000 in
theorem law_adds (a b : Int) (w : World) (hX : LaidW w) :
    Calls Tryd.prog 9 #[.int .i64 a, .int .i64 b] w fun e w' => e = .returned (.bool true) ∧ Below w.heap.size w w' := by
  have HX := Lib.hid hX
  clear hX
  go_enter Tryd.func9, Tryd.ntmps9
  go_wp2_with fail
  refine (Add_any a b _).mono ?_
  rintro e w1 ⟨rfl, k1⟩
  simp only [tup2]
  go_wp2_with fail
  refine (Sub_any a b _).mono ?_
  rintro e w2 ⟨rfl, hb2⟩
  have k2 := k1.trans (hb2.mono k1.size)
  clear hb2
  simp only [tup2]
  go_wp2_with fail
  refine (Mul_any a b _).mono ?_
  rintro e w3 ⟨rfl, hb3⟩
  have k3 := k2.trans (hb3.mono k2.size)
  clear hb3
  simp only [tup2]
  go_wp2_with fail
  refine (rAdd_any a b _).mono ?_
  rintro e w4 ⟨rfl, hb4⟩
  have k4 := k3.trans (hb4.mono k3.size)
  clear hb4
  simp only [tup2]
  go_wp2_with fail
  refine (rSub_any a b _).mono ?_
  rintro e w5 ⟨rfl, hb5⟩
  have k5 := k4.trans (hb5.mono k4.size)
  clear hb5
  simp only [tup2]
  go_wp2_with fail
  refine (rMul_any a b _).mono ?_
  rintro e w6 ⟨rfl, hb6⟩
  have k6 := k5.trans (hb6.mono k5.size)
  clear hb6
  simp only [tup2]
  generalize addI a b = A
  generalize subI a b = B
  generalize mulI a b = C
  obtain ⟨x1, e1⟩ := A
  obtain ⟨x2, e2⟩ := B
  obtain ⟨x3, e3⟩ := C
  go_wp2_with fail
  refine (awake_calls _ (HX.out.below k6)).mono ?_
  rintro e w7 ⟨rfl, hb7⟩
  have k7 := k6.trans (hb7.mono k6.size)
  go_wp2
  go_ret
  exact ⟨rfl, k7⟩
end Go.Proofs.YtkfoimjnkinkpaaDoor
