/- The example of the chapter. -/
import Derived.Test.YtefaojbfoboikaaDoorK
import Derived.Test.YtefaojbfoboikaaDoorG
namespace Go.Proofs.YtefaojbfoboikaaDoor
open Go.RowKit
theorem aw1 : totI 5 2 3 20 30 = (46, 0) := by decide
theorem aw2 : timI 5 2 3 20 30 100 = ([100, 102, 108, 126], 0) := by decide
theorem aw3 : delI 5 2 3 20 30 4 = (20, 0) := by decide
theorem aw4 : nxI 5 2 3 20 30 100 1 105 = (107, true, 0) := by decide
theorem aw5 : nxI 5 2 3 20 30 100 4 126 = (0, false, 0) := by decide
theorem aw6 : nxI 5 2 3 20 30 100 1 99 = (0, false, 11) := by decide
theorem aw7 : ∃ j, jitI 5 2 3 20 30 3 ⟨#[101, 49]⟩ = (j, 0) ∧ 9 ≤ j ∧ j ≤ 18 := by
  have h := jit_ok (id := ⟨#[101, 49]⟩) (show delI 5 2 3 20 30 3 = (18, 0) by decide) (by decide)
  refine ⟨_, h, ?_, ?_⟩ <;> omega
theorem aw8 : delI 5 2 3 20 30 5 = (0, 2) := by decide
theorem aw9 : jitI 5 2 3 20 30 1 ⟨#[]⟩ = (0, 4) := jit_name (d := 2) (by decide) (by decide)
theorem aw10 : RP.e ⟨5, 2, 3, 20, 30⟩ = 0 := by decide
theorem aw11 : RP.e ⟨11, 1, 1, 1, 0⟩ = 2 := by decide
set_option maxHeartbeats 4000000 in
set_option maxRecDepth 100000 in
theorem awake_any (w : World) (hX : LaidW w) : Calls Tryd.prog 16 #[] w fun e w' => e = .returned (.bool true) ∧ Below w.heap.size w w' := by
  have HX := Lib.hid hX
  clear hX
  obtain ⟨j, hj, hj1, hj2⟩ := aw7
  have HJ := Lib.hid hj
  clear hj
  go_enter Tryd.func16, Tryd.ntmps16
  have hb0 : Below w.heap.size w (w.alloc (.cells #[.int .i64 5, .int .i64 2, .int .i64 3, .int .i64 20, .int .i64 30] 23)) := (Below.refl _ _).alloc (Nat.le_refl _) _
  have HB := Lib.hid (Box.new w 5 2 3 20 30 23)
  have H0 := Lib.hid hb0
  clear hb0
  go_wp2_with fail
  refine (Total_any _ _ _ _ _ _).mono ?_
  rintro e w1 ⟨rfl, hb⟩
  rw [aw1]
  simp only [tup2]
  have K1 := Lib.hid (And.intro (HB.out.below hb (by simp)) (H0.out.trans (hb.mono (by simp))))
  have hz1 : w.heap.size < w1.heap.size := by have := hb.size; simp at this; omega
  clear hb
  obtain ⟨q0, q1, q2, q3, q4⟩ := K1.out.1
  go_wp2_with fail
  refine (Times_any _ _ _ _ _ _ _).mono ?_
  rintro e w2 ⟨v, rfl, hown, hb⟩
  rw [aw2] at hown ⊢
  have K2 := Lib.hid (And.intro (K1.out.1.below hb hz1) (K1.out.2.trans (hb.mono (Nat.le_of_lt hz1))))
  have hz2 : w.heap.size < w2.heap.size := by have := hb.size; omega
  have HO := Lib.hid hown
  clear hb q0 q1 q2 q3 q4 hown
  obtain ⟨q0, q1, q2, q3, q4⟩ := K2.out.1
  go_wp2_with fail
  refine (Delay_any _ _ _ _ _ _ _ (by omega) (by omega)).mono ?_
  rintro e w3 ⟨rfl, hb⟩
  rw [aw3]
  simp only [tup2]
  have K3 := Lib.hid (And.intro (K2.out.1.below hb hz2) (K2.out.2.trans (hb.mono (Nat.le_of_lt hz2))))
  have hz3 : w.heap.size < w3.heap.size := by have := hb.size; omega
  have HO3 := Lib.hid (own_below HO.out hb)
  clear hb q0 q1 q2 q3 q4
  obtain ⟨q0, q1, q2, q3, q4⟩ := K3.out.1
  go_wp2_with fail
  have hS := same_any v (.slice (some ⟨w3.heap.size, 0, none⟩) 4 4) _ w3.heap.size [100, 102, 108, 126] (w3.alloc (.cells #[.int .i64 100, .int .i64 102, .int .i64 108, .int .i64 126] 3)) (HO3.out.alloc _) ⟨rfl, .inr ⟨w3.heap.size, 4, #[.int .i64 100, .int .i64 102, .int .i64 108, .int .i64 126], rfl, Nat.le_refl _, heap_alloc_new _ _, by simp [maxLen]⟩⟩ (by decide)
  refine hS.mono ?_
  clear hS
  rintro e w4 ⟨rfl, hb⟩
  have hb4 : Below w3.heap.size w3 w4 := ((Below.refl _ _).alloc (Nat.le_refl _) _).trans (hb.mono (by simp))
  have K4 := Lib.hid (And.intro (K3.out.1.below hb4 hz3) (K3.out.2.trans (hb4.mono (Nat.le_of_lt hz3))))
  have hz4 : w.heap.size < w4.heap.size := by have := hb4.size; omega
  clear hb hb4 q0 q1 q2 q3 q4
  obtain ⟨q0, q1, q2, q3, q4⟩ := K4.out.1
  go_wp2_with fail
  refine (Next_any _ _ _ _ _ _ _ _ _).mono ?_
  rintro e w5 ⟨rfl, hb⟩
  rw [aw4]
  simp only [tupN]
  have K5 := Lib.hid (And.intro (K4.out.1.below hb hz4) (K4.out.2.trans (hb.mono (Nat.le_of_lt hz4))))
  have hz5 : w.heap.size < w5.heap.size := by have := hb.size; omega
  clear hb q0 q1 q2 q3 q4
  obtain ⟨q0, q1, q2, q3, q4⟩ := K5.out.1
  go_wp2_with fail
  refine (Next_any _ _ _ _ _ _ _ _ _).mono ?_
  rintro e w6 ⟨rfl, hb⟩
  rw [aw5]
  simp only [tupN]
  have K6 := Lib.hid (And.intro (K5.out.1.below hb hz5) (K5.out.2.trans (hb.mono (Nat.le_of_lt hz5))))
  have hz6 : w.heap.size < w6.heap.size := by have := hb.size; omega
  clear hb q0 q1 q2 q3 q4
  obtain ⟨q0, q1, q2, q3, q4⟩ := K6.out.1
  go_wp2_with fail
  refine (Next_any _ _ _ _ _ _ _ _ _).mono ?_
  rintro e w7 ⟨rfl, hb⟩
  rw [aw6]
  simp only [tupN]
  have K7 := Lib.hid (And.intro (K6.out.1.below hb hz6) (K6.out.2.trans (hb.mono (Nat.le_of_lt hz6))))
  have hz7 : w.heap.size < w7.heap.size := by have := hb.size; omega
  clear hb q0 q1 q2 q3 q4
  obtain ⟨q0, q1, q2, q3, q4⟩ := K7.out.1
  go_wp2_with fail
  refine (Jitter_any _ _ _ _ _ _ _ _ (by omega) (by omega) (by decide) (HX.out.below K7.out.2)).mono ?_
  rintro e w8 ⟨rfl, hb⟩
  rw [HJ.out]
  simp only [tup2]
  have K8 := Lib.hid (And.intro (K7.out.1.below hb hz7) (K7.out.2.trans (hb.mono (Nat.le_of_lt hz7))))
  have hz8 : w.heap.size < w8.heap.size := by have := hb.size; omega
  clear hb q0 q1 q2 q3 q4
  obtain ⟨q0, q1, q2, q3, q4⟩ := K8.out.1
  go_wp2_with fail
  all_goals try (exfalso; omega)
  refine (Delay_any _ _ _ _ _ _ _ (by omega) (by omega)).mono ?_
  rintro e w9 ⟨rfl, hb⟩
  rw [aw8]
  simp only [tup2]
  have K9 := Lib.hid (And.intro (K8.out.1.below hb hz8) (K8.out.2.trans (hb.mono (Nat.le_of_lt hz8))))
  have hz9 : w.heap.size < w9.heap.size := by have := hb.size; omega
  clear hb q0 q1 q2 q3 q4
  obtain ⟨q0, q1, q2, q3, q4⟩ := K9.out.1
  go_wp2_with fail
  refine (Jitter_any _ _ _ _ _ _ _ _ (by omega) (by omega) (by decide) (HX.out.below K9.out.2)).mono ?_
  rintro e w10 ⟨rfl, hb⟩
  rw [aw9]
  simp only [tup2]
  have K10 := Lib.hid (And.intro (K9.out.1.below hb hz9) (K9.out.2.trans (hb.mono (Nat.le_of_lt hz9))))
  have hz10 : w.heap.size < w10.heap.size := by have := hb.size; omega
  clear hb q0 q1 q2 q3 q4
  obtain ⟨q0, q1, q2, q3, q4⟩ := K10.out.1
  go_wp2_with fail
  refine (Check_any _ _ _ _ _ _).mono ?_
  rintro e w11 ⟨rfl, hb⟩
  rw [aw10]
  have K11 := Lib.hid (And.intro (K10.out.1.below hb hz10) (K10.out.2.trans (hb.mono (Nat.le_of_lt hz10))))
  have hz11 : w.heap.size < w11.heap.size := by have := hb.size; omega
  clear hb q0 q1 q2 q3 q4
  obtain ⟨q0, q1, q2, q3, q4⟩ := K11.out.1
  go_wp2_with fail
  refine (Check_any _ _ _ _ _ _).mono ?_
  rintro e w12 ⟨rfl, hb⟩
  rw [aw11]
  have K12 := Lib.hid (K11.out.2.trans (hb.mono (Nat.le_of_lt hz11)))
  clear hb q0 q1 q2 q3 q4
  go_wp2_with fail
  go_ret
  exact ⟨rfl, K12.out⟩
end Go.Proofs.YtefaojbfoboikaaDoor
