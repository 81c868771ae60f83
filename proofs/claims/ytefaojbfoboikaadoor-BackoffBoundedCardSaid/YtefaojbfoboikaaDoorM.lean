/- The walks of the laws. -/
import Derived.Test.YtefaojbfoboikaaDoorL
namespace Go.Proofs.YtefaojbfoboikaaDoor
open Go.RowKit
theorem timI_len (a b f c m s : Int) : (timI a b f c m s).1.length ≤ 100 := by
  unfold timI
  split
  · rename_i hok
    have hbd := (RP.ok_iff _).1 hok
    simp only at hbd
    obtain ⟨a1, a2, b1, b2, f1, f2, c1, c2, m1, m2⟩ := hbd
    split
    · have := (tm_facts (s := s) b1 f1 c1 m1 (a.toNat - 1)).2.1
      show (tmS b f c s m (a.toNat - 1)).1.length ≤ 100
      omega
    · simp
  · simp
set_option maxHeartbeats 2000000 in
theorem law_times (a b f c m s : Int) (w : World) (hX : LaidW w) :
    Calls Tryd.prog 4 #[.agg #[.int .i64 a, .int .i64 b, .int .i64 f, .int .i64 c, .int .i64 m], .int .i64 s] w fun e w' => e = .returned (.bool true) ∧ Below w.heap.size w w' := by
  have HX := Lib.hid hX
  have HL := Lib.hid (timI_len a b f c m s)
  clear hX
  go_enter Tryd.func4, Tryd.ntmps4
  have hb0 : Below w.heap.size w (w.alloc (.cells #[.int .i64 a, .int .i64 b, .int .i64 f, .int .i64 c, .int .i64 m] 23)) := (Below.refl _ _).alloc (Nat.le_refl _) _
  have HB := Lib.hid (Box.new w a b f c m 23)
  have H0 := Lib.hid hb0
  clear hb0
  go_wp2_with fail
  refine (Times_any _ _ _ _ _ _ _).mono ?_
  rintro e w1 ⟨v, rfl, hown, hb⟩
  have K1 := Lib.hid (And.intro (HB.out.below hb (by simp)) (H0.out.trans (hb.mono (by simp))))
  have hz1 : w.heap.size < w1.heap.size := by have := hb.size; simp at this; omega
  have HO := Lib.hid hown
  clear hb hown
  obtain ⟨q0, q1, q2, q3, q4⟩ := K1.out.1
  go_wp2_with fail
  refine (rTimes_any _ _ _ _ _ _ _).mono ?_
  rintro e w2 ⟨v', rfl, hown2, hb⟩
  have hO2 := own_below HO.out hb
  have K2 := Lib.hid (K1.out.2.trans (hb.mono (Nat.le_of_lt hz1)))
  have HO2 := Lib.hid (And.intro hO2 hown2)
  have HLL := Lib.hid HL.out
  clear hb hown2 hO2 HO HL q0 q1 q2 q3 q4
  generalize timI a b f c m s = P at *
  obtain ⟨l, er⟩ := P
  go_wp2_with fail
  refine (same_any v v' _ _ l _ HO2.out.1 HO2.out.2 HLL.out).mono ?_
  rintro e w3 ⟨rfl, hb⟩
  have K3 := Lib.hid (K2.out.trans (hb.mono K2.out.size))
  clear hb
  go_wp2_with fail
  refine (awake_any _ (HX.out.below K3.out)).mono ?_
  rintro e w4 ⟨rfl, hb⟩
  have K4 := Lib.hid (K3.out.trans (hb.mono K3.out.size))
  clear hb
  go_wp2_with fail
  go_ret
  exact ⟨rfl, K4.out⟩
set_option maxHeartbeats 2000000 in
theorem law_next (a b f c m s t n : Int) (w : World) (hX : LaidW w) :
    Calls Tryd.prog 5 #[.agg #[.int .i64 a, .int .i64 b, .int .i64 f, .int .i64 c, .int .i64 m], .int .i64 s, .int .i64 t, .int .i64 n] w fun e w' => e = .returned (.bool true) ∧ Below w.heap.size w w' := by
  have HX := Lib.hid hX
  clear hX
  go_enter Tryd.func5, Tryd.ntmps5
  have hb0 : Below w.heap.size w (w.alloc (.cells #[.int .i64 a, .int .i64 b, .int .i64 f, .int .i64 c, .int .i64 m] 23)) := (Below.refl _ _).alloc (Nat.le_refl _) _
  have HB := Lib.hid (Box.new w a b f c m 23)
  have H0 := Lib.hid hb0
  clear hb0
  go_wp2_with fail
  refine (Next_any _ _ _ _ _ _ _ _ _).mono ?_
  rintro e w1 ⟨rfl, hb⟩
  simp only [tupN]
  have K1 := Lib.hid (And.intro (HB.out.below hb (by simp)) (H0.out.trans (hb.mono (by simp))))
  have hz1 : w.heap.size < w1.heap.size := by have := hb.size; simp at this; omega
  clear hb
  obtain ⟨q0, q1, q2, q3, q4⟩ := K1.out.1
  go_wp2_with fail
  refine (rNext_any _ _ _ _ _ _ _ _ _).mono ?_
  rintro e w2 ⟨rfl, hb⟩
  simp only [tupN]
  have K2 := Lib.hid (K1.out.2.trans (hb.mono (Nat.le_of_lt hz1)))
  clear hb q0 q1 q2 q3 q4
  generalize nxI a b f c m s t n = P at *
  obtain ⟨x, y, er⟩ := P
  go_wp2_with fail
  refine (awake_any _ (HX.out.below K2.out)).mono ?_
  rintro e w4 ⟨rfl, hb⟩
  have K4 := Lib.hid (K2.out.trans (hb.mono K2.out.size))
  clear hb
  go_wp2_with fail
  go_ret
  exact ⟨rfl, K4.out⟩
end Go.Proofs.YtefaojbfoboikaaDoor
