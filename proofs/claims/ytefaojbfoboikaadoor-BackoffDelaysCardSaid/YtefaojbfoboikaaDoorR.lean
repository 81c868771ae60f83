/- The walk of the law on delays. -/
import Derived.Test.YtefaojbfoboikaaDoorO
import Derived.Lib.QuietBelow
import Derived.BigQuiet
namespace Go.Proofs.YtefaojbfoboikaaDoor
open Go.RowKit
open Go.Sort (grow)
set_option maxHeartbeats 4000000 in
set_option maxRecDepth 100000 in
theorem law_delays (a b f c m t : Int) (id : ByteArray) (w : World) (hb1 : -9223372036854775808 ≤ a) (hb2 : a ≤ 9223372036854775807) (hs : id.size ≤ 9223372036854775807) (hX : LaidW w) :
    Calls Tryd.prog 3 #[.agg #[.int .i64 a, .int .i64 b, .int .i64 f, .int .i64 c, .int .i64 m], .int .i64 t, .string id] w fun e w' => e = .returned (.bool true) ∧ Below w.heap.size w w' := by
  have HX := Lib.hid hX
  clear hX
  go_enter Tryd.func3, Tryd.ntmps3
  have hb0 : Below w.heap.size w (w.alloc (.cells #[.int .i64 a, .int .i64 b, .int .i64 f, .int .i64 c, .int .i64 m] 23)) := (Below.refl _ _).alloc (Nat.le_refl _) _
  have HB := Lib.hid (Box.new w a b f c m 23)
  have H0 := Lib.hid hb0
  clear hb0
  go_wp2_with fail
  have hz0 : w.heap.size < (w.alloc (.cells #[.int .i64 a, .int .i64 b, .int .i64 f, .int .i64 c, .int .i64 m] 23)).heap.size := by simp
  generalize w.alloc (.cells #[.int .i64 a, .int .i64 b, .int .i64 f, .int .i64 c, .int .i64 m] 23) = W at *
  have r0 := fun d os => cell_regrown HB.out.c0 d os
  have r1 := fun d os => cell_regrown HB.out.c1 d os
  have r2 := fun d os => cell_regrown HB.out.c2 d os
  have r3 := fun d os => cell_regrown HB.out.c3 d os
  have r4 := fun d os => cell_regrown HB.out.c4 d os
  refine wp_region_quiet_below (by kernel_rfl) (by kernel_rfl) ?_
  repeat (go_big_quiet_step (first | (go_at_call 8; go_must (exact Calls.regrown_of (Check_any a b f c m _))) | (go_at_call 9; go_must (exact Calls.regrown_of (rCheck_any a b f c m _)))))
  refine wpQuiet_nil ?_
  intro _ hw'
  obtain ⟨⟨dq, osq⟩, hw''⟩ := hw'
  subst hw''
  have hb := below_regrown W dq osq
  have K1 := Lib.hid (And.intro (HB.out.below hb hz0) (H0.out.trans (hb.mono (Nat.le_of_lt hz0))))
  have hz1 : w.heap.size < (grow (redrawn W dq) osq).heap.size := by have := hb.size; omega
  clear r0 r1 r2 r3 r4 hb HB H0
  generalize grow (redrawn W dq) osq = w1 at *
  obtain ⟨q0, q1, q2, q3, q4⟩ := K1.out.1
  go_wp2_with fail
  refine (Delay_any _ _ _ _ _ _ _ hb1 hb2).mono ?_
  rintro e w2 ⟨rfl, hb⟩
  simp only [tup2]
  have K2 := Lib.hid (And.intro (K1.out.1.below hb hz1) (K1.out.2.trans (hb.mono (Nat.le_of_lt hz1))))
  have hz2 : w.heap.size < w2.heap.size := by have := hb.size; omega
  clear hb q0 q1 q2 q3 q4
  obtain ⟨q0, q1, q2, q3, q4⟩ := K2.out.1
  go_wp2_with fail
  refine (rDelay_any _ _ _ _ _ _ _).mono ?_
  rintro e w3 ⟨rfl, hb⟩
  simp only [tup2]
  have K3 := Lib.hid (And.intro (K2.out.1.below hb hz2) (K2.out.2.trans (hb.mono (Nat.le_of_lt hz2))))
  have hz3 : w.heap.size < w3.heap.size := by have := hb.size; omega
  clear hb q0 q1 q2 q3 q4
  obtain ⟨q0, q1, q2, q3, q4⟩ := K3.out.1
  generalize delI a b f c m t = P at *
  obtain ⟨P1, P2⟩ := P
  go_wp2_with fail
  refine (Jitter_any _ _ _ _ _ _ _ _ hb1 hb2 hs (HX.out.below K3.out.2)).mono ?_
  rintro e w4 ⟨rfl, hb⟩
  simp only [tup2]
  have K4 := Lib.hid (And.intro (K3.out.1.below hb hz3) (K3.out.2.trans (hb.mono (Nat.le_of_lt hz3))))
  have hz4 : w.heap.size < w4.heap.size := by have := hb.size; omega
  clear hb q0 q1 q2 q3 q4
  obtain ⟨q0, q1, q2, q3, q4⟩ := K4.out.1
  go_wp2_with fail
  refine (rJitter_any _ _ _ _ _ _ _ _ hs).mono ?_
  rintro e w5 ⟨rfl, hb⟩
  simp only [tup2]
  have K5 := Lib.hid (And.intro (K4.out.1.below hb hz4) (K4.out.2.trans (hb.mono (Nat.le_of_lt hz4))))
  have hz5 : w.heap.size < w5.heap.size := by have := hb.size; omega
  clear hb q0 q1 q2 q3 q4
  obtain ⟨q0, q1, q2, q3, q4⟩ := K5.out.1
  generalize jitI a b f c m t id = P at *
  obtain ⟨P3, P4⟩ := P
  go_wp2_with fail
  refine (Total_any _ _ _ _ _ _).mono ?_
  rintro e w6 ⟨rfl, hb⟩
  simp only [tup2]
  have K6 := Lib.hid (And.intro (K5.out.1.below hb hz5) (K5.out.2.trans (hb.mono (Nat.le_of_lt hz5))))
  have hz6 : w.heap.size < w6.heap.size := by have := hb.size; omega
  clear hb q0 q1 q2 q3 q4
  obtain ⟨q0, q1, q2, q3, q4⟩ := K6.out.1
  go_wp2_with fail
  refine (rTotal_any _ _ _ _ _ _).mono ?_
  rintro e w7 ⟨rfl, hb⟩
  simp only [tup2]
  have K7 := Lib.hid (And.intro (K6.out.1.below hb hz6) (K6.out.2.trans (hb.mono (Nat.le_of_lt hz6))))
  have hz7 : w.heap.size < w7.heap.size := by have := hb.size; omega
  clear hb q0 q1 q2 q3 q4
  obtain ⟨q0, q1, q2, q3, q4⟩ := K7.out.1
  generalize totI a b f c m = P at *
  obtain ⟨P5, P6⟩ := P
  go_wp2_with fail
  refine (awake_any _ (HX.out.below K7.out.2)).mono ?_
  rintro e w8 ⟨rfl, hb⟩
  have K8 := Lib.hid (K7.out.2.trans (hb.mono K7.out.2.size))
  clear hb q0 q1 q2 q3 q4
  go_wp2_with fail
  go_ret
  exact ⟨rfl, K8.out⟩
end Go.Proofs.YtefaojbfoboikaaDoor
