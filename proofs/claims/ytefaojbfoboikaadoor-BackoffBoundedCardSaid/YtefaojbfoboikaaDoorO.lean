/- The walk of the law on delays. -/
import Derived.Test.YtefaojbfoboikaaDoorM
namespace Go.Proofs.YtefaojbfoboikaaDoor
open Go.RowKit
set_option maxHeartbeats 4000000 in
set_option maxRecDepth 100000 in
theorem law_jitter (a b f c m t : Int) (id : ByteArray) (w : World) (hb1 : -9223372036854775808 ≤ a) (hb2 : a ≤ 9223372036854775807) (hs : id.size ≤ 9223372036854775807) (hX : LaidW w) :
    Calls Tryd.prog 7 #[.agg #[.int .i64 a, .int .i64 b, .int .i64 f, .int .i64 c, .int .i64 m], .int .i64 t, .string id] w fun e w' => e = .returned (.bool true) ∧ Below w.heap.size w w' := by
  have HX := Lib.hid hX
  clear hX
  go_enter Tryd.func7, Tryd.ntmps7
  have hb0 : Below w.heap.size w (w.alloc (.cells #[.int .i64 a, .int .i64 b, .int .i64 f, .int .i64 c, .int .i64 m] 23)) := (Below.refl _ _).alloc (Nat.le_refl _) _
  have HB := Lib.hid (Box.new w a b f c m 23)
  have H0 := Lib.hid hb0
  clear hb0
  go_wp2_with fail
  refine (Delay_any _ _ _ _ _ _ _ hb1 hb2).mono ?_
  rintro e w1 ⟨rfl, hb⟩
  simp only [tup2]
  have K1 := Lib.hid (And.intro (HB.out.below hb (by simp)) (H0.out.trans (hb.mono (by simp))))
  have hz1 : w.heap.size < w1.heap.size := by have := hb.size; simp at this; omega
  clear hb
  obtain ⟨q0, q1, q2, q3, q4⟩ := K1.out.1
  go_wp2_with fail
  refine (Jitter_any _ _ _ _ _ _ _ _ hb1 hb2 hs (HX.out.below K1.out.2)).mono ?_
  rintro e w2 ⟨rfl, hb⟩
  simp only [tup2]
  have K2 := Lib.hid (And.intro (K1.out.1.below hb hz1) (K1.out.2.trans (hb.mono (Nat.le_of_lt hz1))))
  have hz2 : w.heap.size < w2.heap.size := by have := hb.size; omega
  clear hb q0 q1 q2 q3 q4
  obtain ⟨q0, q1, q2, q3, q4⟩ := K2.out.1
  rcases delI_cases a b f c m t with hd | ⟨d, hd, d1, d2, -⟩
  · have hj := jit_err (id := id) hd
    rw [hd, hj]
    go_wp2_with fail
    refine (awake_any _ (HX.out.below K2.out.2)).mono ?_
    rintro e w4 ⟨rfl, hb⟩
    have K4 := Lib.hid (K2.out.2.trans (hb.mono K2.out.2.size))
    clear hb q0 q1 q2 q3 q4
    go_wp2_with fail
    go_ret
    exact ⟨rfl, K4.out⟩
  · cases hi : idL id
    · have hj := jit_name hd hi
      rw [hd, hj]
      go_wp2_with fail
      refine (awake_any _ (HX.out.below K2.out.2)).mono ?_
      rintro e w4 ⟨rfl, hb⟩
      have K4 := Lib.hid (K2.out.2.trans (hb.mono K2.out.2.size))
      clear hb q0 q1 q2 q3 q4
      go_wp2_with fail
      go_ret
      exact ⟨rfl, K4.out⟩
    · have hj := jit_ok hd hi
      have HJ := Lib.hid hj
      have hx1 : 0 ≤ fnv (jkey id t).data.toList % (d - d / 2 + 1) := Int.emod_nonneg _ (by omega)
      have hx2 : fnv (jkey id t).data.toList % (d - d / 2 + 1) < d - d / 2 + 1 := Int.emod_lt_of_pos _ (by omega)
      rw [hd, hj]
      generalize fnv (jkey id t).data.toList % (d - d / 2 + 1) = x at *
      clear hj hi
      have hq : Int.tdiv d 2 = d / 2 := Int.tdiv_eq_ediv_of_nonneg (by omega)
      go_wp2_with fail
      refine (Jitter_any _ _ _ _ _ _ _ _ hb1 hb2 hs (HX.out.below K2.out.2)).mono ?_
      rintro e w3 ⟨rfl, hb⟩
      rw [HJ.out]
      simp only [tup2]
      have K3 := Lib.hid (K2.out.2.trans (hb.mono (Nat.le_of_lt hz2)))
      clear hb q0 q1 q2 q3 q4
      have g1 : decide (d / 2 ≤ d / 2 + x) = true := decide_eq_true (by omega)
      have g2 : decide (d / 2 + x ≤ d) = true := decide_eq_true (by omega)
      go_wp2_with fail
      all_goals try (exfalso; omega)
      refine (awake_any _ (HX.out.below K3.out)).mono ?_
      rintro e w4 ⟨rfl, hb⟩
      have K4 := Lib.hid (K3.out.trans (hb.mono K3.out.size))
      clear hb
      go_wp2_with fail
      go_ret
      exact ⟨rfl, K4.out⟩
end Go.Proofs.YtefaojbfoboikaaDoor
