/- The walks of the arithmetic of fractions, and of its reference. -/
import Derived.Test.YtpkekfhnpcjgkaaDoorR3
namespace Go.Proofs.YtpkekfhnpcjgkaaDoor
open Go.RowKit
open Rt
open Go.Sort (grow)

theorem vR_no {p q : Int} (h : lim p q = false) : vR p q = false := by unfold vR; rw [h]; rfl
theorem vR_gc {p q : Int} (h : lim p q = true) : (gc (p.natAbs : Int) q == 1) = vR p q := by
  unfold vR
  rw [h, Bool.true_and, gc_abs]
  unfold gc
  rw [Bool.eq_iff_iff, beq_iff_eq, decide_eq_true_iff]
  omega
theorem amount_at (n : Int) (W : World) (c : Nat) (os : Array Obj) (h : -9000000000000000000 ≤ n ∧ n ≤ 9000000000000000000) :
    Calls Tryd.prog 67 #[.int .i64 n] (grow (redrawn W c) os) fun e w' => e = .returned (.int .i64 (n.natAbs : Int)) ∧ ∃ p : Regrown, w' = grow (redrawn W p.d) p.os :=
  Calls.regrown_of ((amount_any n _ (by omega) (by omega)).mono fun e w' hh => ⟨hh.1, hh.2 ▸ Below.refl _ _⟩)
theorem divisor_at (n d : Int) (W : World) (c : Nat) (os : Array Obj) (h : (-1000000000 ≤ n ∧ n ≤ 1000000000) ∧ 1 ≤ d ∧ d ≤ 1000000) :
    Calls Tryd.prog 66 #[.int .i64 (n.natAbs : Int), .int .i64 d] (grow (redrawn W c) os) fun e w' => e = .returned (.int .i64 (gc (n.natAbs : Int) d)) ∧ ∃ p : Regrown, w' = grow (redrawn W p.d) p.os :=
  Calls.regrown_of (divisor_any _ _ _ (by omega) (by omega) (by omega) (by omega))
set_option maxHeartbeats 1000000 in
theorem qrValid_any (p q : Int) (w : World) : Calls Tryd.prog 18 #[.agg #[.int .i64 p, .int .i64 q]] w fun e w' => e = .returned (.bool (vR p q)) ∧ Below w.heap.size w w' := by
  by_cases hl : 1 ≤ q ∧ q ≤ 1000000 ∧ -1000000000 ≤ p ∧ p ≤ 1000000000
  · have HV := Lib.hid (vR_gc ((lim_iff p q).2 hl))
    obtain ⟨l1, l2, l3, l4⟩ := hl
    have d1 : decide (1000000000 < p) = false := decide_eq_false (by omega)
    go_enter Tryd.func18, Tryd.ntmps18
    go_wp2_with fail
    all_goals try (exfalso; omega)
    have hb0 : Below w.heap.size w (w.alloc (.cells #[.int .i64 p, .int .i64 q] 23)) := (Below.refl _ _).alloc (Nat.le_refl _) _
    have hC := Blk.new w 23 #[.int .i64 p, .int .i64 q]
    have H0 := Lib.hid hb0
    have hz0 : w.heap.size < (w.alloc (.cells #[.int .i64 p, .int .i64 q] 23)).heap.size := by simp
    clear hb0
    generalize w.alloc (.cells #[.int .i64 p, .int .i64 q] 23) = W at *
    have r0 := fun d os => cell_regrown (v := .int .i64 p) (hC.cell 0) d os
    have r1 := fun d os => cell_regrown (v := .int .i64 q) (hC.cell 1) d os
    refine wp_region_quiet_below (by kernel_rfl) (by kernel_rfl) ?_
    repeat (go_big_quiet_step (first | (go_at_call 67; go_must (exact amount_at p _ _ _ (by omega))) | (go_at_call 66; go_must (exact divisor_at p q _ _ _ ⟨⟨l3, l4⟩, l1, l2⟩))))
    refine wpQuiet_nil ?_
    intro _ hw'
    obtain ⟨⟨dq, osq⟩, hw''⟩ := hw'
    subst hw''
    go_wp2_with fail
    go_ret
    exact ⟨ret_bool HV.out, H0.out.trans ((below_regrown W dq osq).mono (Nat.le_of_lt hz0))⟩
  · have HV := Lib.hid (vR_no (lim_no hl))
    have hcase : (1000000000 < p ∧ decide (1000000000 < p) = true) ∨ (p ≤ 1000000000 ∧ decide (1000000000 < p) = false) := by
      rcases Int.lt_or_le 1000000000 p with h | h
      · exact .inl ⟨h, decide_eq_true h⟩
      · exact .inr ⟨h, decide_eq_false (by omega)⟩
    rcases hcase with ⟨hm, hmb⟩ | ⟨hm, hmb⟩
    all_goals
      go_enter Tryd.func18, Tryd.ntmps18
      go_wp2_with fail
      all_goals try (exfalso; omega)
    all_goals
      go_ret
      exact ⟨ret_bool HV.out.symm, (Below.refl _ _).alloc (Nat.le_refl _) _⟩
end Go.Proofs.YtpkekfhnpcjgkaaDoor
