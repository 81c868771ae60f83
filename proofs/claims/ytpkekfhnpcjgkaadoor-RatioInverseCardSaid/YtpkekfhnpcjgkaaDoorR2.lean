/- The walks of reduced, limited, of. -/
import Derived.Test.YtpkekfhnpcjgkaaDoorR1
import Derived.StillTailTactics
namespace Go.Proofs.YtpkekfhnpcjgkaaDoor
open Go.RowKit
open Rt
open Go.Sort (grow)

theorem gc_abs (n d : Int) : gc (n.natAbs : Int) d = gc n d := by unfold gc Int.gcd; rw [Int.natAbs_natCast]
theorem tdiv_gc (n d : Int) (hd : d ≠ 0) : n.tdiv (gc n d) = n / gc n d ∧ d.tdiv (gc n d) = d / gc n d ∧ 1 ≤ gc n d := by
  refine ⟨Int.tdiv_eq_ediv_of_dvd (Int.gcd_dvd_left ..), Int.tdiv_eq_ediv_of_dvd (Int.gcd_dvd_right ..), gc_pos n d hd⟩
theorem quo_abs (n g : Int) (hg : 1 ≤ g) (h1 : -4000000000000000000 ≤ n) (h2 : n ≤ 4000000000000000000) : -4000000000000000000 ≤ n / g ∧ n / g ≤ 4000000000000000000 := by
  have hl := (fl_le (p := n) (q := g) (by omega))
  constructor
  · rcases Int.lt_or_le (n / g) (-4000000000000000000) with h | h
    · have := Int.mul_le_mul_of_nonneg_right (show n / g + 1 ≤ -4000000000000000000 by omega) (show 0 ≤ g by omega)
      omega
    · exact h
  · rcases Int.lt_or_le 4000000000000000000 (n / g) with h | h
    · have := Int.mul_le_mul_of_nonneg_right (show 4000000000000000001 ≤ n / g by omega) (show 0 ≤ g by omega)
      omega
    · exact h
set_option maxHeartbeats 1000000 in
theorem reduced_any (n d : Int) (w : World) (hn1 : -4000000000000000000 ≤ n) (hn2 : n ≤ 4000000000000000000) (hd1 : -4000000000000000000 ≤ d) (hd2 : d ≤ 4000000000000000000) (h0 : d ≠ 0) :
    Calls Tryd.prog 65 #[.int .i64 n, .int .i64 d] w fun e w' => e = .returned (agg2 (rd n d)) ∧ Below w.heap.size w w' := by
  have hmain : ∃ n' d' : Int, rd n d = rdP n' d' ∧ ((0 < d' ∧ n = -n' ∧ d = -d') ∨ (0 < d' ∧ n = n' ∧ d = d')) := by
    unfold rd
    by_cases h : d < 0
    · exact ⟨_, _, if_pos h, .inl ⟨by omega, by omega, by omega⟩⟩
    · exact ⟨_, _, if_neg h, .inr ⟨by omega, rfl, rfl⟩⟩
  obtain ⟨n', d', hr, hc⟩ := hmain
  rw [hr]
  clear hr
  have hpos : 0 < d' := by omega
  have hn' : -4000000000000000000 ≤ n' ∧ n' ≤ 4000000000000000000 := by omega
  have hd' : d' ≤ 4000000000000000000 := by omega
  obtain ⟨t1, t2, t3⟩ := tdiv_gc n' d' (by omega)
  have q1 := quo_abs n' (gc n' d') t3 hn'.1 hn'.2
  have q2 := quo_abs d' (gc n' d') t3 (by omega) hd'
  have HP := Lib.hid (show rdP n' d' = (n' / gc n' d', d' / gc n' d') from rfl)
  have HA := Lib.hid (gc_abs n' d')
  generalize rdP n' d' = R at *
  generalize n' / gc n' d' = p at *
  generalize d' / gc n' d' = q at *
  have HT := Lib.hid (And.intro t1 t2)
  clear t1 t2
  rcases hc with ⟨hlt, rfl, rfl⟩ | ⟨hlt, rfl, rfl⟩
  all_goals
    go_enter Tryd.func65, Tryd.ntmps65
    go_wp2_with fail
    all_goals try (exfalso; omega)
    refine (size_any _ _ (by omega) (by omega)).mono ?_
    rintro e w1 ⟨rfl, rfl⟩
    go_wp2_with fail
    refine (common_any _ _ _ (by omega) (by omega) (by omega) (by omega)).mono ?_
    rintro e w1 ⟨rfl, hb⟩
    rw [HA.out]
    obtain ⟨t1, t2⟩ := HT.out
    obtain ⟨hc1, hf1⟩ := bcell hb
    have hz1 : w.heap.size < w1.heap.size := by have := hb.size; simp at this; omega
    have HB := Lib.hid (((Below.refl w.heap.size w).alloc (Nat.le_refl _) _).trans (hb.mono (by simp)))
    clear hb HA HT
    have hg0 : gc _ _ ≠ 0 := Int.ne_of_gt t3
    generalize gc _ _ = g at *
    have e1 : IntKind.i64.wrap p = p := IntWalk.i64_in _ (by omega)
    have e2 : IntKind.i64.wrap q = q := IntWalk.i64_in _ (by omega)
    go_wp2_with fail
    go_region
    all_goals
      go_wp2_with fail
      exact bodyPost_ret (v := .agg #[.int .i64 p, .int .i64 q]) (by simp [results, Tryd.results65, go_sem, hc1]) rfl ⟨ret_agg2 HP.out, (below_set2 HB.out (Nat.le_refl _) _ _).drew⟩
theorem ret_lim_yes {p q : Int} (h : 1 ≤ q ∧ q ≤ 1000000 ∧ -1000000000 ≤ p ∧ p ≤ 1000000000) : Ending.returned (.bool true) = .returned (.bool (lim p q)) := by rw [(lim_iff p q).2 h]
theorem lim_no {p q : Int} (h : ¬ (1 ≤ q ∧ q ≤ 1000000 ∧ -1000000000 ≤ p ∧ p ≤ 1000000000)) : lim p q = false := by
  cases e : lim p q
  · rfl
  · exact absurd ((lim_iff p q).1 e) h
theorem ret_lim_no {p q : Int} (h : ¬ (1 ≤ q ∧ q ≤ 1000000 ∧ -1000000000 ≤ p ∧ p ≤ 1000000000)) : Ending.returned (.bool false) = .returned (.bool (lim p q)) := by rw [lim_no h]
set_option maxHeartbeats 1000000 in
theorem limited_any (p q : Int) (w : World) : Calls Tryd.prog 64 #[.agg #[.int .i64 p, .int .i64 q]] w fun e w' => e = .returned (.bool (lim p q)) ∧ Below w.heap.size w w' := by
  have hcase : (1000000000 < p ∧ decide (p ≤ 1000000000) = false) ∨ (p ≤ 1000000000 ∧ decide (p ≤ 1000000000) = true) := by
    rcases Int.lt_or_le 1000000000 p with h | h
    · exact .inl ⟨h, decide_eq_false (by omega)⟩
    · exact .inr ⟨h, decide_eq_true h⟩
  rcases hcase with ⟨hm, hmb⟩ | ⟨hm, hmb⟩
  all_goals
    go_enter Tryd.func64, Tryd.ntmps64
    go_wp2
  all_goals
    go_ret
    refine ⟨?_, (Below.refl _ _).alloc (Nat.le_refl _) _⟩
    first
      | exact ret_lim_yes (by omega)
      | exact ret_lim_no (by omega)
theorem reduced_at {n d : Int} (W : World) (c : Nat) (os : Array Obj) (h : (-4000000000000000000 ≤ n ∧ n ≤ 4000000000000000000) ∧ -4000000000000000000 ≤ d ∧ d ≤ 4000000000000000000 ∧ d ≠ 0) :
    Calls Tryd.prog 65 #[.int .i64 n, .int .i64 d] (grow (redrawn W c) os) fun e w' => e = .returned (.agg #[.int .i64 (rd n d).1, .int .i64 (rd n d).2]) ∧ ∃ p : Regrown, w' = grow (redrawn W p.d) p.os :=
  Calls.regrown_of (reduced_any n d _ h.1.1 h.1.2 h.2.1 h.2.2.1 h.2.2.2)
theorem limited_at (p q : Int) (W : World) (c : Nat) (os : Array Obj) :
    Calls Tryd.prog 64 #[.agg #[.int .i64 p, .int .i64 q]] (grow (redrawn W c) os) fun e w' => e = .returned (.bool (lim p q)) ∧ ∃ p : Regrown, w' = grow (redrawn W p.d) p.os :=
  Calls.regrown_of (limited_any p q _)
theorem fieldsR : Tryd.prog.underlying 23 = some (.struct (Tryd.prog.fieldsOf 23)) := by kernel_rfl
theorem stoodR : Tryd.prog.stoodInHeld 23 = false := by kernel_rfl
theorem run_eql_R (W : World) (a b c d : Int) : (binOp .eql 23 (.agg #[.int .i64 a, .int .i64 b]) (.agg #[.int .i64 c, .int .i64 d])).run Tryd.prog W = .ok (.bool (a == c && b == d)) W := by
  rw [run_eql_struct, run_equalIn_struct _ _ _ _ _ fieldsR stoodR]
  simp [go_sem]
  by_cases h1 : a = c <;> by_cases h2 : b = d <;> simp [h1, h2]
theorem run_neq_R (W : World) (a b c d : Int) : (binOp .neq 23 (.agg #[.int .i64 a, .int .i64 b]) (.agg #[.int .i64 c, .int .i64 d])).run Tryd.prog W = .ok (.bool (!(a == c && b == d))) W := by
  rw [run_neq_struct, run_equalIn_struct _ _ _ _ _ fieldsR stoodR]
  simp [go_sem]
  by_cases h1 : a = c <;> by_cases h2 : b = d <;> simp [h1, h2]
attribute [go_sem ↓] run_eql_R run_neq_R
set_option maxHeartbeats 1000000 in
theorem qValid_any (p q : Int) (w : World) : Calls Tryd.prog 17 #[.agg #[.int .i64 p, .int .i64 q]] w fun e w' => e = .returned (.bool (vR p q)) ∧ Below w.heap.size w w' := by
  go_enter Tryd.func17, Tryd.ntmps17
  go_wp2_with fail
  have hb0 : Below w.heap.size w (w.alloc (.cells #[.int .i64 p, .int .i64 q] 23)) := (Below.refl _ _).alloc (Nat.le_refl _) _
  have hC := CellsAt.new w #[.int .i64 p, .int .i64 q] 23
  have H0 := Lib.hid hb0
  have hz0 : w.heap.size < (w.alloc (.cells #[.int .i64 p, .int .i64 q] 23)).heap.size := by simp
  clear hb0
  generalize w.alloc (.cells #[.int .i64 p, .int .i64 q] 23) = W at *
  have r0 := fun d os => cell_regrown (hC 0 _ rfl) d os
  have r1 := fun d os => cell_regrown (hC 1 _ rfl) d os
  cases hl : lim p q
  · have HL := Lib.hid hl
    have HV := Lib.hid (show vR p q = false by unfold vR; rw [hl]; rfl)
    clear hl
    refine wp_region_quiet_below (by kernel_rfl) (by kernel_rfl) ?_
    repeat (go_big_quiet_step ((go_at_call 64; go_must (exact HL.out ▸ limited_at p q _ _ _))))
    refine wpQuiet_nil ?_
    intro _ hw'
    obtain ⟨⟨dq, osq⟩, hw''⟩ := hw'
    subst hw''
    go_wp2_with fail
    go_ret
    exact ⟨ret_bool HV.out.symm, H0.out.trans ((below_regrown W dq osq).mono (Nat.le_of_lt hz0))⟩
  · have hbd := (lim_iff p q).1 hl
    have HL := Lib.hid hl
    have HV := Lib.hid (show vR p q = decide (Int.gcd p q = 1) by unfold vR; rw [hl]; rfl)
    have HR := Lib.hid (rd_self (p := p) (q := q) hbd.1)
    have HX := fun d os => reduced_at (n := p) (d := q) W d os (by omega)
    have HX2 := Lib.hid HX
    clear hl HX
    generalize rd p q = R at *
    obtain ⟨x, y⟩ := R
    refine wp_region_quiet_below (by kernel_rfl) (by kernel_rfl) ?_
    repeat (go_big_quiet_step (first | (go_at_call 64; go_must (exact HL.out ▸ limited_at p q _ _ _)) | (go_at_call 65; go_must (exact HX2.out _ _))))
    refine wpQuiet_nil ?_
    intro _ hw'
    obtain ⟨⟨dq, osq⟩, hw''⟩ := hw'
    subst hw''
    go_wp2_with fail
    go_ret
    refine ⟨ret_bool ?_, H0.out.trans ((below_regrown W dq osq).mono (Nat.le_of_lt hz0))⟩
    rw [HV.out, Bool.eq_iff_iff]
    simp only [Bool.and_eq_true, beq_iff_eq, decide_eq_true_iff]
    rw [← HR.out, Prod.mk.injEq]
end Go.Proofs.YtpkekfhnpcjgkaaDoor
