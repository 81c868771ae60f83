/- The walks of Covers and its reference. -/
import Derived.Test.YtpkekfhnpcjgkaaDoorW3
namespace Go.Proofs.YtpkekfhnpcjgkaaDoor
open Go.RowKit
open Nw
open Go.Sort (grow)

theorem cv_bad1 {a b : Rule} (h : a.ck ≠ 0) : a.cv b = false := by unfold Rule.cv; rw [ck_bad h]; rfl
theorem cv_bad2 {a b : Rule} (h : b.ck ≠ 0) : a.cv b = false := by unfold Rule.cv; rw [ck_bad h]; simp
theorem cv_code {a b : Rule} (h : a.ck = 0) (h' : b.ck = 0) : a.cv b = (a.mt b.ad b.lo && a.mt (b.ad + (sz b.bi - 1)) b.hi) := by unfold Rule.cv; rw [ck_ok0 h, ck_ok0 h']; rfl
theorem cv_ref_code {a b : Rule} (h : a.ck = 0) (h' : b.ck = 0) : a.cv b = (decide (a.bi ≤ b.bi) && ((b.ad / sz a.bi == a.ad / sz a.bi) && (decide (a.lo ≤ b.lo) && decide (b.hi ≤ a.hi)))) := by
  rw [Rule.cv_ref, ck_ok0 h, ck_ok0 h', Bool.eq_iff_iff]
  simp only [Bool.and_eq_true, decide_eq_true_iff, true_and, beq_iff_eq, and_assoc]
set_option maxHeartbeats 2000000 in
set_option maxRecDepth 100000 in
theorem Covers_any (al1 : Bool) (ad1 bi1 lo1 hi1 : Int) (al2 : Bool) (ad2 bi2 lo2 hi2 : Int) (w : World) :
    Calls Tryd.prog 58 #[.agg #[.bool al1, .int .i64 ad1, .int .i64 bi1, .int .i64 lo1, .int .i64 hi1], .agg #[.bool al2, .int .i64 ad2, .int .i64 bi2, .int .i64 lo2, .int .i64 hi2]] w fun e w' => e = .returned (.bool ((Rule.mk al1 ad1 bi1 lo1 hi1).cv (Rule.mk al2 ad2 bi2 lo2 hi2))) ∧ Below w.heap.size w w' := by
  by_cases h1 : (Rule.mk al1 ad1 bi1 lo1 hi1).ck = 0
  · by_cases h2 : (Rule.mk al2 ad2 bi2 lo2 hi2).ck = 0
    · obtain ⟨r1, r2, r3, r4, -, -, -, -⟩ := ck_rng h2
      simp only at r1 r2 r3 r4
      have HM := Lib.hid (show (Rule.mk al1 ad1 bi1 lo1 hi1).cv (Rule.mk al2 ad2 bi2 lo2 hi2) = ((Rule.mk al1 ad1 bi1 lo1 hi1).mt ad2 lo2 && (Rule.mk al1 ad1 bi1 lo1 hi1).mt (ad2 + (sz bi2 - 1)) hi2) from cv_code h1 h2)
      have HR := Lib.hid (fun W d os => rest_at bi2 W d os ⟨r3, r4⟩)
      have z1 := sz_pos bi2
      have z2 := sz_le bi2
      generalize sz bi2 = z at *
      have e1 : IntKind.i64.wrap (z - 1) = z - 1 := IntWalk.i64_in _ (by omega)
      have e2 : IntKind.i64.wrap (ad2 + (z - 1)) = ad2 + (z - 1) := IntWalk.i64_in _ (by omega)
      cases h3 : (Rule.mk al1 ad1 bi1 lo1 hi1).mt ad2 lo2
      · have HD := Lib.hid (HM.out.trans (by rw [h3] <;> rfl))
        go_enter Tryd.func58, Tryd.ntmps58
        go_wp2_with fail
        have ba : Blk (((w).alloc (.cells #[.bool al1, .int .i64 ad1, .int .i64 bi1, .int .i64 lo1, .int .i64 hi1] 42)).alloc (.cells #[.bool al2, .int .i64 ad2, .int .i64 bi2, .int .i64 lo2, .int .i64 hi2] 42)) (w.heap.size) 42 #[.bool al1, .int .i64 ad1, .int .i64 bi1, .int .i64 lo1, .int .i64 hi1] := (Blk.new _ _ _).alloc _
        have bb : Blk (((w).alloc (.cells #[.bool al1, .int .i64 ad1, .int .i64 bi1, .int .i64 lo1, .int .i64 hi1] 42)).alloc (.cells #[.bool al2, .int .i64 ad2, .int .i64 bi2, .int .i64 lo2, .int .i64 hi2] 42)) (w.heap.size + 1) 42 #[.bool al2, .int .i64 ad2, .int .i64 bi2, .int .i64 lo2, .int .i64 hi2] := Blk.new1 _ _ _ _
        have HB1 := Lib.hid (show Below w.heap.size w (((w).alloc (.cells #[.bool al1, .int .i64 ad1, .int .i64 bi1, .int .i64 lo1, .int .i64 hi1] 42)).alloc (.cells #[.bool al2, .int .i64 ad2, .int .i64 bi2, .int .i64 lo2, .int .i64 hi2] 42)) from ((Below.refl w.heap.size w).alloc (by first | exact Nat.le_refl _ | omega | (simp; done) | (simp; omega)) _).alloc (by first | exact Nat.le_refl _ | omega | (simp; done) | (simp; omega)) _)
        generalize ((w).alloc (.cells #[.bool al1, .int .i64 ad1, .int .i64 bi1, .int .i64 lo1, .int .i64 hi1] 42)).alloc (.cells #[.bool al2, .int .i64 ad2, .int .i64 bi2, .int .i64 lo2, .int .i64 hi2] 42) = w1 at *
        have hz1 : w.heap.size ≤ w1.heap.size := HB1.out.size
        have r_ba0 := fun d os => cell_regrown (v := .bool al1) (ba.cell 0) d os
        have r_ba1 := fun d os => cell_regrown (v := .int .i64 ad1) (ba.cell 1) d os
        have r_ba2 := fun d os => cell_regrown (v := .int .i64 bi1) (ba.cell 2) d os
        have r_ba3 := fun d os => cell_regrown (v := .int .i64 lo1) (ba.cell 3) d os
        have r_ba4 := fun d os => cell_regrown (v := .int .i64 hi1) (ba.cell 4) d os
        have r_bb0 := fun d os => cell_regrown (v := .bool al2) (bb.cell 0) d os
        have r_bb1 := fun d os => cell_regrown (v := .int .i64 ad2) (bb.cell 1) d os
        have r_bb2 := fun d os => cell_regrown (v := .int .i64 bi2) (bb.cell 2) d os
        have r_bb3 := fun d os => cell_regrown (v := .int .i64 lo2) (bb.cell 3) d os
        have r_bb4 := fun d os => cell_regrown (v := .int .i64 hi2) (bb.cell 4) d os
        refine wp_region_quiet_below (by kernel_rfl) (by kernel_rfl) ?_
        repeat (go_big_quiet_step (first | (go_at_call 42; go_must (exact Check_at _ _ _ _ _ _ _ _)) | (go_at_call 77; go_must (exact HR.out _ _ _)) | (go_at_call 56; go_must (exact Matches_at _ _ _ _ _ _ _ _ _ _))))
        refine wpQuiet_nil ?_
        intro _ hw'
        obtain ⟨⟨dq, osq⟩, hw''⟩ := hw'
        subst hw''
        have hb := below_regrown w1 dq osq
        have ba : Blk (Go.Sort.grow (redrawn w1 dq) osq) (w.heap.size) 42 #[.bool al1, .int .i64 ad1, .int .i64 bi1, .int .i64 lo1, .int .i64 hi1] := ba.on hb
        have bb : Blk (Go.Sort.grow (redrawn w1 dq) osq) (w.heap.size + 1) 42 #[.bool al2, .int .i64 ad2, .int .i64 bi2, .int .i64 lo2, .int .i64 hi2] := bb.on hb
        have HB2 := Lib.hid ((HB1.out).trans (hb.mono (by first | exact Nat.le_refl _ | omega | (simp; done) | (simp; omega))))
        clear hb r_ba0 r_ba1 r_ba2 r_ba3 r_ba4 r_bb0 r_bb1 r_bb2 r_bb3 r_bb4
        generalize Go.Sort.grow (redrawn w1 dq) osq = w2 at *
        have hz2 : w.heap.size ≤ w2.heap.size := HB2.out.size
        go_wp2_with fail
        all_goals try (exfalso; omega)
        go_ret
        exact ⟨ret_bool HD.out.symm, HB2.out⟩
      · have HD := Lib.hid (HM.out.trans (by rw [h3] <;> rfl))
        go_enter Tryd.func58, Tryd.ntmps58
        go_wp2_with fail
        have ba : Blk (((w).alloc (.cells #[.bool al1, .int .i64 ad1, .int .i64 bi1, .int .i64 lo1, .int .i64 hi1] 42)).alloc (.cells #[.bool al2, .int .i64 ad2, .int .i64 bi2, .int .i64 lo2, .int .i64 hi2] 42)) (w.heap.size) 42 #[.bool al1, .int .i64 ad1, .int .i64 bi1, .int .i64 lo1, .int .i64 hi1] := (Blk.new _ _ _).alloc _
        have bb : Blk (((w).alloc (.cells #[.bool al1, .int .i64 ad1, .int .i64 bi1, .int .i64 lo1, .int .i64 hi1] 42)).alloc (.cells #[.bool al2, .int .i64 ad2, .int .i64 bi2, .int .i64 lo2, .int .i64 hi2] 42)) (w.heap.size + 1) 42 #[.bool al2, .int .i64 ad2, .int .i64 bi2, .int .i64 lo2, .int .i64 hi2] := Blk.new1 _ _ _ _
        have HB1 := Lib.hid (show Below w.heap.size w (((w).alloc (.cells #[.bool al1, .int .i64 ad1, .int .i64 bi1, .int .i64 lo1, .int .i64 hi1] 42)).alloc (.cells #[.bool al2, .int .i64 ad2, .int .i64 bi2, .int .i64 lo2, .int .i64 hi2] 42)) from ((Below.refl w.heap.size w).alloc (by first | exact Nat.le_refl _ | omega | (simp; done) | (simp; omega)) _).alloc (by first | exact Nat.le_refl _ | omega | (simp; done) | (simp; omega)) _)
        generalize ((w).alloc (.cells #[.bool al1, .int .i64 ad1, .int .i64 bi1, .int .i64 lo1, .int .i64 hi1] 42)).alloc (.cells #[.bool al2, .int .i64 ad2, .int .i64 bi2, .int .i64 lo2, .int .i64 hi2] 42) = w1 at *
        have hz1 : w.heap.size ≤ w1.heap.size := HB1.out.size
        have r_ba0 := fun d os => cell_regrown (v := .bool al1) (ba.cell 0) d os
        have r_ba1 := fun d os => cell_regrown (v := .int .i64 ad1) (ba.cell 1) d os
        have r_ba2 := fun d os => cell_regrown (v := .int .i64 bi1) (ba.cell 2) d os
        have r_ba3 := fun d os => cell_regrown (v := .int .i64 lo1) (ba.cell 3) d os
        have r_ba4 := fun d os => cell_regrown (v := .int .i64 hi1) (ba.cell 4) d os
        have r_bb0 := fun d os => cell_regrown (v := .bool al2) (bb.cell 0) d os
        have r_bb1 := fun d os => cell_regrown (v := .int .i64 ad2) (bb.cell 1) d os
        have r_bb2 := fun d os => cell_regrown (v := .int .i64 bi2) (bb.cell 2) d os
        have r_bb3 := fun d os => cell_regrown (v := .int .i64 lo2) (bb.cell 3) d os
        have r_bb4 := fun d os => cell_regrown (v := .int .i64 hi2) (bb.cell 4) d os
        refine wp_region_quiet_below (by kernel_rfl) (by kernel_rfl) ?_
        repeat (go_big_quiet_step (first | (go_at_call 42; go_must (exact Check_at _ _ _ _ _ _ _ _)) | (go_at_call 77; go_must (exact HR.out _ _ _)) | (go_at_call 56; go_must (exact Matches_at _ _ _ _ _ _ _ _ _ _))))
        refine wpQuiet_nil ?_
        intro _ hw'
        obtain ⟨⟨dq, osq⟩, hw''⟩ := hw'
        subst hw''
        have hb := below_regrown w1 dq osq
        have ba : Blk (Go.Sort.grow (redrawn w1 dq) osq) (w.heap.size) 42 #[.bool al1, .int .i64 ad1, .int .i64 bi1, .int .i64 lo1, .int .i64 hi1] := ba.on hb
        have bb : Blk (Go.Sort.grow (redrawn w1 dq) osq) (w.heap.size + 1) 42 #[.bool al2, .int .i64 ad2, .int .i64 bi2, .int .i64 lo2, .int .i64 hi2] := bb.on hb
        have HB2 := Lib.hid ((HB1.out).trans (hb.mono (by first | exact Nat.le_refl _ | omega | (simp; done) | (simp; omega))))
        clear hb r_ba0 r_ba1 r_ba2 r_ba3 r_ba4 r_bb0 r_bb1 r_bb2 r_bb3 r_bb4
        generalize Go.Sort.grow (redrawn w1 dq) osq = w2 at *
        have hz2 : w.heap.size ≤ w2.heap.size := HB2.out.size
        go_wp2_with fail
        all_goals try (exfalso; omega)
        go_ret
        exact ⟨ret_bool HD.out.symm, HB2.out⟩
    · have HD := Lib.hid (cv_bad2 (a := (Rule.mk al1 ad1 bi1 lo1 hi1)) h2)
      have hcb : ((Rule.mk al2 ad2 bi2 lo2 hi2).ck == 0) = false := beq_eq_false_iff_ne.2 h2
      clear h2
      go_enter Tryd.func58, Tryd.ntmps58
      go_wp2_with fail
      have ba : Blk (((w).alloc (.cells #[.bool al1, .int .i64 ad1, .int .i64 bi1, .int .i64 lo1, .int .i64 hi1] 42)).alloc (.cells #[.bool al2, .int .i64 ad2, .int .i64 bi2, .int .i64 lo2, .int .i64 hi2] 42)) (w.heap.size) 42 #[.bool al1, .int .i64 ad1, .int .i64 bi1, .int .i64 lo1, .int .i64 hi1] := (Blk.new _ _ _).alloc _
      have bb : Blk (((w).alloc (.cells #[.bool al1, .int .i64 ad1, .int .i64 bi1, .int .i64 lo1, .int .i64 hi1] 42)).alloc (.cells #[.bool al2, .int .i64 ad2, .int .i64 bi2, .int .i64 lo2, .int .i64 hi2] 42)) (w.heap.size + 1) 42 #[.bool al2, .int .i64 ad2, .int .i64 bi2, .int .i64 lo2, .int .i64 hi2] := Blk.new1 _ _ _ _
      have HB1 := Lib.hid (show Below w.heap.size w (((w).alloc (.cells #[.bool al1, .int .i64 ad1, .int .i64 bi1, .int .i64 lo1, .int .i64 hi1] 42)).alloc (.cells #[.bool al2, .int .i64 ad2, .int .i64 bi2, .int .i64 lo2, .int .i64 hi2] 42)) from ((Below.refl w.heap.size w).alloc (by first | exact Nat.le_refl _ | omega | (simp; done) | (simp; omega)) _).alloc (by first | exact Nat.le_refl _ | omega | (simp; done) | (simp; omega)) _)
      generalize ((w).alloc (.cells #[.bool al1, .int .i64 ad1, .int .i64 bi1, .int .i64 lo1, .int .i64 hi1] 42)).alloc (.cells #[.bool al2, .int .i64 ad2, .int .i64 bi2, .int .i64 lo2, .int .i64 hi2] 42) = w1 at *
      have hz1 : w.heap.size ≤ w1.heap.size := HB1.out.size
      have r_ba0 := fun d os => cell_regrown (v := .bool al1) (ba.cell 0) d os
      have r_ba1 := fun d os => cell_regrown (v := .int .i64 ad1) (ba.cell 1) d os
      have r_ba2 := fun d os => cell_regrown (v := .int .i64 bi1) (ba.cell 2) d os
      have r_ba3 := fun d os => cell_regrown (v := .int .i64 lo1) (ba.cell 3) d os
      have r_ba4 := fun d os => cell_regrown (v := .int .i64 hi1) (ba.cell 4) d os
      have r_bb0 := fun d os => cell_regrown (v := .bool al2) (bb.cell 0) d os
      have r_bb1 := fun d os => cell_regrown (v := .int .i64 ad2) (bb.cell 1) d os
      have r_bb2 := fun d os => cell_regrown (v := .int .i64 bi2) (bb.cell 2) d os
      have r_bb3 := fun d os => cell_regrown (v := .int .i64 lo2) (bb.cell 3) d os
      have r_bb4 := fun d os => cell_regrown (v := .int .i64 hi2) (bb.cell 4) d os
      refine wp_region_quiet_below (by kernel_rfl) (by kernel_rfl) ?_
      repeat (go_big_quiet_step ((go_at_call 42; go_must (exact Check_at _ _ _ _ _ _ _ _))))
      refine wpQuiet_nil ?_
      intro _ hw'
      obtain ⟨⟨dq, osq⟩, hw''⟩ := hw'
      subst hw''
      have hb := below_regrown w1 dq osq
      have ba : Blk (Go.Sort.grow (redrawn w1 dq) osq) (w.heap.size) 42 #[.bool al1, .int .i64 ad1, .int .i64 bi1, .int .i64 lo1, .int .i64 hi1] := ba.on hb
      have bb : Blk (Go.Sort.grow (redrawn w1 dq) osq) (w.heap.size + 1) 42 #[.bool al2, .int .i64 ad2, .int .i64 bi2, .int .i64 lo2, .int .i64 hi2] := bb.on hb
      have HB2 := Lib.hid ((HB1.out).trans (hb.mono (by first | exact Nat.le_refl _ | omega | (simp; done) | (simp; omega))))
      clear hb r_ba0 r_ba1 r_ba2 r_ba3 r_ba4 r_bb0 r_bb1 r_bb2 r_bb3 r_bb4
      generalize Go.Sort.grow (redrawn w1 dq) osq = w2 at *
      have hz2 : w.heap.size ≤ w2.heap.size := HB2.out.size
      go_wp2_with fail
      all_goals try (exfalso; omega)
      go_ret
      exact ⟨ret_bool HD.out.symm, HB2.out⟩
  · have HD := Lib.hid (cv_bad1 (b := (Rule.mk al2 ad2 bi2 lo2 hi2)) h1)
    have hcb : ((Rule.mk al1 ad1 bi1 lo1 hi1).ck == 0) = false := beq_eq_false_iff_ne.2 h1
    clear h1
    go_enter Tryd.func58, Tryd.ntmps58
    go_wp2_with fail
    have ba : Blk (((w).alloc (.cells #[.bool al1, .int .i64 ad1, .int .i64 bi1, .int .i64 lo1, .int .i64 hi1] 42)).alloc (.cells #[.bool al2, .int .i64 ad2, .int .i64 bi2, .int .i64 lo2, .int .i64 hi2] 42)) (w.heap.size) 42 #[.bool al1, .int .i64 ad1, .int .i64 bi1, .int .i64 lo1, .int .i64 hi1] := (Blk.new _ _ _).alloc _
    have bb : Blk (((w).alloc (.cells #[.bool al1, .int .i64 ad1, .int .i64 bi1, .int .i64 lo1, .int .i64 hi1] 42)).alloc (.cells #[.bool al2, .int .i64 ad2, .int .i64 bi2, .int .i64 lo2, .int .i64 hi2] 42)) (w.heap.size + 1) 42 #[.bool al2, .int .i64 ad2, .int .i64 bi2, .int .i64 lo2, .int .i64 hi2] := Blk.new1 _ _ _ _
    have HB1 := Lib.hid (show Below w.heap.size w (((w).alloc (.cells #[.bool al1, .int .i64 ad1, .int .i64 bi1, .int .i64 lo1, .int .i64 hi1] 42)).alloc (.cells #[.bool al2, .int .i64 ad2, .int .i64 bi2, .int .i64 lo2, .int .i64 hi2] 42)) from ((Below.refl w.heap.size w).alloc (by first | exact Nat.le_refl _ | omega | (simp; done) | (simp; omega)) _).alloc (by first | exact Nat.le_refl _ | omega | (simp; done) | (simp; omega)) _)
    generalize ((w).alloc (.cells #[.bool al1, .int .i64 ad1, .int .i64 bi1, .int .i64 lo1, .int .i64 hi1] 42)).alloc (.cells #[.bool al2, .int .i64 ad2, .int .i64 bi2, .int .i64 lo2, .int .i64 hi2] 42) = w1 at *
    have hz1 : w.heap.size ≤ w1.heap.size := HB1.out.size
    have r_ba0 := fun d os => cell_regrown (v := .bool al1) (ba.cell 0) d os
    have r_ba1 := fun d os => cell_regrown (v := .int .i64 ad1) (ba.cell 1) d os
    have r_ba2 := fun d os => cell_regrown (v := .int .i64 bi1) (ba.cell 2) d os
    have r_ba3 := fun d os => cell_regrown (v := .int .i64 lo1) (ba.cell 3) d os
    have r_ba4 := fun d os => cell_regrown (v := .int .i64 hi1) (ba.cell 4) d os
    have r_bb0 := fun d os => cell_regrown (v := .bool al2) (bb.cell 0) d os
    have r_bb1 := fun d os => cell_regrown (v := .int .i64 ad2) (bb.cell 1) d os
    have r_bb2 := fun d os => cell_regrown (v := .int .i64 bi2) (bb.cell 2) d os
    have r_bb3 := fun d os => cell_regrown (v := .int .i64 lo2) (bb.cell 3) d os
    have r_bb4 := fun d os => cell_regrown (v := .int .i64 hi2) (bb.cell 4) d os
    refine wp_region_quiet_below (by kernel_rfl) (by kernel_rfl) ?_
    repeat (go_big_quiet_step ((go_at_call 42; go_must (exact Check_at _ _ _ _ _ _ _ _))))
    refine wpQuiet_nil ?_
    intro _ hw'
    obtain ⟨⟨dq, osq⟩, hw''⟩ := hw'
    subst hw''
    have hb := below_regrown w1 dq osq
    have ba : Blk (Go.Sort.grow (redrawn w1 dq) osq) (w.heap.size) 42 #[.bool al1, .int .i64 ad1, .int .i64 bi1, .int .i64 lo1, .int .i64 hi1] := ba.on hb
    have bb : Blk (Go.Sort.grow (redrawn w1 dq) osq) (w.heap.size + 1) 42 #[.bool al2, .int .i64 ad2, .int .i64 bi2, .int .i64 lo2, .int .i64 hi2] := bb.on hb
    have HB2 := Lib.hid ((HB1.out).trans (hb.mono (by first | exact Nat.le_refl _ | omega | (simp; done) | (simp; omega))))
    clear hb r_ba0 r_ba1 r_ba2 r_ba3 r_ba4 r_bb0 r_bb1 r_bb2 r_bb3 r_bb4
    generalize Go.Sort.grow (redrawn w1 dq) osq = w2 at *
    have hz2 : w.heap.size ≤ w2.heap.size := HB2.out.size
    go_wp2_with fail
    all_goals try (exfalso; omega)
    go_ret
    exact ⟨ret_bool HD.out.symm, HB2.out⟩
set_option maxHeartbeats 2000000 in
set_option maxRecDepth 100000 in
theorem rCovers_any (al1 : Bool) (ad1 bi1 lo1 hi1 : Int) (al2 : Bool) (ad2 bi2 lo2 hi2 : Int) (w : World) :
    Calls Tryd.prog 59 #[.agg #[.bool al1, .int .i64 ad1, .int .i64 bi1, .int .i64 lo1, .int .i64 hi1], .agg #[.bool al2, .int .i64 ad2, .int .i64 bi2, .int .i64 lo2, .int .i64 hi2]] w fun e w' => e = .returned (.bool ((Rule.mk al1 ad1 bi1 lo1 hi1).cv (Rule.mk al2 ad2 bi2 lo2 hi2))) ∧ Below w.heap.size w w' := by
  by_cases h1 : (Rule.mk al1 ad1 bi1 lo1 hi1).ck = 0
  · by_cases h2 : (Rule.mk al2 ad2 bi2 lo2 hi2).ck = 0
    · obtain ⟨r1, r2, r3, r4, -, -, -, -⟩ := ck_rng h1
      obtain ⟨s1, s2, s3, s4, -, -, -, -⟩ := ck_rng h2
      simp only at r1 r2 r3 r4 s1 s2 s3 s4
      have HM := Lib.hid (show (Rule.mk al1 ad1 bi1 lo1 hi1).cv (Rule.mk al2 ad2 bi2 lo2 hi2) = (decide (bi1 ≤ bi2) && ((ad2 / sz bi1 == ad1 / sz bi1) && (decide (lo1 ≤ lo2) && decide (hi2 ≤ hi1)))) from cv_ref_code h1 h2)
      have HR := Lib.hid (fun W d os => rsize_at bi1 W d os ⟨r3, r4⟩)
      have H1 := Lib.hid h1
      have H2 := Lib.hid h2
      clear h1 h2
      have z1 := sz_pos bi1
      have z2 := sz_le bi1
      have zne : sz bi1 ≠ 0 := by omega
      have t1 : ad2.tdiv (sz bi1) = ad2 / sz bi1 := Int.tdiv_eq_ediv_of_nonneg s1
      have t2 : ad1.tdiv (sz bi1) = ad1 / sz bi1 := Int.tdiv_eq_ediv_of_nonneg r1
      have t3 : 0 ≤ ad2 / sz bi1 ∧ ad2 / sz bi1 ≤ ad2 := ⟨Int.ediv_nonneg s1 (by omega), Int.ediv_le_self _ s1⟩
      have t4 : 0 ≤ ad1 / sz bi1 ∧ ad1 / sz bi1 ≤ ad1 := ⟨Int.ediv_nonneg r1 (by omega), Int.ediv_le_self _ r1⟩
      generalize hzz : sz bi1 = z at *
      have HZZ := Lib.hid hzz
      clear hzz
      generalize ad2 / z = x at *
      generalize ad1 / z = y at *
      have e1 : IntKind.i64.wrap x = x := IntWalk.i64_in _ (by omega)
      have e2 : IntKind.i64.wrap y = y := IntWalk.i64_in _ (by omega)
      by_cases g0 : bi1 ≤ bi2
      · have d1 : decide (bi1 ≤ bi2) = true := decide_eq_true g0
        clear g0
        by_cases g1 : x = y
        · have hb : (x == y) = true := beq_iff_eq.2 g1
          clear g1
          by_cases g2 : lo1 ≤ lo2
          · have d2 : decide (lo1 ≤ lo2) = true := decide_eq_true g2
            clear g2
            by_cases g3 : hi2 ≤ hi1
            · have d3 : decide (hi2 ≤ hi1) = true := decide_eq_true g3
              clear g3
              have HD := Lib.hid (HM.out.trans (by rw [d1, hb, d2, d3] <;> rfl))
              go_enter Tryd.func59, Tryd.ntmps59
              go_wp2_with fail
              refine (rCheck_any _ _ _ _ _ _).mono ?_
              rintro e w1 ⟨rfl, hb⟩
              have ba : Blk w1 (w.heap.size) 42 #[.bool al1, .int .i64 ad1, .int .i64 bi1, .int .i64 lo1, .int .i64 hi1] := ((Blk.new _ _ _).alloc _).on hb
              have bb : Blk w1 (w.heap.size + 1) 42 #[.bool al2, .int .i64 ad2, .int .i64 bi2, .int .i64 lo2, .int .i64 hi2] := (Blk.new1 _ _ _ _).on hb
              have hbz := hb.size
              have HB1 := Lib.hid ((((Below.refl w.heap.size w).alloc (by first | exact Nat.le_refl _ | omega | (simp; done) | (simp; omega)) _).alloc (by first | exact Nat.le_refl _ | omega | (simp; done) | (simp; omega)) _).trans (hb.mono (by first | exact Nat.le_refl _ | omega | (simp; done) | (simp; omega))))
              have hz1 : w.heap.size ≤ w1.heap.size := HB1.out.size
              clear hb hbz
              rw [H1.out]
              have q_bb0 : w1.cell? ⟨w.heap.size + 1, 0, none⟩ = some (.bool al2) := bb.cell 0
              have q_bb1 : w1.cell? ⟨w.heap.size + 1, 1, none⟩ = some (.int .i64 ad2) := bb.cell 1
              have q_bb2 : w1.cell? ⟨w.heap.size + 1, 2, none⟩ = some (.int .i64 bi2) := bb.cell 2
              have q_bb3 : w1.cell? ⟨w.heap.size + 1, 3, none⟩ = some (.int .i64 lo2) := bb.cell 3
              have q_bb4 : w1.cell? ⟨w.heap.size + 1, 4, none⟩ = some (.int .i64 hi2) := bb.cell 4
              go_wp2_with fail
              refine (rCheck_any _ _ _ _ _ _).mono ?_
              rintro e w2 ⟨rfl, hb⟩
              clear q_bb0 q_bb1 q_bb2 q_bb3 q_bb4
              have ba : Blk w2 (w.heap.size) 42 #[.bool al1, .int .i64 ad1, .int .i64 bi1, .int .i64 lo1, .int .i64 hi1] := (ba).on hb
              have bb : Blk w2 (w.heap.size + 1) 42 #[.bool al2, .int .i64 ad2, .int .i64 bi2, .int .i64 lo2, .int .i64 hi2] := (bb).on hb
              have hbz := hb.size
              have HB2 := Lib.hid ((HB1.out).trans (hb.mono (by first | exact Nat.le_refl _ | omega | (simp; done) | (simp; omega))))
              have hz2 : w.heap.size ≤ w2.heap.size := HB2.out.size
              clear hb hbz
              rw [H2.out]
              go_wp2_with fail
              have r_ba0 := fun d os => cell_regrown (v := .bool al1) (ba.cell 0) d os
              have r_ba1 := fun d os => cell_regrown (v := .int .i64 ad1) (ba.cell 1) d os
              have r_ba2 := fun d os => cell_regrown (v := .int .i64 bi1) (ba.cell 2) d os
              have r_ba3 := fun d os => cell_regrown (v := .int .i64 lo1) (ba.cell 3) d os
              have r_ba4 := fun d os => cell_regrown (v := .int .i64 hi1) (ba.cell 4) d os
              have r_bb0 := fun d os => cell_regrown (v := .bool al2) (bb.cell 0) d os
              have r_bb1 := fun d os => cell_regrown (v := .int .i64 ad2) (bb.cell 1) d os
              have r_bb2 := fun d os => cell_regrown (v := .int .i64 bi2) (bb.cell 2) d os
              have r_bb3 := fun d os => cell_regrown (v := .int .i64 lo2) (bb.cell 3) d os
              have r_bb4 := fun d os => cell_regrown (v := .int .i64 hi2) (bb.cell 4) d os
              refine wp_region_quiet_below (by kernel_rfl) (by kernel_rfl) ?_
              repeat (go_big_quiet_step ((go_at_call 80; go_must (exact HR.out _ _ _))))
              refine wpQuiet_nil ?_
              intro _ hw'
              obtain ⟨⟨dq, osq⟩, hw''⟩ := hw'
              subst hw''
              have hb := below_regrown w2 dq osq
              have ba : Blk (Go.Sort.grow (redrawn w2 dq) osq) (w.heap.size) 42 #[.bool al1, .int .i64 ad1, .int .i64 bi1, .int .i64 lo1, .int .i64 hi1] := ba.on hb
              have bb : Blk (Go.Sort.grow (redrawn w2 dq) osq) (w.heap.size + 1) 42 #[.bool al2, .int .i64 ad2, .int .i64 bi2, .int .i64 lo2, .int .i64 hi2] := bb.on hb
              have HB3 := Lib.hid ((HB2.out).trans (hb.mono (by first | exact Nat.le_refl _ | omega | (simp; done) | (simp; omega))))
              clear hb r_ba0 r_ba1 r_ba2 r_ba3 r_ba4 r_bb0 r_bb1 r_bb2 r_bb3 r_bb4
              generalize Go.Sort.grow (redrawn w2 dq) osq = w3 at *
              have hz3 : w.heap.size ≤ w3.heap.size := HB3.out.size
              go_wp2_with fail
              all_goals try (exfalso; omega)
              go_ret
              exact ⟨ret_bool HD.out.symm, HB3.out⟩
            · have d3 : decide (hi2 ≤ hi1) = false := decide_eq_false g3
              have HD := Lib.hid (HM.out.trans (by rw [d1, hb, d2, d3] <;> rfl))
              clear g3
              go_enter Tryd.func59, Tryd.ntmps59
              go_wp2_with fail
              refine (rCheck_any _ _ _ _ _ _).mono ?_
              rintro e w1 ⟨rfl, hb⟩
              have ba : Blk w1 (w.heap.size) 42 #[.bool al1, .int .i64 ad1, .int .i64 bi1, .int .i64 lo1, .int .i64 hi1] := ((Blk.new _ _ _).alloc _).on hb
              have bb : Blk w1 (w.heap.size + 1) 42 #[.bool al2, .int .i64 ad2, .int .i64 bi2, .int .i64 lo2, .int .i64 hi2] := (Blk.new1 _ _ _ _).on hb
              have hbz := hb.size
              have HB1 := Lib.hid ((((Below.refl w.heap.size w).alloc (by first | exact Nat.le_refl _ | omega | (simp; done) | (simp; omega)) _).alloc (by first | exact Nat.le_refl _ | omega | (simp; done) | (simp; omega)) _).trans (hb.mono (by first | exact Nat.le_refl _ | omega | (simp; done) | (simp; omega))))
              have hz1 : w.heap.size ≤ w1.heap.size := HB1.out.size
              clear hb hbz
              rw [H1.out]
              have q_bb0 : w1.cell? ⟨w.heap.size + 1, 0, none⟩ = some (.bool al2) := bb.cell 0
              have q_bb1 : w1.cell? ⟨w.heap.size + 1, 1, none⟩ = some (.int .i64 ad2) := bb.cell 1
              have q_bb2 : w1.cell? ⟨w.heap.size + 1, 2, none⟩ = some (.int .i64 bi2) := bb.cell 2
              have q_bb3 : w1.cell? ⟨w.heap.size + 1, 3, none⟩ = some (.int .i64 lo2) := bb.cell 3
              have q_bb4 : w1.cell? ⟨w.heap.size + 1, 4, none⟩ = some (.int .i64 hi2) := bb.cell 4
              go_wp2_with fail
              refine (rCheck_any _ _ _ _ _ _).mono ?_
              rintro e w2 ⟨rfl, hb⟩
              clear q_bb0 q_bb1 q_bb2 q_bb3 q_bb4
              have ba : Blk w2 (w.heap.size) 42 #[.bool al1, .int .i64 ad1, .int .i64 bi1, .int .i64 lo1, .int .i64 hi1] := (ba).on hb
              have bb : Blk w2 (w.heap.size + 1) 42 #[.bool al2, .int .i64 ad2, .int .i64 bi2, .int .i64 lo2, .int .i64 hi2] := (bb).on hb
              have hbz := hb.size
              have HB2 := Lib.hid ((HB1.out).trans (hb.mono (by first | exact Nat.le_refl _ | omega | (simp; done) | (simp; omega))))
              have hz2 : w.heap.size ≤ w2.heap.size := HB2.out.size
              clear hb hbz
              rw [H2.out]
              go_wp2_with fail
              have r_ba0 := fun d os => cell_regrown (v := .bool al1) (ba.cell 0) d os
              have r_ba1 := fun d os => cell_regrown (v := .int .i64 ad1) (ba.cell 1) d os
              have r_ba2 := fun d os => cell_regrown (v := .int .i64 bi1) (ba.cell 2) d os
              have r_ba3 := fun d os => cell_regrown (v := .int .i64 lo1) (ba.cell 3) d os
              have r_ba4 := fun d os => cell_regrown (v := .int .i64 hi1) (ba.cell 4) d os
              have r_bb0 := fun d os => cell_regrown (v := .bool al2) (bb.cell 0) d os
              have r_bb1 := fun d os => cell_regrown (v := .int .i64 ad2) (bb.cell 1) d os
              have r_bb2 := fun d os => cell_regrown (v := .int .i64 bi2) (bb.cell 2) d os
              have r_bb3 := fun d os => cell_regrown (v := .int .i64 lo2) (bb.cell 3) d os
              have r_bb4 := fun d os => cell_regrown (v := .int .i64 hi2) (bb.cell 4) d os
              refine wp_region_quiet_below (by kernel_rfl) (by kernel_rfl) ?_
              repeat (go_big_quiet_step ((go_at_call 80; go_must (exact HR.out _ _ _))))
              refine wpQuiet_nil ?_
              intro _ hw'
              obtain ⟨⟨dq, osq⟩, hw''⟩ := hw'
              subst hw''
              have hb := below_regrown w2 dq osq
              have ba : Blk (Go.Sort.grow (redrawn w2 dq) osq) (w.heap.size) 42 #[.bool al1, .int .i64 ad1, .int .i64 bi1, .int .i64 lo1, .int .i64 hi1] := ba.on hb
              have bb : Blk (Go.Sort.grow (redrawn w2 dq) osq) (w.heap.size + 1) 42 #[.bool al2, .int .i64 ad2, .int .i64 bi2, .int .i64 lo2, .int .i64 hi2] := bb.on hb
              have HB3 := Lib.hid ((HB2.out).trans (hb.mono (by first | exact Nat.le_refl _ | omega | (simp; done) | (simp; omega))))
              clear hb r_ba0 r_ba1 r_ba2 r_ba3 r_ba4 r_bb0 r_bb1 r_bb2 r_bb3 r_bb4
              generalize Go.Sort.grow (redrawn w2 dq) osq = w3 at *
              have hz3 : w.heap.size ≤ w3.heap.size := HB3.out.size
              go_wp2_with fail
              all_goals try (exfalso; omega)
              go_ret
              exact ⟨ret_bool HD.out.symm, HB3.out⟩
          · have d2 : decide (lo1 ≤ lo2) = false := decide_eq_false g2
            have HD := Lib.hid (HM.out.trans (by rw [d1, hb, d2] <;> rfl))
            clear g2
            go_enter Tryd.func59, Tryd.ntmps59
            go_wp2_with fail
            refine (rCheck_any _ _ _ _ _ _).mono ?_
            rintro e w1 ⟨rfl, hb⟩
            have ba : Blk w1 (w.heap.size) 42 #[.bool al1, .int .i64 ad1, .int .i64 bi1, .int .i64 lo1, .int .i64 hi1] := ((Blk.new _ _ _).alloc _).on hb
            have bb : Blk w1 (w.heap.size + 1) 42 #[.bool al2, .int .i64 ad2, .int .i64 bi2, .int .i64 lo2, .int .i64 hi2] := (Blk.new1 _ _ _ _).on hb
            have hbz := hb.size
            have HB1 := Lib.hid ((((Below.refl w.heap.size w).alloc (by first | exact Nat.le_refl _ | omega | (simp; done) | (simp; omega)) _).alloc (by first | exact Nat.le_refl _ | omega | (simp; done) | (simp; omega)) _).trans (hb.mono (by first | exact Nat.le_refl _ | omega | (simp; done) | (simp; omega))))
            have hz1 : w.heap.size ≤ w1.heap.size := HB1.out.size
            clear hb hbz
            rw [H1.out]
            have q_bb0 : w1.cell? ⟨w.heap.size + 1, 0, none⟩ = some (.bool al2) := bb.cell 0
            have q_bb1 : w1.cell? ⟨w.heap.size + 1, 1, none⟩ = some (.int .i64 ad2) := bb.cell 1
            have q_bb2 : w1.cell? ⟨w.heap.size + 1, 2, none⟩ = some (.int .i64 bi2) := bb.cell 2
            have q_bb3 : w1.cell? ⟨w.heap.size + 1, 3, none⟩ = some (.int .i64 lo2) := bb.cell 3
            have q_bb4 : w1.cell? ⟨w.heap.size + 1, 4, none⟩ = some (.int .i64 hi2) := bb.cell 4
            go_wp2_with fail
            refine (rCheck_any _ _ _ _ _ _).mono ?_
            rintro e w2 ⟨rfl, hb⟩
            clear q_bb0 q_bb1 q_bb2 q_bb3 q_bb4
            have ba : Blk w2 (w.heap.size) 42 #[.bool al1, .int .i64 ad1, .int .i64 bi1, .int .i64 lo1, .int .i64 hi1] := (ba).on hb
            have bb : Blk w2 (w.heap.size + 1) 42 #[.bool al2, .int .i64 ad2, .int .i64 bi2, .int .i64 lo2, .int .i64 hi2] := (bb).on hb
            have hbz := hb.size
            have HB2 := Lib.hid ((HB1.out).trans (hb.mono (by first | exact Nat.le_refl _ | omega | (simp; done) | (simp; omega))))
            have hz2 : w.heap.size ≤ w2.heap.size := HB2.out.size
            clear hb hbz
            rw [H2.out]
            go_wp2_with fail
            have r_ba0 := fun d os => cell_regrown (v := .bool al1) (ba.cell 0) d os
            have r_ba1 := fun d os => cell_regrown (v := .int .i64 ad1) (ba.cell 1) d os
            have r_ba2 := fun d os => cell_regrown (v := .int .i64 bi1) (ba.cell 2) d os
            have r_ba3 := fun d os => cell_regrown (v := .int .i64 lo1) (ba.cell 3) d os
            have r_ba4 := fun d os => cell_regrown (v := .int .i64 hi1) (ba.cell 4) d os
            have r_bb0 := fun d os => cell_regrown (v := .bool al2) (bb.cell 0) d os
            have r_bb1 := fun d os => cell_regrown (v := .int .i64 ad2) (bb.cell 1) d os
            have r_bb2 := fun d os => cell_regrown (v := .int .i64 bi2) (bb.cell 2) d os
            have r_bb3 := fun d os => cell_regrown (v := .int .i64 lo2) (bb.cell 3) d os
            have r_bb4 := fun d os => cell_regrown (v := .int .i64 hi2) (bb.cell 4) d os
            refine wp_region_quiet_below (by kernel_rfl) (by kernel_rfl) ?_
            repeat (go_big_quiet_step ((go_at_call 80; go_must (exact HR.out _ _ _))))
            refine wpQuiet_nil ?_
            intro _ hw'
            obtain ⟨⟨dq, osq⟩, hw''⟩ := hw'
            subst hw''
            have hb := below_regrown w2 dq osq
            have ba : Blk (Go.Sort.grow (redrawn w2 dq) osq) (w.heap.size) 42 #[.bool al1, .int .i64 ad1, .int .i64 bi1, .int .i64 lo1, .int .i64 hi1] := ba.on hb
            have bb : Blk (Go.Sort.grow (redrawn w2 dq) osq) (w.heap.size + 1) 42 #[.bool al2, .int .i64 ad2, .int .i64 bi2, .int .i64 lo2, .int .i64 hi2] := bb.on hb
            have HB3 := Lib.hid ((HB2.out).trans (hb.mono (by first | exact Nat.le_refl _ | omega | (simp; done) | (simp; omega))))
            clear hb r_ba0 r_ba1 r_ba2 r_ba3 r_ba4 r_bb0 r_bb1 r_bb2 r_bb3 r_bb4
            generalize Go.Sort.grow (redrawn w2 dq) osq = w3 at *
            have hz3 : w.heap.size ≤ w3.heap.size := HB3.out.size
            go_wp2_with fail
            all_goals try (exfalso; omega)
            go_ret
            exact ⟨ret_bool HD.out.symm, HB3.out⟩
        · have hb : (x == y) = false := beq_eq_false_iff_ne.2 g1
          have HD := Lib.hid (HM.out.trans (by rw [d1, hb] <;> rfl))
          clear g1
          go_enter Tryd.func59, Tryd.ntmps59
          go_wp2_with fail
          refine (rCheck_any _ _ _ _ _ _).mono ?_
          rintro e w1 ⟨rfl, hb⟩
          have ba : Blk w1 (w.heap.size) 42 #[.bool al1, .int .i64 ad1, .int .i64 bi1, .int .i64 lo1, .int .i64 hi1] := ((Blk.new _ _ _).alloc _).on hb
          have bb : Blk w1 (w.heap.size + 1) 42 #[.bool al2, .int .i64 ad2, .int .i64 bi2, .int .i64 lo2, .int .i64 hi2] := (Blk.new1 _ _ _ _).on hb
          have hbz := hb.size
          have HB1 := Lib.hid ((((Below.refl w.heap.size w).alloc (by first | exact Nat.le_refl _ | omega | (simp; done) | (simp; omega)) _).alloc (by first | exact Nat.le_refl _ | omega | (simp; done) | (simp; omega)) _).trans (hb.mono (by first | exact Nat.le_refl _ | omega | (simp; done) | (simp; omega))))
          have hz1 : w.heap.size ≤ w1.heap.size := HB1.out.size
          clear hb hbz
          rw [H1.out]
          have q_bb0 : w1.cell? ⟨w.heap.size + 1, 0, none⟩ = some (.bool al2) := bb.cell 0
          have q_bb1 : w1.cell? ⟨w.heap.size + 1, 1, none⟩ = some (.int .i64 ad2) := bb.cell 1
          have q_bb2 : w1.cell? ⟨w.heap.size + 1, 2, none⟩ = some (.int .i64 bi2) := bb.cell 2
          have q_bb3 : w1.cell? ⟨w.heap.size + 1, 3, none⟩ = some (.int .i64 lo2) := bb.cell 3
          have q_bb4 : w1.cell? ⟨w.heap.size + 1, 4, none⟩ = some (.int .i64 hi2) := bb.cell 4
          go_wp2_with fail
          refine (rCheck_any _ _ _ _ _ _).mono ?_
          rintro e w2 ⟨rfl, hb⟩
          clear q_bb0 q_bb1 q_bb2 q_bb3 q_bb4
          have ba : Blk w2 (w.heap.size) 42 #[.bool al1, .int .i64 ad1, .int .i64 bi1, .int .i64 lo1, .int .i64 hi1] := (ba).on hb
          have bb : Blk w2 (w.heap.size + 1) 42 #[.bool al2, .int .i64 ad2, .int .i64 bi2, .int .i64 lo2, .int .i64 hi2] := (bb).on hb
          have hbz := hb.size
          have HB2 := Lib.hid ((HB1.out).trans (hb.mono (by first | exact Nat.le_refl _ | omega | (simp; done) | (simp; omega))))
          have hz2 : w.heap.size ≤ w2.heap.size := HB2.out.size
          clear hb hbz
          rw [H2.out]
          go_wp2_with fail
          have r_ba0 := fun d os => cell_regrown (v := .bool al1) (ba.cell 0) d os
          have r_ba1 := fun d os => cell_regrown (v := .int .i64 ad1) (ba.cell 1) d os
          have r_ba2 := fun d os => cell_regrown (v := .int .i64 bi1) (ba.cell 2) d os
          have r_ba3 := fun d os => cell_regrown (v := .int .i64 lo1) (ba.cell 3) d os
          have r_ba4 := fun d os => cell_regrown (v := .int .i64 hi1) (ba.cell 4) d os
          have r_bb0 := fun d os => cell_regrown (v := .bool al2) (bb.cell 0) d os
          have r_bb1 := fun d os => cell_regrown (v := .int .i64 ad2) (bb.cell 1) d os
          have r_bb2 := fun d os => cell_regrown (v := .int .i64 bi2) (bb.cell 2) d os
          have r_bb3 := fun d os => cell_regrown (v := .int .i64 lo2) (bb.cell 3) d os
          have r_bb4 := fun d os => cell_regrown (v := .int .i64 hi2) (bb.cell 4) d os
          refine wp_region_quiet_below (by kernel_rfl) (by kernel_rfl) ?_
          repeat (go_big_quiet_step ((go_at_call 80; go_must (exact HR.out _ _ _))))
          refine wpQuiet_nil ?_
          intro _ hw'
          obtain ⟨⟨dq, osq⟩, hw''⟩ := hw'
          subst hw''
          have hb := below_regrown w2 dq osq
          have ba : Blk (Go.Sort.grow (redrawn w2 dq) osq) (w.heap.size) 42 #[.bool al1, .int .i64 ad1, .int .i64 bi1, .int .i64 lo1, .int .i64 hi1] := ba.on hb
          have bb : Blk (Go.Sort.grow (redrawn w2 dq) osq) (w.heap.size + 1) 42 #[.bool al2, .int .i64 ad2, .int .i64 bi2, .int .i64 lo2, .int .i64 hi2] := bb.on hb
          have HB3 := Lib.hid ((HB2.out).trans (hb.mono (by first | exact Nat.le_refl _ | omega | (simp; done) | (simp; omega))))
          clear hb r_ba0 r_ba1 r_ba2 r_ba3 r_ba4 r_bb0 r_bb1 r_bb2 r_bb3 r_bb4
          generalize Go.Sort.grow (redrawn w2 dq) osq = w3 at *
          have hz3 : w.heap.size ≤ w3.heap.size := HB3.out.size
          go_wp2_with fail
          all_goals try (exfalso; omega)
          go_ret
          exact ⟨ret_bool HD.out.symm, HB3.out⟩
      · have d1 : decide (bi1 ≤ bi2) = false := decide_eq_false g0
        have HD := Lib.hid (HM.out.trans (by rw [d1] <;> rfl))
        clear g0
        go_enter Tryd.func59, Tryd.ntmps59
        go_wp2_with fail
        refine (rCheck_any _ _ _ _ _ _).mono ?_
        rintro e w1 ⟨rfl, hb⟩
        have ba : Blk w1 (w.heap.size) 42 #[.bool al1, .int .i64 ad1, .int .i64 bi1, .int .i64 lo1, .int .i64 hi1] := ((Blk.new _ _ _).alloc _).on hb
        have bb : Blk w1 (w.heap.size + 1) 42 #[.bool al2, .int .i64 ad2, .int .i64 bi2, .int .i64 lo2, .int .i64 hi2] := (Blk.new1 _ _ _ _).on hb
        have hbz := hb.size
        have HB1 := Lib.hid ((((Below.refl w.heap.size w).alloc (by first | exact Nat.le_refl _ | omega | (simp; done) | (simp; omega)) _).alloc (by first | exact Nat.le_refl _ | omega | (simp; done) | (simp; omega)) _).trans (hb.mono (by first | exact Nat.le_refl _ | omega | (simp; done) | (simp; omega))))
        have hz1 : w.heap.size ≤ w1.heap.size := HB1.out.size
        clear hb hbz
        rw [H1.out]
        have q_bb0 : w1.cell? ⟨w.heap.size + 1, 0, none⟩ = some (.bool al2) := bb.cell 0
        have q_bb1 : w1.cell? ⟨w.heap.size + 1, 1, none⟩ = some (.int .i64 ad2) := bb.cell 1
        have q_bb2 : w1.cell? ⟨w.heap.size + 1, 2, none⟩ = some (.int .i64 bi2) := bb.cell 2
        have q_bb3 : w1.cell? ⟨w.heap.size + 1, 3, none⟩ = some (.int .i64 lo2) := bb.cell 3
        have q_bb4 : w1.cell? ⟨w.heap.size + 1, 4, none⟩ = some (.int .i64 hi2) := bb.cell 4
        go_wp2_with fail
        refine (rCheck_any _ _ _ _ _ _).mono ?_
        rintro e w2 ⟨rfl, hb⟩
        clear q_bb0 q_bb1 q_bb2 q_bb3 q_bb4
        have ba : Blk w2 (w.heap.size) 42 #[.bool al1, .int .i64 ad1, .int .i64 bi1, .int .i64 lo1, .int .i64 hi1] := (ba).on hb
        have bb : Blk w2 (w.heap.size + 1) 42 #[.bool al2, .int .i64 ad2, .int .i64 bi2, .int .i64 lo2, .int .i64 hi2] := (bb).on hb
        have hbz := hb.size
        have HB2 := Lib.hid ((HB1.out).trans (hb.mono (by first | exact Nat.le_refl _ | omega | (simp; done) | (simp; omega))))
        have hz2 : w.heap.size ≤ w2.heap.size := HB2.out.size
        clear hb hbz
        rw [H2.out]
        go_wp2_with fail
        have r_ba0 := fun d os => cell_regrown (v := .bool al1) (ba.cell 0) d os
        have r_ba1 := fun d os => cell_regrown (v := .int .i64 ad1) (ba.cell 1) d os
        have r_ba2 := fun d os => cell_regrown (v := .int .i64 bi1) (ba.cell 2) d os
        have r_ba3 := fun d os => cell_regrown (v := .int .i64 lo1) (ba.cell 3) d os
        have r_ba4 := fun d os => cell_regrown (v := .int .i64 hi1) (ba.cell 4) d os
        have r_bb0 := fun d os => cell_regrown (v := .bool al2) (bb.cell 0) d os
        have r_bb1 := fun d os => cell_regrown (v := .int .i64 ad2) (bb.cell 1) d os
        have r_bb2 := fun d os => cell_regrown (v := .int .i64 bi2) (bb.cell 2) d os
        have r_bb3 := fun d os => cell_regrown (v := .int .i64 lo2) (bb.cell 3) d os
        have r_bb4 := fun d os => cell_regrown (v := .int .i64 hi2) (bb.cell 4) d os
        refine wp_region_quiet_below (by kernel_rfl) (by kernel_rfl) ?_
        repeat (go_big_quiet_step ((go_at_call 80; go_must (exact HR.out _ _ _))))
        refine wpQuiet_nil ?_
        intro _ hw'
        obtain ⟨⟨dq, osq⟩, hw''⟩ := hw'
        subst hw''
        have hb := below_regrown w2 dq osq
        have ba : Blk (Go.Sort.grow (redrawn w2 dq) osq) (w.heap.size) 42 #[.bool al1, .int .i64 ad1, .int .i64 bi1, .int .i64 lo1, .int .i64 hi1] := ba.on hb
        have bb : Blk (Go.Sort.grow (redrawn w2 dq) osq) (w.heap.size + 1) 42 #[.bool al2, .int .i64 ad2, .int .i64 bi2, .int .i64 lo2, .int .i64 hi2] := bb.on hb
        have HB3 := Lib.hid ((HB2.out).trans (hb.mono (by first | exact Nat.le_refl _ | omega | (simp; done) | (simp; omega))))
        clear hb r_ba0 r_ba1 r_ba2 r_ba3 r_ba4 r_bb0 r_bb1 r_bb2 r_bb3 r_bb4
        generalize Go.Sort.grow (redrawn w2 dq) osq = w3 at *
        have hz3 : w.heap.size ≤ w3.heap.size := HB3.out.size
        go_wp2_with fail
        all_goals try (exfalso; omega)
        go_ret
        exact ⟨ret_bool HD.out.symm, HB3.out⟩
    · have HD := Lib.hid (cv_bad2 (a := (Rule.mk al1 ad1 bi1 lo1 hi1)) h2)
      have hcb : ((Rule.mk al2 ad2 bi2 lo2 hi2).ck != 0) = true := by rw [bne_iff_ne]; exact h2
      have H1 := Lib.hid h1
      clear h1 h2
      go_enter Tryd.func59, Tryd.ntmps59
      go_wp2_with fail
      refine (rCheck_any _ _ _ _ _ _).mono ?_
      rintro e w1 ⟨rfl, hb⟩
      have ba : Blk w1 (w.heap.size) 42 #[.bool al1, .int .i64 ad1, .int .i64 bi1, .int .i64 lo1, .int .i64 hi1] := ((Blk.new _ _ _).alloc _).on hb
      have bb : Blk w1 (w.heap.size + 1) 42 #[.bool al2, .int .i64 ad2, .int .i64 bi2, .int .i64 lo2, .int .i64 hi2] := (Blk.new1 _ _ _ _).on hb
      have hbz := hb.size
      have HB1 := Lib.hid ((((Below.refl w.heap.size w).alloc (by first | exact Nat.le_refl _ | omega | (simp; done) | (simp; omega)) _).alloc (by first | exact Nat.le_refl _ | omega | (simp; done) | (simp; omega)) _).trans (hb.mono (by first | exact Nat.le_refl _ | omega | (simp; done) | (simp; omega))))
      have hz1 : w.heap.size ≤ w1.heap.size := HB1.out.size
      clear hb hbz
      rw [H1.out]
      have q_bb0 : w1.cell? ⟨w.heap.size + 1, 0, none⟩ = some (.bool al2) := bb.cell 0
      have q_bb1 : w1.cell? ⟨w.heap.size + 1, 1, none⟩ = some (.int .i64 ad2) := bb.cell 1
      have q_bb2 : w1.cell? ⟨w.heap.size + 1, 2, none⟩ = some (.int .i64 bi2) := bb.cell 2
      have q_bb3 : w1.cell? ⟨w.heap.size + 1, 3, none⟩ = some (.int .i64 lo2) := bb.cell 3
      have q_bb4 : w1.cell? ⟨w.heap.size + 1, 4, none⟩ = some (.int .i64 hi2) := bb.cell 4
      go_wp2_with fail
      refine (rCheck_any _ _ _ _ _ _).mono ?_
      rintro e w2 ⟨rfl, hb⟩
      clear q_bb0 q_bb1 q_bb2 q_bb3 q_bb4
      have ba : Blk w2 (w.heap.size) 42 #[.bool al1, .int .i64 ad1, .int .i64 bi1, .int .i64 lo1, .int .i64 hi1] := (ba).on hb
      have bb : Blk w2 (w.heap.size + 1) 42 #[.bool al2, .int .i64 ad2, .int .i64 bi2, .int .i64 lo2, .int .i64 hi2] := (bb).on hb
      have hbz := hb.size
      have HB2 := Lib.hid ((HB1.out).trans (hb.mono (by first | exact Nat.le_refl _ | omega | (simp; done) | (simp; omega))))
      have hz2 : w.heap.size ≤ w2.heap.size := HB2.out.size
      clear hb hbz
      go_wp2_with fail
      all_goals try (exfalso; omega)
      go_ret
      exact ⟨ret_bool HD.out.symm, HB2.out⟩
  · have HD := Lib.hid (cv_bad1 (b := (Rule.mk al2 ad2 bi2 lo2 hi2)) h1)
    have hcb : ((Rule.mk al1 ad1 bi1 lo1 hi1).ck != 0) = true := by rw [bne_iff_ne]; exact h1
    clear h1
    go_enter Tryd.func59, Tryd.ntmps59
    go_wp2_with fail
    refine (rCheck_any _ _ _ _ _ _).mono ?_
    rintro e w1 ⟨rfl, hb⟩
    have ba : Blk w1 (w.heap.size) 42 #[.bool al1, .int .i64 ad1, .int .i64 bi1, .int .i64 lo1, .int .i64 hi1] := ((Blk.new _ _ _).alloc _).on hb
    have bb : Blk w1 (w.heap.size + 1) 42 #[.bool al2, .int .i64 ad2, .int .i64 bi2, .int .i64 lo2, .int .i64 hi2] := (Blk.new1 _ _ _ _).on hb
    have hbz := hb.size
    have HB1 := Lib.hid ((((Below.refl w.heap.size w).alloc (by first | exact Nat.le_refl _ | omega | (simp; done) | (simp; omega)) _).alloc (by first | exact Nat.le_refl _ | omega | (simp; done) | (simp; omega)) _).trans (hb.mono (by first | exact Nat.le_refl _ | omega | (simp; done) | (simp; omega))))
    have hz1 : w.heap.size ≤ w1.heap.size := HB1.out.size
    clear hb hbz
    go_wp2_with fail
    all_goals try (exfalso; omega)
    go_ret
    exact ⟨ret_bool HD.out.symm, HB1.out⟩
theorem Covers_at (al1 : Bool) (ad1 bi1 lo1 hi1 : Int) (al2 : Bool) (ad2 bi2 lo2 hi2 : Int) (W : World) (d : Nat) (os : Array Obj) :
    Calls Tryd.prog 58 #[.agg #[.bool al1, .int .i64 ad1, .int .i64 bi1, .int .i64 lo1, .int .i64 hi1], .agg #[.bool al2, .int .i64 ad2, .int .i64 bi2, .int .i64 lo2, .int .i64 hi2]] (grow (redrawn W d) os) fun e w' => e = .returned (.bool ((Rule.mk al1 ad1 bi1 lo1 hi1).cv (Rule.mk al2 ad2 bi2 lo2 hi2))) ∧ ∃ p : Regrown, w' = grow (redrawn W p.d) p.os :=
  Calls.regrown_of (Covers_any al1 ad1 bi1 lo1 hi1 al2 ad2 bi2 lo2 hi2 _)
theorem rCovers_at (al1 : Bool) (ad1 bi1 lo1 hi1 : Int) (al2 : Bool) (ad2 bi2 lo2 hi2 : Int) (W : World) (d : Nat) (os : Array Obj) :
    Calls Tryd.prog 59 #[.agg #[.bool al1, .int .i64 ad1, .int .i64 bi1, .int .i64 lo1, .int .i64 hi1], .agg #[.bool al2, .int .i64 ad2, .int .i64 bi2, .int .i64 lo2, .int .i64 hi2]] (grow (redrawn W d) os) fun e w' => e = .returned (.bool ((Rule.mk al1 ad1 bi1 lo1 hi1).cv (Rule.mk al2 ad2 bi2 lo2 hi2))) ∧ ∃ p : Regrown, w' = grow (redrawn W p.d) p.os :=
  Calls.regrown_of (rCovers_any al1 ad1 bi1 lo1 hi1 al2 ad2 bi2 lo2 hi2 _)
theorem rMatches_at (al : Bool) (ad bi lo hi : Int) (a p : Int) (W : World) (d : Nat) (os : Array Obj) :
    Calls Tryd.prog 57 #[.agg #[.bool al, .int .i64 ad, .int .i64 bi, .int .i64 lo, .int .i64 hi], .int .i64 a, .int .i64 p] (grow (redrawn W d) os) fun e w' => e = .returned (.bool ((Rule.mk al ad bi lo hi).mt a p)) ∧ ∃ p : Regrown, w' = grow (redrawn W p.d) p.os :=
  Calls.regrown_of (rMatches_any al ad bi lo hi a p _)
end Go.Proofs.YtpkekfhnpcjgkaaDoor
