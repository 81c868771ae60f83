/- The walks of Matches, Covers and their references. -/
import Derived.Test.YtpkekfhnpcjgkaaDoorW2
namespace Go.Proofs.YtpkekfhnpcjgkaaDoor
open Go.RowKit
open Nw
open Go.Sort (grow)

theorem ck_ok0 {r : Rule} (h : r.ck = 0) : r.ok = true := r.ck_ok.1 h
theorem ck_bad {r : Rule} (h : r.ck ≠ 0) : r.ok = false := by
  cases e : r.ok
  · rfl
  · exact absurd (r.ck_ok.2 e) h
theorem mt_bad {r : Rule} {a p : Int} (h : r.ck ≠ 0) : r.mt a p = false := by unfold Rule.mt; rw [ck_bad h]; rfl
theorem mt_code {r : Rule} {a p : Int} (h : r.ck = 0) : r.mt a p = (inB a r.ad (r.ad + (sz r.bi - 1)) && inB p r.lo r.hi) := by
  unfold Rule.mt
  rw [ck_ok0 h, Bool.eq_iff_iff]
  simp only [Bool.and_eq_true, decide_eq_true_iff, inB_iff, true_and]
  omega
theorem ck_rng {r : Rule} (h : r.ck = 0) : 0 ≤ r.ad ∧ r.ad ≤ 4294967295 ∧ 0 ≤ r.bi ∧ r.bi ≤ 32 ∧ 1 ≤ r.lo ∧ r.lo ≤ 65535 ∧ r.lo ≤ r.hi ∧ r.hi ≤ 65535 := r.rng_iff.1 (r.ok_iff.1 (ck_ok0 h)).1
theorem mt_ref_code {r : Rule} {a p : Int} (h : r.ck = 0) : r.mt a p = (inB a 0 4294967295 && (inB p 1 65535 && ((a / sz r.bi == r.ad / sz r.bi) && inB p r.lo r.hi))) := by
  rw [Rule.mt_ref, ck_ok0 h, Bool.eq_iff_iff]
  simp only [Bool.and_eq_true, decide_eq_true_iff, inB_iff, true_and, beq_iff_eq]
  omega
set_option maxHeartbeats 2000000 in
set_option maxRecDepth 100000 in
theorem Matches_any (al : Bool) (ad bi lo hi : Int) (a p : Int) (w : World) :
    Calls Tryd.prog 56 #[.agg #[.bool al, .int .i64 ad, .int .i64 bi, .int .i64 lo, .int .i64 hi], .int .i64 a, .int .i64 p] w fun e w' => e = .returned (.bool ((Rule.mk al ad bi lo hi).mt a p)) ∧ Below w.heap.size w w' := by
  by_cases hck : (Rule.mk al ad bi lo hi).ck = 0
  · obtain ⟨r1, r2, r3, r4, -, -, -, -⟩ := ck_rng hck
    simp only at r1 r2 r3 r4
    have HM := Lib.hid (show (Rule.mk al ad bi lo hi).mt a p = (inB a ad (ad + (sz bi - 1)) && inB p lo hi) from mt_code hck)
    have HR := Lib.hid (fun W d os => rest_at bi W d os ⟨r3, r4⟩)
    have z1 := sz_pos bi
    have z2 := sz_le bi
    generalize sz bi = z at *
    have e1 : IntKind.i64.wrap (z - 1) = z - 1 := IntWalk.i64_in _ (by omega)
    have e2 : IntKind.i64.wrap (ad + (z - 1)) = ad + (z - 1) := IntWalk.i64_in _ (by omega)
    cases h1 : inB a ad (ad + (z - 1))
    · have HD := Lib.hid (HM.out.trans (by rw [h1] <;> rfl))
      go_enter Tryd.func56, Tryd.ntmps56
      go_wp2_with fail
      have ba : Blk ((w).alloc (.cells #[.bool al, .int .i64 ad, .int .i64 bi, .int .i64 lo, .int .i64 hi] 42)) (w.heap.size) 42 #[.bool al, .int .i64 ad, .int .i64 bi, .int .i64 lo, .int .i64 hi] := Blk.new _ _ _
      have HB1 := Lib.hid (show Below w.heap.size w ((w).alloc (.cells #[.bool al, .int .i64 ad, .int .i64 bi, .int .i64 lo, .int .i64 hi] 42)) from (Below.refl w.heap.size w).alloc (by first | exact Nat.le_refl _ | omega | (simp; done) | (simp; omega)) _)
      generalize (w).alloc (.cells #[.bool al, .int .i64 ad, .int .i64 bi, .int .i64 lo, .int .i64 hi] 42) = w1 at *
      have hz1 : w.heap.size ≤ w1.heap.size := HB1.out.size
      have r_ba0 := fun d os => cell_regrown (v := .bool al) (ba.cell 0) d os
      have r_ba1 := fun d os => cell_regrown (v := .int .i64 ad) (ba.cell 1) d os
      have r_ba2 := fun d os => cell_regrown (v := .int .i64 bi) (ba.cell 2) d os
      have r_ba3 := fun d os => cell_regrown (v := .int .i64 lo) (ba.cell 3) d os
      have r_ba4 := fun d os => cell_regrown (v := .int .i64 hi) (ba.cell 4) d os
      refine wp_region_quiet_below (by kernel_rfl) (by kernel_rfl) ?_
      repeat (go_big_quiet_step (first | (go_at_call 42; go_must (exact Check_at _ _ _ _ _ _ _ _)) | (go_at_call 77; go_must (exact HR.out _ _ _)) | (go_at_call 76; go_must (exact in_at _ _ _ _ _ _))))
      refine wpQuiet_nil ?_
      intro _ hw'
      obtain ⟨⟨dq, osq⟩, hw''⟩ := hw'
      subst hw''
      have hb := below_regrown w1 dq osq
      have ba : Blk (Go.Sort.grow (redrawn w1 dq) osq) (w.heap.size) 42 #[.bool al, .int .i64 ad, .int .i64 bi, .int .i64 lo, .int .i64 hi] := ba.on hb
      have HB2 := Lib.hid ((HB1.out).trans (hb.mono (by first | exact Nat.le_refl _ | omega | (simp; done) | (simp; omega))))
      clear hb r_ba0 r_ba1 r_ba2 r_ba3 r_ba4
      generalize Go.Sort.grow (redrawn w1 dq) osq = w2 at *
      have hz2 : w.heap.size ≤ w2.heap.size := HB2.out.size
      go_wp2_with fail
      all_goals try (exfalso; omega)
      go_ret
      exact ⟨ret_bool HD.out.symm, HB2.out⟩
    · have HD := Lib.hid (HM.out.trans (by rw [h1] <;> rfl))
      go_enter Tryd.func56, Tryd.ntmps56
      go_wp2_with fail
      have ba : Blk ((w).alloc (.cells #[.bool al, .int .i64 ad, .int .i64 bi, .int .i64 lo, .int .i64 hi] 42)) (w.heap.size) 42 #[.bool al, .int .i64 ad, .int .i64 bi, .int .i64 lo, .int .i64 hi] := Blk.new _ _ _
      have HB1 := Lib.hid (show Below w.heap.size w ((w).alloc (.cells #[.bool al, .int .i64 ad, .int .i64 bi, .int .i64 lo, .int .i64 hi] 42)) from (Below.refl w.heap.size w).alloc (by first | exact Nat.le_refl _ | omega | (simp; done) | (simp; omega)) _)
      generalize (w).alloc (.cells #[.bool al, .int .i64 ad, .int .i64 bi, .int .i64 lo, .int .i64 hi] 42) = w1 at *
      have hz1 : w.heap.size ≤ w1.heap.size := HB1.out.size
      have r_ba0 := fun d os => cell_regrown (v := .bool al) (ba.cell 0) d os
      have r_ba1 := fun d os => cell_regrown (v := .int .i64 ad) (ba.cell 1) d os
      have r_ba2 := fun d os => cell_regrown (v := .int .i64 bi) (ba.cell 2) d os
      have r_ba3 := fun d os => cell_regrown (v := .int .i64 lo) (ba.cell 3) d os
      have r_ba4 := fun d os => cell_regrown (v := .int .i64 hi) (ba.cell 4) d os
      refine wp_region_quiet_below (by kernel_rfl) (by kernel_rfl) ?_
      repeat (go_big_quiet_step (first | (go_at_call 42; go_must (exact Check_at _ _ _ _ _ _ _ _)) | (go_at_call 77; go_must (exact HR.out _ _ _)) | (go_at_call 76; go_must (exact in_at _ _ _ _ _ _))))
      refine wpQuiet_nil ?_
      intro _ hw'
      obtain ⟨⟨dq, osq⟩, hw''⟩ := hw'
      subst hw''
      have hb := below_regrown w1 dq osq
      have ba : Blk (Go.Sort.grow (redrawn w1 dq) osq) (w.heap.size) 42 #[.bool al, .int .i64 ad, .int .i64 bi, .int .i64 lo, .int .i64 hi] := ba.on hb
      have HB2 := Lib.hid ((HB1.out).trans (hb.mono (by first | exact Nat.le_refl _ | omega | (simp; done) | (simp; omega))))
      clear hb r_ba0 r_ba1 r_ba2 r_ba3 r_ba4
      generalize Go.Sort.grow (redrawn w1 dq) osq = w2 at *
      have hz2 : w.heap.size ≤ w2.heap.size := HB2.out.size
      go_wp2_with fail
      all_goals try (exfalso; omega)
      go_ret
      exact ⟨ret_bool HD.out.symm, HB2.out⟩
  · have HD := Lib.hid (mt_bad (a := a) (p := p) hck)
    have hcb : ((Rule.mk al ad bi lo hi).ck == 0) = false := beq_eq_false_iff_ne.2 hck
    clear hck
    go_enter Tryd.func56, Tryd.ntmps56
    go_wp2_with fail
    have ba : Blk ((w).alloc (.cells #[.bool al, .int .i64 ad, .int .i64 bi, .int .i64 lo, .int .i64 hi] 42)) (w.heap.size) 42 #[.bool al, .int .i64 ad, .int .i64 bi, .int .i64 lo, .int .i64 hi] := Blk.new _ _ _
    have HB1 := Lib.hid (show Below w.heap.size w ((w).alloc (.cells #[.bool al, .int .i64 ad, .int .i64 bi, .int .i64 lo, .int .i64 hi] 42)) from (Below.refl w.heap.size w).alloc (by first | exact Nat.le_refl _ | omega | (simp; done) | (simp; omega)) _)
    generalize (w).alloc (.cells #[.bool al, .int .i64 ad, .int .i64 bi, .int .i64 lo, .int .i64 hi] 42) = w1 at *
    have hz1 : w.heap.size ≤ w1.heap.size := HB1.out.size
    have r_ba0 := fun d os => cell_regrown (v := .bool al) (ba.cell 0) d os
    have r_ba1 := fun d os => cell_regrown (v := .int .i64 ad) (ba.cell 1) d os
    have r_ba2 := fun d os => cell_regrown (v := .int .i64 bi) (ba.cell 2) d os
    have r_ba3 := fun d os => cell_regrown (v := .int .i64 lo) (ba.cell 3) d os
    have r_ba4 := fun d os => cell_regrown (v := .int .i64 hi) (ba.cell 4) d os
    refine wp_region_quiet_below (by kernel_rfl) (by kernel_rfl) ?_
    repeat (go_big_quiet_step ((go_at_call 42; go_must (exact Check_at _ _ _ _ _ _ _ _))))
    refine wpQuiet_nil ?_
    intro _ hw'
    obtain ⟨⟨dq, osq⟩, hw''⟩ := hw'
    subst hw''
    have hb := below_regrown w1 dq osq
    have ba : Blk (Go.Sort.grow (redrawn w1 dq) osq) (w.heap.size) 42 #[.bool al, .int .i64 ad, .int .i64 bi, .int .i64 lo, .int .i64 hi] := ba.on hb
    have HB2 := Lib.hid ((HB1.out).trans (hb.mono (by first | exact Nat.le_refl _ | omega | (simp; done) | (simp; omega))))
    clear hb r_ba0 r_ba1 r_ba2 r_ba3 r_ba4
    generalize Go.Sort.grow (redrawn w1 dq) osq = w2 at *
    have hz2 : w.heap.size ≤ w2.heap.size := HB2.out.size
    go_wp2_with fail
    all_goals try (exfalso; omega)
    go_ret
    exact ⟨ret_bool HD.out.symm, HB2.out⟩
set_option maxHeartbeats 2000000 in
set_option maxRecDepth 100000 in
theorem rMatches_any (al : Bool) (ad bi lo hi : Int) (a p : Int) (w : World) :
    Calls Tryd.prog 57 #[.agg #[.bool al, .int .i64 ad, .int .i64 bi, .int .i64 lo, .int .i64 hi], .int .i64 a, .int .i64 p] w fun e w' => e = .returned (.bool ((Rule.mk al ad bi lo hi).mt a p)) ∧ Below w.heap.size w w' := by
  by_cases hck : (Rule.mk al ad bi lo hi).ck = 0
  · obtain ⟨r1, r2, r3, r4, -, -, -, -⟩ := ck_rng hck
    simp only at r1 r2 r3 r4
    have HM := Lib.hid (show (Rule.mk al ad bi lo hi).mt a p = (inB a 0 4294967295 && (inB p 1 65535 && ((a / sz bi == ad / sz bi) && inB p lo hi))) from mt_ref_code hck)
    have HK := Lib.hid hck
    clear hck
    cases h1 : inB a 0 4294967295
    · have HD := Lib.hid (HM.out.trans (by rw [h1] <;> rfl))
      go_enter Tryd.func57, Tryd.ntmps57
      go_wp2_with fail
      refine (rCheck_any _ _ _ _ _ _).mono ?_
      rintro e w1 ⟨rfl, hb⟩
      have ba : Blk w1 (w.heap.size) 42 #[.bool al, .int .i64 ad, .int .i64 bi, .int .i64 lo, .int .i64 hi] := (Blk.new _ _ _).on hb
      have hbz := hb.size
      have HB1 := Lib.hid (((Below.refl w.heap.size w).alloc (by first | exact Nat.le_refl _ | omega | (simp; done) | (simp; omega)) _).trans (hb.mono (by first | exact Nat.le_refl _ | omega | (simp; done) | (simp; omega))))
      have hz1 : w.heap.size ≤ w1.heap.size := HB1.out.size
      clear hb hbz
      rw [HK.out]
      go_wp2_with fail
      refine (address_any _ _).mono ?_
      rintro e wq ⟨rfl, rfl⟩
      rw [h1]
      go_wp2_with fail
      all_goals try (exfalso; omega)
      go_ret
      exact ⟨ret_bool HD.out.symm, HB1.out⟩
    cases h2 : inB p 1 65535
    · have HD := Lib.hid (HM.out.trans (by rw [h1, h2] <;> rfl))
      go_enter Tryd.func57, Tryd.ntmps57
      go_wp2_with fail
      refine (rCheck_any _ _ _ _ _ _).mono ?_
      rintro e w1 ⟨rfl, hb⟩
      have ba : Blk w1 (w.heap.size) 42 #[.bool al, .int .i64 ad, .int .i64 bi, .int .i64 lo, .int .i64 hi] := (Blk.new _ _ _).on hb
      have hbz := hb.size
      have HB1 := Lib.hid (((Below.refl w.heap.size w).alloc (by first | exact Nat.le_refl _ | omega | (simp; done) | (simp; omega)) _).trans (hb.mono (by first | exact Nat.le_refl _ | omega | (simp; done) | (simp; omega))))
      have hz1 : w.heap.size ≤ w1.heap.size := HB1.out.size
      clear hb hbz
      rw [HK.out]
      go_wp2_with fail
      refine (address_any _ _).mono ?_
      rintro e wq ⟨rfl, rfl⟩
      rw [h1]
      go_wp2_with fail
      refine (port_any _ _).mono ?_
      rintro e wq ⟨rfl, rfl⟩
      rw [h2]
      go_wp2_with fail
      all_goals try (exfalso; omega)
      go_ret
      exact ⟨ret_bool HD.out.symm, HB1.out⟩
    have HR := Lib.hid (fun W d os => rsize_at bi W d os ⟨r3, r4⟩)
    obtain ⟨a1, a2⟩ := inB_iff.1 h1
    have z1 := sz_pos bi
    have z2 := sz_le bi
    have zne : sz bi ≠ 0 := by omega
    have t1 : a.tdiv (sz bi) = a / sz bi := Int.tdiv_eq_ediv_of_nonneg a1
    have t2 : ad.tdiv (sz bi) = ad / sz bi := Int.tdiv_eq_ediv_of_nonneg r1
    have t3 : 0 ≤ a / sz bi ∧ a / sz bi ≤ a := ⟨Int.ediv_nonneg a1 (by omega), Int.ediv_le_self _ a1⟩
    have t4 : 0 ≤ ad / sz bi ∧ ad / sz bi ≤ ad := ⟨Int.ediv_nonneg r1 (by omega), Int.ediv_le_self _ r1⟩
    have HH := Lib.hid (And.intro h1 h2)
    clear h1 h2
    generalize hzz : sz bi = z at *
    have HZZ := Lib.hid hzz
    clear hzz
    generalize a / z = x at *
    generalize ad / z = y at *
    have e1 : IntKind.i64.wrap x = x := IntWalk.i64_in _ (by omega)
    have e2 : IntKind.i64.wrap y = y := IntWalk.i64_in _ (by omega)
    by_cases hxy : x = y
    · have hb : (x == y) = true := beq_iff_eq.2 hxy
      clear hxy
      by_cases hlo : lo ≤ p
      · have d1 : decide (lo ≤ p) = true := decide_eq_true hlo
        by_cases hhi : p ≤ hi
        · have d2 : decide (p ≤ hi) = true := decide_eq_true hhi
          have HD := Lib.hid (HM.out.trans (by rw [HH.out.1, HH.out.2, hb, inB_yes ⟨hlo, hhi⟩] <;> rfl))
          go_enter Tryd.func57, Tryd.ntmps57
          go_wp2_with fail
          refine (rCheck_any _ _ _ _ _ _).mono ?_
          rintro e w1 ⟨rfl, hb⟩
          have ba : Blk w1 (w.heap.size) 42 #[.bool al, .int .i64 ad, .int .i64 bi, .int .i64 lo, .int .i64 hi] := (Blk.new _ _ _).on hb
          have hbz := hb.size
          have HB1 := Lib.hid (((Below.refl w.heap.size w).alloc (by first | exact Nat.le_refl _ | omega | (simp; done) | (simp; omega)) _).trans (hb.mono (by first | exact Nat.le_refl _ | omega | (simp; done) | (simp; omega))))
          have hz1 : w.heap.size ≤ w1.heap.size := HB1.out.size
          clear hb hbz
          rw [HK.out]
          go_wp2_with fail
          refine (address_any _ _).mono ?_
          rintro e wq ⟨rfl, rfl⟩
          rw [HH.out.1]
          go_wp2_with fail
          refine (port_any _ _).mono ?_
          rintro e wq ⟨rfl, rfl⟩
          rw [HH.out.2]
          go_wp2_with fail
          have r_ba0 := fun d os => cell_regrown (v := .bool al) (ba.cell 0) d os
          have r_ba1 := fun d os => cell_regrown (v := .int .i64 ad) (ba.cell 1) d os
          have r_ba2 := fun d os => cell_regrown (v := .int .i64 bi) (ba.cell 2) d os
          have r_ba3 := fun d os => cell_regrown (v := .int .i64 lo) (ba.cell 3) d os
          have r_ba4 := fun d os => cell_regrown (v := .int .i64 hi) (ba.cell 4) d os
          refine wp_region_quiet_below (by kernel_rfl) (by kernel_rfl) ?_
          repeat (go_big_quiet_step ((go_at_call 80; go_must (exact HR.out _ _ _))))
          refine wpQuiet_nil ?_
          intro _ hw'
          obtain ⟨⟨dq, osq⟩, hw''⟩ := hw'
          subst hw''
          have hb := below_regrown w1 dq osq
          have ba : Blk (Go.Sort.grow (redrawn w1 dq) osq) (w.heap.size) 42 #[.bool al, .int .i64 ad, .int .i64 bi, .int .i64 lo, .int .i64 hi] := ba.on hb
          have HB2 := Lib.hid ((HB1.out).trans (hb.mono (by first | exact Nat.le_refl _ | omega | (simp; done) | (simp; omega))))
          clear hb r_ba0 r_ba1 r_ba2 r_ba3 r_ba4
          generalize Go.Sort.grow (redrawn w1 dq) osq = w2 at *
          have hz2 : w.heap.size ≤ w2.heap.size := HB2.out.size
          go_wp2_with fail
          all_goals try (exfalso; omega)
          go_ret
          exact ⟨ret_bool HD.out.symm, HB2.out⟩
        · have d2 : decide (p ≤ hi) = false := decide_eq_false hhi
          have HD := Lib.hid (HM.out.trans (by rw [HH.out.1, HH.out.2, hb, inB_no (fun h => hhi h.2)] <;> rfl))
          go_enter Tryd.func57, Tryd.ntmps57
          go_wp2_with fail
          refine (rCheck_any _ _ _ _ _ _).mono ?_
          rintro e w1 ⟨rfl, hb⟩
          have ba : Blk w1 (w.heap.size) 42 #[.bool al, .int .i64 ad, .int .i64 bi, .int .i64 lo, .int .i64 hi] := (Blk.new _ _ _).on hb
          have hbz := hb.size
          have HB1 := Lib.hid (((Below.refl w.heap.size w).alloc (by first | exact Nat.le_refl _ | omega | (simp; done) | (simp; omega)) _).trans (hb.mono (by first | exact Nat.le_refl _ | omega | (simp; done) | (simp; omega))))
          have hz1 : w.heap.size ≤ w1.heap.size := HB1.out.size
          clear hb hbz
          rw [HK.out]
          go_wp2_with fail
          refine (address_any _ _).mono ?_
          rintro e wq ⟨rfl, rfl⟩
          rw [HH.out.1]
          go_wp2_with fail
          refine (port_any _ _).mono ?_
          rintro e wq ⟨rfl, rfl⟩
          rw [HH.out.2]
          go_wp2_with fail
          have r_ba0 := fun d os => cell_regrown (v := .bool al) (ba.cell 0) d os
          have r_ba1 := fun d os => cell_regrown (v := .int .i64 ad) (ba.cell 1) d os
          have r_ba2 := fun d os => cell_regrown (v := .int .i64 bi) (ba.cell 2) d os
          have r_ba3 := fun d os => cell_regrown (v := .int .i64 lo) (ba.cell 3) d os
          have r_ba4 := fun d os => cell_regrown (v := .int .i64 hi) (ba.cell 4) d os
          refine wp_region_quiet_below (by kernel_rfl) (by kernel_rfl) ?_
          repeat (go_big_quiet_step ((go_at_call 80; go_must (exact HR.out _ _ _))))
          refine wpQuiet_nil ?_
          intro _ hw'
          obtain ⟨⟨dq, osq⟩, hw''⟩ := hw'
          subst hw''
          have hb := below_regrown w1 dq osq
          have ba : Blk (Go.Sort.grow (redrawn w1 dq) osq) (w.heap.size) 42 #[.bool al, .int .i64 ad, .int .i64 bi, .int .i64 lo, .int .i64 hi] := ba.on hb
          have HB2 := Lib.hid ((HB1.out).trans (hb.mono (by first | exact Nat.le_refl _ | omega | (simp; done) | (simp; omega))))
          clear hb r_ba0 r_ba1 r_ba2 r_ba3 r_ba4
          generalize Go.Sort.grow (redrawn w1 dq) osq = w2 at *
          have hz2 : w.heap.size ≤ w2.heap.size := HB2.out.size
          go_wp2_with fail
          all_goals try (exfalso; omega)
          go_ret
          exact ⟨ret_bool HD.out.symm, HB2.out⟩
      · have d1 : decide (lo ≤ p) = false := decide_eq_false hlo
        have HD := Lib.hid (HM.out.trans (by rw [HH.out.1, HH.out.2, hb, inB_no (fun h => hlo h.1)] <;> rfl))
        go_enter Tryd.func57, Tryd.ntmps57
        go_wp2_with fail
        refine (rCheck_any _ _ _ _ _ _).mono ?_
        rintro e w1 ⟨rfl, hb⟩
        have ba : Blk w1 (w.heap.size) 42 #[.bool al, .int .i64 ad, .int .i64 bi, .int .i64 lo, .int .i64 hi] := (Blk.new _ _ _).on hb
        have hbz := hb.size
        have HB1 := Lib.hid (((Below.refl w.heap.size w).alloc (by first | exact Nat.le_refl _ | omega | (simp; done) | (simp; omega)) _).trans (hb.mono (by first | exact Nat.le_refl _ | omega | (simp; done) | (simp; omega))))
        have hz1 : w.heap.size ≤ w1.heap.size := HB1.out.size
        clear hb hbz
        rw [HK.out]
        go_wp2_with fail
        refine (address_any _ _).mono ?_
        rintro e wq ⟨rfl, rfl⟩
        rw [HH.out.1]
        go_wp2_with fail
        refine (port_any _ _).mono ?_
        rintro e wq ⟨rfl, rfl⟩
        rw [HH.out.2]
        go_wp2_with fail
        have r_ba0 := fun d os => cell_regrown (v := .bool al) (ba.cell 0) d os
        have r_ba1 := fun d os => cell_regrown (v := .int .i64 ad) (ba.cell 1) d os
        have r_ba2 := fun d os => cell_regrown (v := .int .i64 bi) (ba.cell 2) d os
        have r_ba3 := fun d os => cell_regrown (v := .int .i64 lo) (ba.cell 3) d os
        have r_ba4 := fun d os => cell_regrown (v := .int .i64 hi) (ba.cell 4) d os
        refine wp_region_quiet_below (by kernel_rfl) (by kernel_rfl) ?_
        repeat (go_big_quiet_step ((go_at_call 80; go_must (exact HR.out _ _ _))))
        refine wpQuiet_nil ?_
        intro _ hw'
        obtain ⟨⟨dq, osq⟩, hw''⟩ := hw'
        subst hw''
        have hb := below_regrown w1 dq osq
        have ba : Blk (Go.Sort.grow (redrawn w1 dq) osq) (w.heap.size) 42 #[.bool al, .int .i64 ad, .int .i64 bi, .int .i64 lo, .int .i64 hi] := ba.on hb
        have HB2 := Lib.hid ((HB1.out).trans (hb.mono (by first | exact Nat.le_refl _ | omega | (simp; done) | (simp; omega))))
        clear hb r_ba0 r_ba1 r_ba2 r_ba3 r_ba4
        generalize Go.Sort.grow (redrawn w1 dq) osq = w2 at *
        have hz2 : w.heap.size ≤ w2.heap.size := HB2.out.size
        go_wp2_with fail
        all_goals try (exfalso; omega)
        go_ret
        exact ⟨ret_bool HD.out.symm, HB2.out⟩
    · have hb : (x == y) = false := beq_eq_false_iff_ne.2 hxy
      have HD := Lib.hid (HM.out.trans (by rw [HH.out.1, HH.out.2, hb] <;> rfl))
      clear hxy
      go_enter Tryd.func57, Tryd.ntmps57
      go_wp2_with fail
      refine (rCheck_any _ _ _ _ _ _).mono ?_
      rintro e w1 ⟨rfl, hb⟩
      have ba : Blk w1 (w.heap.size) 42 #[.bool al, .int .i64 ad, .int .i64 bi, .int .i64 lo, .int .i64 hi] := (Blk.new _ _ _).on hb
      have hbz := hb.size
      have HB1 := Lib.hid (((Below.refl w.heap.size w).alloc (by first | exact Nat.le_refl _ | omega | (simp; done) | (simp; omega)) _).trans (hb.mono (by first | exact Nat.le_refl _ | omega | (simp; done) | (simp; omega))))
      have hz1 : w.heap.size ≤ w1.heap.size := HB1.out.size
      clear hb hbz
      rw [HK.out]
      go_wp2_with fail
      refine (address_any _ _).mono ?_
      rintro e wq ⟨rfl, rfl⟩
      rw [HH.out.1]
      go_wp2_with fail
      refine (port_any _ _).mono ?_
      rintro e wq ⟨rfl, rfl⟩
      rw [HH.out.2]
      go_wp2_with fail
      have r_ba0 := fun d os => cell_regrown (v := .bool al) (ba.cell 0) d os
      have r_ba1 := fun d os => cell_regrown (v := .int .i64 ad) (ba.cell 1) d os
      have r_ba2 := fun d os => cell_regrown (v := .int .i64 bi) (ba.cell 2) d os
      have r_ba3 := fun d os => cell_regrown (v := .int .i64 lo) (ba.cell 3) d os
      have r_ba4 := fun d os => cell_regrown (v := .int .i64 hi) (ba.cell 4) d os
      refine wp_region_quiet_below (by kernel_rfl) (by kernel_rfl) ?_
      repeat (go_big_quiet_step ((go_at_call 80; go_must (exact HR.out _ _ _))))
      refine wpQuiet_nil ?_
      intro _ hw'
      obtain ⟨⟨dq, osq⟩, hw''⟩ := hw'
      subst hw''
      have hb := below_regrown w1 dq osq
      have ba : Blk (Go.Sort.grow (redrawn w1 dq) osq) (w.heap.size) 42 #[.bool al, .int .i64 ad, .int .i64 bi, .int .i64 lo, .int .i64 hi] := ba.on hb
      have HB2 := Lib.hid ((HB1.out).trans (hb.mono (by first | exact Nat.le_refl _ | omega | (simp; done) | (simp; omega))))
      clear hb r_ba0 r_ba1 r_ba2 r_ba3 r_ba4
      generalize Go.Sort.grow (redrawn w1 dq) osq = w2 at *
      have hz2 : w.heap.size ≤ w2.heap.size := HB2.out.size
      go_wp2_with fail
      all_goals try (exfalso; omega)
      go_ret
      exact ⟨ret_bool HD.out.symm, HB2.out⟩
  · have HD := Lib.hid (mt_bad (a := a) (p := p) hck)
    have hcb : ((Rule.mk al ad bi lo hi).ck != 0) = true := by rw [bne_iff_ne]; exact hck
    clear hck
    go_enter Tryd.func57, Tryd.ntmps57
    go_wp2_with fail
    refine (rCheck_any _ _ _ _ _ _).mono ?_
    rintro e w1 ⟨rfl, hb⟩
    have ba : Blk w1 (w.heap.size) 42 #[.bool al, .int .i64 ad, .int .i64 bi, .int .i64 lo, .int .i64 hi] := (Blk.new _ _ _).on hb
    have hbz := hb.size
    have HB1 := Lib.hid (((Below.refl w.heap.size w).alloc (by first | exact Nat.le_refl _ | omega | (simp; done) | (simp; omega)) _).trans (hb.mono (by first | exact Nat.le_refl _ | omega | (simp; done) | (simp; omega))))
    have hz1 : w.heap.size ≤ w1.heap.size := HB1.out.size
    clear hb hbz
    go_wp2_with fail
    all_goals try (exfalso; omega)
    go_ret
    exact ⟨ret_bool HD.out.symm, HB1.out⟩
theorem Matches_at (al : Bool) (ad bi lo hi : Int) (a p : Int) (W : World) (d : Nat) (os : Array Obj) :
    Calls Tryd.prog 56 #[.agg #[.bool al, .int .i64 ad, .int .i64 bi, .int .i64 lo, .int .i64 hi], .int .i64 a, .int .i64 p] (grow (redrawn W d) os) fun e w' => e = .returned (.bool ((Rule.mk al ad bi lo hi).mt a p)) ∧ ∃ p : Regrown, w' = grow (redrawn W p.d) p.os :=
  Calls.regrown_of (Matches_any al ad bi lo hi a p _)
end Go.Proofs.YtpkekfhnpcjgkaaDoor
