/- The walks of NetworkMatches and NetworkDecides. -/
import Derived.Test.YtpkekfhnpcjgkaaDoorWC
import Derived.Test.YtpkekfhnpcjgkaaDoorW7
namespace Go.Proofs.YtpkekfhnpcjgkaaDoor
open Go.RowKit
open Nw
open Go.Sort (grow)

theorem awake_at (W : World) (d : Nat) (os : Array Obj) (hX : LaidS W) :
    Calls Tryd.prog 50 #[] (grow (redrawn W d) os) fun e w' => e = .returned (.bool true) ∧ ∃ p : Regrown, w' = grow (redrawn W p.d) p.os :=
  Calls.regrown_of (awake_any _ (hX.below (below_regrown W d os)))
theorem mMatches_at (al : Bool) (ad bi lo hi : Int) (a p : Int) (W : World) (d : Nat) (os : Array Obj) :
    Calls Tryd.prog 56 #[.agg #[.bool al, .int .i64 ad, .int .i64 bi, .int .i64 lo, .int .i64 hi], .int .i64 a, .int .i64 p] (grow (redrawn W d) os) fun e w' => e = .returned (.bool ((Rule.mk al ad bi lo hi).mt a p)) ∧ ∃ p : Regrown, w' = grow (redrawn W p.d) p.os :=
  Calls.regrown_of (Matches_any _ _ _ _ _ _ _ _)
theorem mrMatches_at (al : Bool) (ad bi lo hi : Int) (a p : Int) (W : World) (d : Nat) (os : Array Obj) :
    Calls Tryd.prog 57 #[.agg #[.bool al, .int .i64 ad, .int .i64 bi, .int .i64 lo, .int .i64 hi], .int .i64 a, .int .i64 p] (grow (redrawn W d) os) fun e w' => e = .returned (.bool ((Rule.mk al ad bi lo hi).mt a p)) ∧ ∃ p : Regrown, w' = grow (redrawn W p.d) p.os :=
  Calls.regrown_of (rMatches_any _ _ _ _ _ _ _ _)
set_option maxHeartbeats 4000000 in
set_option maxRecDepth 100000 in
theorem law_matches (al1 : Bool) (ad1 bi1 lo1 hi1 : Int) (al2 : Bool) (ad2 bi2 lo2 hi2 : Int) (a p : Int) (w : World) (hX : LaidS w) : Calls Tryd.prog 11 #[.agg #[.bool al1, .int .i64 ad1, .int .i64 bi1, .int .i64 lo1, .int .i64 hi1], .agg #[.bool al2, .int .i64 ad2, .int .i64 bi2, .int .i64 lo2, .int .i64 hi2], .int .i64 a, .int .i64 p] w fun e w' => e = .returned (.bool true) ∧ Below w.heap.size w w' := by
  have HX := Lib.hid hX
  clear hX
  go_enter Tryd.func11, Tryd.ntmps11
  go_wp2_with fail
  have ba : Blk (((w).alloc (.cells #[.bool al1, .int .i64 ad1, .int .i64 bi1, .int .i64 lo1, .int .i64 hi1] 42)).alloc (.cells #[.bool al2, .int .i64 ad2, .int .i64 bi2, .int .i64 lo2, .int .i64 hi2] 42)) (w.heap.size) 42 #[.bool al1, .int .i64 ad1, .int .i64 bi1, .int .i64 lo1, .int .i64 hi1] := (Blk.new _ _ _).alloc _
  have bb : Blk (((w).alloc (.cells #[.bool al1, .int .i64 ad1, .int .i64 bi1, .int .i64 lo1, .int .i64 hi1] 42)).alloc (.cells #[.bool al2, .int .i64 ad2, .int .i64 bi2, .int .i64 lo2, .int .i64 hi2] 42)) (w.heap.size + 1) 42 #[.bool al2, .int .i64 ad2, .int .i64 bi2, .int .i64 lo2, .int .i64 hi2] := Blk.new1 _ _ _ _
  have HB1 := Lib.hid (show Below w.heap.size w (((w).alloc (.cells #[.bool al1, .int .i64 ad1, .int .i64 bi1, .int .i64 lo1, .int .i64 hi1] 42)).alloc (.cells #[.bool al2, .int .i64 ad2, .int .i64 bi2, .int .i64 lo2, .int .i64 hi2] 42)) from ((Below.refl w.heap.size w).alloc (by first | exact Nat.le_refl _ | omega | (simp; done) | (simp; omega)) _).alloc (by first | exact Nat.le_refl _ | omega | (simp; done) | (simp; omega)) _)
  generalize ((w).alloc (.cells #[.bool al1, .int .i64 ad1, .int .i64 bi1, .int .i64 lo1, .int .i64 hi1] 42)).alloc (.cells #[.bool al2, .int .i64 ad2, .int .i64 bi2, .int .i64 lo2, .int .i64 hi2] 42) = w1 at *
  have hz1 : w.heap.size ≤ w1.heap.size := HB1.out.size
  have HAW := Lib.hid (fun d os => awake_at w1 d os (HX.out.below (HB1.out)))
  have r_ba0 := fun d os => cell_regrown (v := .bool al1) (ba.cell 0) d os
  have r_ba1 := fun d os => cell_regrown (v := .int .i64 ad1) (ba.cell 1) d os
  have r_ba2 := fun d os => cell_regrown (v := .int .i64 bi1) (ba.cell 2) d os
  have r_ba3 := fun d os => cell_regrown (v := .int .i64 lo1) (ba.cell 3) d os
  have r_ba4 := fun d os => cell_regrown (v := .int .i64 hi1) (ba.cell 4) d os
  have r_bb0 := fun d os => cell_regrown (v := .bool al2) (bb.cell 0) d os
  have r_bb1 := fun d os => cell_regrown (v := .int .i64 ad2) (bb.cell 1) d os
  have r_bb2 := fun d os => cell_regrown (v := .int .i64 bi2) (bb.cell 2) d os
  have r_bb3 := fun d os => cell_regrown (v := .int .i64 lo2) (bb.cell 3) d os
  have r_bb4 := fun d os => cell_regrown (v := .int .i64 hi2) (bb.cell 4) d os
  refine wp_region_quiet_below (by kernel_rfl) (by kernel_rfl) ?_
  repeat (go_big_quiet_step (first | (go_at_call 56; go_must (exact mMatches_at _ _ _ _ _ _ _ _ _ _)) | (go_at_call 57; go_must (exact mrMatches_at _ _ _ _ _ _ _ _ _ _)) | (go_at_call 58; go_must (exact Covers_at _ _ _ _ _ _ _ _ _ _ _ _ _)) | (go_at_call 59; go_must (exact rCovers_at _ _ _ _ _ _ _ _ _ _ _ _ _)) | (go_at_call 50; go_must (exact HAW.out _ _))))
  refine wpQuiet_nil ?_
  intro _ hw'
  obtain ⟨⟨dq, osq⟩, hw''⟩ := hw'
  subst hw''
  have hb := below_regrown w1 dq osq
  have ba : Blk (Go.Sort.grow (redrawn w1 dq) osq) (w.heap.size) 42 #[.bool al1, .int .i64 ad1, .int .i64 bi1, .int .i64 lo1, .int .i64 hi1] := ba.on hb
  have bb : Blk (Go.Sort.grow (redrawn w1 dq) osq) (w.heap.size + 1) 42 #[.bool al2, .int .i64 ad2, .int .i64 bi2, .int .i64 lo2, .int .i64 hi2] := bb.on hb
  have HB2 := Lib.hid ((HB1.out).trans (hb.mono (by first | exact Nat.le_refl _ | omega | (simp; done) | (simp; omega))))
  clear hb r_ba0 r_ba1 r_ba2 r_ba3 r_ba4 r_bb0 r_bb1 r_bb2 r_bb3 r_bb4
  generalize Go.Sort.grow (redrawn w1 dq) osq = w2 at *
  have hz2 : w.heap.size ≤ w2.heap.size := HB2.out.size
  go_wp2_with fail
  go_ret
  exact ⟨rfl, HB2.out⟩
theorem fieldsD : Tryd.prog.underlying 53 = some (.struct (Tryd.prog.fieldsOf 53)) := by kernel_rfl
theorem stoodD : Tryd.prog.stoodInHeld 53 = false := by kernel_rfl
def eqD (x : Bool) (a : Int) (y : Bool) (b : Int) : Bool := x == y && a == b
theorem eqD_self (x : Bool) (a : Int) : eqD x a x a = true := by simp [eqD]
theorem run_eql_D (W : World) (x : Bool) (a : Int) (y : Bool) (b : Int) : (binOp .eql 53 (.agg #[.bool x, .int .i64 a]) (.agg #[.bool y, .int .i64 b])).run Tryd.prog W = .ok (.bool (eqD x a y b)) W := by
  rw [run_eql_struct, run_equalIn_struct _ _ _ _ _ fieldsD stoodD]
  unfold eqD
  simp [go_sem]
  by_cases h0 : x = y <;> by_cases h1 : a = b <;> simp [h0, h1]
attribute [go_sem ↓] run_eql_D
set_option maxHeartbeats 4000000 in
set_option maxRecDepth 100000 in
theorem law_decides (A : Option Addr) (c : Nat) (l : List Rule) (a p : Int) (w : World) (hX : LaidS w) (hl : RulesAt w w.heap.size A l) (hcap : l.length ≤ c) :
    Calls Tryd.prog 10 #[.slice A l.length c, .int .i64 a, .int .i64 p] w fun e w' => e = .returned (.bool true) ∧ Below w.heap.size w w' := by
  have HX := Lib.hid hX
  have HL := Lib.hid hl
  have HC := Lib.hid hcap
  clear hX hl hcap
  by_cases hn : l.length ≤ 300
  · have hd : decide (300 < (l.length : Int)) = false := decide_eq_false (by omega)
    go_enter Tryd.func10, Tryd.ntmps10
    go_wp2_with fail
    refine (Decide_any A c l a p _ HL.out (by omega)).mono ?_
    rintro e w1 ⟨rfl, hb⟩
    have hbz := hb.size
    have HB1 := Lib.hid ((Below.refl w.heap.size w).trans (hb.mono (by first | exact Nat.le_refl _ | omega | (simp; done) | (simp; omega))))
    have hz1 : w.heap.size ≤ w1.heap.size := HB1.out.size
    clear hb hbz
    go_wp2_with fail
    refine (rDecide_any A c l a p _ ((HL.out.below (HB1.out)).more (HB1.out).size) (by omega)).mono ?_
    rintro e w2 ⟨rfl, hb⟩
    have hbz := hb.size
    have HB2 := Lib.hid ((HB1.out).trans (hb.mono (by first | exact Nat.le_refl _ | omega | (simp; done) | (simp; omega))))
    have hz2 : w.heap.size ≤ w2.heap.size := HB2.out.size
    clear hb hbz
    generalize decI l a p = dd at *
    obtain ⟨x, y⟩ := dd
    simp only [aggD]
    have hdd := eqD_self x y
    go_wp2_with fail
    refine (Dead_any A c l _ ((HL.out.below (HB2.out)).more (HB2.out).size) (by omega) HC.out).mono ?_
    rintro e w3 ⟨v, rfl, ho, hb⟩
    obtain ⟨p1, c1, rfl, hr1⟩ := ho.reads
    clear ho
    have HB3 := Lib.hid ((HB2.out).trans (hb.mono (HB2.out).size))
    have hz3 : w.heap.size ≤ w3.heap.size := HB3.out.size
    clear hb
    go_wp2_with fail
    refine (rDead_any A c l _ ((HL.out.below (HB3.out)).more (HB3.out).size) (by omega)).mono ?_
    rintro e w4 ⟨v, rfl, ho, hb⟩
    obtain ⟨p2, c2, rfl, hr2⟩ := ho.reads
    clear ho
    have HB4 := Lib.hid ((HB3.out).trans (hb.mono (HB3.out).size))
    have hr1 := hr1.below hb
    have hz4 : w.heap.size ≤ w4.heap.size := HB4.out.size
    clear hb
    have hln : (deadI l l.length).length ≤ 1000000 := Nat.le_trans (deadI_len l l.length) (by omega)
    go_wp2_with fail
    refine (same_any _ _ _ _ (deadI l l.length) _ _ _ hr1 hr2 hln).mono ?_
    rintro e w5 ⟨rfl, hb⟩
    have hbz := hb.size
    have HB5 := Lib.hid ((HB4.out).trans (hb.mono (by first | exact Nat.le_refl _ | omega | (simp; done) | (simp; omega))))
    have hz5 : w.heap.size ≤ w5.heap.size := HB5.out.size
    clear hb hbz
    go_wp2_with fail
    refine (awake_any _ (HX.out.below (HB5.out))).mono ?_
    rintro e w6 ⟨rfl, hb⟩
    have hbz := hb.size
    have HB6 := Lib.hid ((HB5.out).trans (hb.mono (by first | exact Nat.le_refl _ | omega | (simp; done) | (simp; omega))))
    have hz6 : w.heap.size ≤ w6.heap.size := HB6.out.size
    clear hb hbz
    go_wp2_with fail
    go_ret
    exact ⟨rfl, HB6.out⟩
  · have hd : decide (300 < (l.length : Int)) = true := decide_eq_true (by omega)
    go_enter Tryd.func10, Tryd.ntmps10
    go_wp2_with fail
    refine (awake_any _ (HX.out.below (Below.refl w.heap.size w))).mono ?_
    rintro e w1 ⟨rfl, hb⟩
    have hbz := hb.size
    have HB1 := Lib.hid ((Below.refl w.heap.size w).trans (hb.mono (by first | exact Nat.le_refl _ | omega | (simp; done) | (simp; omega))))
    have hz1 : w.heap.size ≤ w1.heap.size := HB1.out.size
    clear hb hbz
    go_wp2_with fail
    go_ret
    exact ⟨rfl, HB1.out⟩
end Go.Proofs.YtpkekfhnpcjgkaaDoor
