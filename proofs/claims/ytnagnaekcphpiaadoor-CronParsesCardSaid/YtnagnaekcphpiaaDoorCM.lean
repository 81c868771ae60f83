/- cron: the examples; the laws CronMatches, CronFormats, CronNextIsLeast. -/
import Derived.Test.YtnagnaekcphpiaaDoorCL
import Derived.Laws.StructEq
namespace Go.Proofs.YtnagnaekcphpiaaDoor
open Go.RowKit
open Go.Sort (grow)

theorem fieldsC : Tryd.prog.underlying 25 = some (.struct (Tryd.prog.fieldsOf 25)) := by kernel_rfl
theorem stoodC : Tryd.prog.stoodInHeld 25 = false := by kernel_rfl
def eqC (a b d x y z : Int) : Bool := a == x && (b == y && d == z)
theorem eqC_self (a b d : Int) : eqC a b d a b d = true := by simp [eqC]
theorem run_eql_C (W : World) (a b d x y z : Int) : (binOp .eql 25 (.agg #[.int .u64 a, .int .u64 b, .int .u64 d]) (.agg #[.int .u64 x, .int .u64 y, .int .u64 z])).run Tryd.prog W = .ok (.bool (eqC a b d x y z)) W := by
  rw [run_eql_struct, run_equalIn_struct _ _ _ _ _ fieldsC stoodC]
  unfold eqC
  simp [go_sem]
  by_cases h0 : a = x <;> by_cases h1 : b = y <;> by_cases h2 : d = z <;> simp [h0, h1, h2]
attribute [go_sem ↓] run_eql_C
theorem aw_p1 : parseS ⟨#[48, 32, 42, 47, 54, 32, 49, 45, 53]⟩ = (⟨1, 266305, 62⟩, 0) := by kernel_rfl
theorem aw_p2 : parseS ⟨#[48, 32, 48, 32, 48]⟩ = (⟨1, 1, 1⟩, 0) := by kernel_rfl
theorem aw_p3 : parseS ⟨#[54, 48, 32, 42, 32, 42]⟩ = (⟨0, 0, 0⟩, 2) := by kernel_rfl
theorem aw_p4 : parseS ⟨#[54, 48, 32, 120, 32, 42]⟩ = (⟨0, 0, 0⟩, 1) := by kernel_rfl
theorem aw_f1 : fmtS ⟨1, 266305, 62⟩ = (⟨#[48, 32, 48, 44, 54, 44, 49, 50, 44, 49, 56, 32, 49, 44, 50, 44, 51, 44, 52, 44, 53]⟩, 0) := by kernel_rfl
theorem one_bit (k : Nat) : (1 : Nat).testBit k = decide (0 = k) := Nat.testBit_two_pow (n := 0)
theorem isC_one (t : Nat) : isC ⟨1, 1, 1⟩ t = decide (t % 60 = 0 ∧ t / 60 % 24 = 0 ∧ t / 1440 % 7 = 0) := by
  unfold isC
  rw [one_bit, one_bit, one_bit, Bool.eq_iff_iff]
  simp only [Bool.and_eq_true, decide_eq_true_eq]
  omega
theorem aw_n : nxS ⟨1, 1, 1⟩ 0 = (10080, 0) := by
  refine nx_hit (t := 10080) (by kernel_rfl) (by omega) (by omega) (by decide) (by rw [isC_one]; decide) fun u h1 h2 => ?_
  rw [isC_one, decide_eq_false]
  omega
theorem aw_m : matC ⟨1, 1, 1⟩ 0 = true := by kernel_rfl
theorem mat_yes {c : Cr} {n : Nat} (h : okC c = true) (h1 : (n : Int) ≤ 1073741824) (h2 : isC c n = true) : matC c n = true := by
  unfold matC
  rw [h, Int.toNat_natCast, h2, decide_eq_true (show (0 : Int) ≤ n by omega), decide_eq_true h1]; rfl
theorem mat_no {c : Cr} {n : Nat} (h : isC c n = false) : matC c n = false := by unfold matC; rw [Int.toNat_natCast, h, Bool.and_false]
theorem u64s (a b d : Nat) (h : a < 18446744073709551616 ∧ b < 18446744073709551616 ∧ d < 18446744073709551616) : U64 ⟨a, b, d⟩ := h
theorem aw_P1 (m : Int) (w : World) (hm : w.cell? ⟨0, 0, none⟩ = some (.int .i64 m)) : Calls Tryd.prog 10 #[.string ⟨#[48, 32, 42, 47, 54, 32, 49, 45, 53]⟩] w fun e w' => e = .returned (.tuple #[.agg #[.int .u64 1, .int .u64 266305, .int .u64 62], .int .i64 0]) ∧ Below w.heap.size w w' := by
  have h := Parse_any ⟨#[48, 32, 42, 47, 54, 32, 49, 45, 53]⟩ m w (by decide) hm
  rw [aw_p1] at h
  exact h
theorem aw_P2 (m : Int) (w : World) (hm : w.cell? ⟨0, 0, none⟩ = some (.int .i64 m)) : Calls Tryd.prog 10 #[.string ⟨#[48, 32, 48, 32, 48]⟩] w fun e w' => e = .returned (.tuple #[.agg #[.int .u64 1, .int .u64 1, .int .u64 1], .int .i64 0]) ∧ Below w.heap.size w w' := by
  have h := Parse_any ⟨#[48, 32, 48, 32, 48]⟩ m w (by decide) hm
  rw [aw_p2] at h
  exact h
theorem aw_P3 (m : Int) (w : World) (hm : w.cell? ⟨0, 0, none⟩ = some (.int .i64 m)) : Calls Tryd.prog 10 #[.string ⟨#[54, 48, 32, 42, 32, 42]⟩] w fun e w' => e = .returned (.tuple #[.agg #[.int .u64 0, .int .u64 0, .int .u64 0], .int .i64 2]) ∧ Below w.heap.size w w' := by
  have h := Parse_any ⟨#[54, 48, 32, 42, 32, 42]⟩ m w (by decide) hm
  rw [aw_p3] at h
  exact h
theorem aw_P4 (m : Int) (w : World) (hm : w.cell? ⟨0, 0, none⟩ = some (.int .i64 m)) : Calls Tryd.prog 10 #[.string ⟨#[54, 48, 32, 120, 32, 42]⟩] w fun e w' => e = .returned (.tuple #[.agg #[.int .u64 0, .int .u64 0, .int .u64 0], .int .i64 1]) ∧ Below w.heap.size w w' := by
  have h := Parse_any ⟨#[54, 48, 32, 120, 32, 42]⟩ m w (by decide) hm
  rw [aw_p4] at h
  exact h
theorem aw_F (w : World) : Calls Tryd.prog 12 #[.agg #[.int .u64 1, .int .u64 266305, .int .u64 62]] w fun e w' => e = .returned (.tuple #[.string ⟨#[48, 32, 48, 44, 54, 44, 49, 50, 44, 49, 56, 32, 49, 44, 50, 44, 51, 44, 52, 44, 53]⟩, .int .i64 0]) ∧ Below w.heap.size w w' := by
  have h := Format_any ⟨1, 266305, 62⟩ w (u64s _ _ _ (by decide))
  rw [aw_f1] at h
  exact h
theorem aw_N (w : World) : Calls Tryd.prog 16 #[.agg #[.int .u64 1, .int .u64 1, .int .u64 1], .int .i64 0] w fun e w' => e = .returned (.tuple #[.int .i64 10080, .int .i64 0]) ∧ Below w.heap.size w w' := by
  have h := Next_any ⟨1, 1, 1⟩ 0 w (u64s _ _ _ (by decide))
  rw [aw_n] at h
  exact h
theorem aw_M (w : World) : Calls Tryd.prog 18 #[.agg #[.int .u64 1, .int .u64 1, .int .u64 1], .int .i64 0] w fun e w' => e = .returned (.bool true) ∧ Below w.heap.size w w' := by
  have h := Matches_any ⟨1, 1, 1⟩ 0 w (u64s _ _ _ (by decide))
  rw [aw_m] at h
  exact h
set_option maxHeartbeats 4000000 in
set_option maxRecDepth 20000 in
theorem awake_any (m : Int) (w : World) (hm : w.cell? ⟨0, 0, none⟩ = some (.int .i64 m)) : Calls Tryd.prog 9 #[] w fun e w' => e = .returned (.bool true) ∧ Below w.heap.size w w' := by
  have HM := Lib.hid hm
  have hw0 := block_lt_of_cell hm
  clear hm
  go_enter Tryd.func9, Tryd.ntmps9
  go_wp2_with fail
  refine (aw_P1 m _ (((Below.refl w.heap.size w).cell (p := ⟨0, 0, none⟩) hw0).trans HM.out)).mono ?_
  rintro e w1 ⟨rfl, hb⟩
  have hbz := hb.size
  have HB1 := Lib.hid ((Below.refl w.heap.size w).trans (hb.mono (by first | exact Nat.le_refl _ | omega | (simp; done) | (simp; omega))))
  have hz1 : w.heap.size ≤ w1.heap.size := HB1.out.size
  clear hb hbz
  go_wp2_with fail
  refine (aw_F _).mono ?_
  rintro e w2 ⟨rfl, hb⟩
  have b1 : Blk w2 (w1.heap.size) 25 #[.int .u64 1, .int .u64 266305, .int .u64 62] := (Blk.new _ _ _).on hb
  have hbz := hb.size
  have HB2 := Lib.hid (((HB1.out).alloc (by first | exact Nat.le_refl _ | omega | (simp; done) | (simp; omega)) _).trans (hb.mono (by first | exact Nat.le_refl _ | omega | (simp; done) | (simp; omega))))
  have hz2 : w.heap.size ≤ w2.heap.size := HB2.out.size
  clear hb hbz
  go_wp2_with fail
  refine (aw_P2 m _ (((HB2.out).cell (p := ⟨0, 0, none⟩) hw0).trans HM.out)).mono ?_
  rintro e w3 ⟨rfl, hb⟩
  have b1 : Blk w3 (w1.heap.size) 25 #[.int .u64 1, .int .u64 266305, .int .u64 62] := (b1).on hb
  have hbz := hb.size
  have HB3 := Lib.hid ((HB2.out).trans (hb.mono (by first | exact Nat.le_refl _ | omega | (simp; done) | (simp; omega))))
  have hz3 : w.heap.size ≤ w3.heap.size := HB3.out.size
  clear hb hbz
  go_wp2_with fail
  refine (aw_N _).mono ?_
  rintro e w4 ⟨rfl, hb⟩
  have b1 : Blk w4 (w1.heap.size) 25 #[.int .u64 1, .int .u64 266305, .int .u64 62] := ((b1).alloc _).on hb
  have b2 : Blk w4 (w3.heap.size) 25 #[.int .u64 1, .int .u64 1, .int .u64 1] := (Blk.new _ _ _).on hb
  have hbz := hb.size
  have HB4 := Lib.hid (((HB3.out).alloc (by first | exact Nat.le_refl _ | omega | (simp; done) | (simp; omega)) _).trans (hb.mono (by first | exact Nat.le_refl _ | omega | (simp; done) | (simp; omega))))
  have hz4 : w.heap.size ≤ w4.heap.size := HB4.out.size
  clear hb hbz
  go_wp2_with fail
  refine (aw_P3 m _ (((HB4.out).cell (p := ⟨0, 0, none⟩) hw0).trans HM.out)).mono ?_
  rintro e w5 ⟨rfl, hb⟩
  have b1 : Blk w5 (w1.heap.size) 25 #[.int .u64 1, .int .u64 266305, .int .u64 62] := (b1).on hb
  have b2 : Blk w5 (w3.heap.size) 25 #[.int .u64 1, .int .u64 1, .int .u64 1] := (b2).on hb
  have hbz := hb.size
  have HB5 := Lib.hid ((HB4.out).trans (hb.mono (by first | exact Nat.le_refl _ | omega | (simp; done) | (simp; omega))))
  have hz5 : w.heap.size ≤ w5.heap.size := HB5.out.size
  clear hb hbz
  go_wp2_with fail
  refine (aw_P4 m _ ((((HB5.out).alloc (by first | exact Nat.le_refl _ | omega | (simp; done) | (simp; omega)) _).cell (p := ⟨0, 0, none⟩) hw0).trans HM.out)).mono ?_
  rintro e w6 ⟨rfl, hb⟩
  have b1 : Blk w6 (w1.heap.size) 25 #[.int .u64 1, .int .u64 266305, .int .u64 62] := ((b1).alloc _).on hb
  have b2 : Blk w6 (w3.heap.size) 25 #[.int .u64 1, .int .u64 1, .int .u64 1] := ((b2).alloc _).on hb
  have b3 : Blk w6 (w5.heap.size) 25 #[.int .u64 0, .int .u64 0, .int .u64 0] := (Blk.new _ _ _).on hb
  have hbz := hb.size
  have HB6 := Lib.hid (((HB5.out).alloc (by first | exact Nat.le_refl _ | omega | (simp; done) | (simp; omega)) _).trans (hb.mono (by first | exact Nat.le_refl _ | omega | (simp; done) | (simp; omega))))
  have hz6 : w.heap.size ≤ w6.heap.size := HB6.out.size
  clear hb hbz
  have qq0 : ((w6).alloc (.cells #[.int .u64 0, .int .u64 0, .int .u64 0] 25)).cell? ⟨w3.heap.size, 0, none⟩ = some (.int .u64 1) := (b2.alloc _).cell 0
  have qq1 : ((w6).alloc (.cells #[.int .u64 0, .int .u64 0, .int .u64 0] 25)).cell? ⟨w3.heap.size, 1, none⟩ = some (.int .u64 1) := (b2.alloc _).cell 1
  have qq2 : ((w6).alloc (.cells #[.int .u64 0, .int .u64 0, .int .u64 0] 25)).cell? ⟨w3.heap.size, 2, none⟩ = some (.int .u64 1) := (b2.alloc _).cell 2
  go_wp2_with fail
  refine (aw_M _).mono ?_
  rintro e w7 ⟨rfl, hb⟩
  clear b1
  clear b2
  clear b3
  clear qq0 qq1 qq2
  have hbz := hb.size
  have HB7 := Lib.hid (((HB6.out).alloc (by first | exact Nat.le_refl _ | omega | (simp; done) | (simp; omega)) _).trans (hb.mono (by first | exact Nat.le_refl _ | omega | (simp; done) | (simp; omega))))
  have hz7 : w.heap.size ≤ w7.heap.size := HB7.out.size
  clear hb hbz
  go_wp2_with fail
  go_ret
  exact ⟨rfl, HB7.out⟩
theorem awake_at (m : Int) (W : World) (d : Nat) (os : Array Obj) (hm : W.cell? ⟨0, 0, none⟩ = some (.int .i64 m)) :
    Calls Tryd.prog 9 #[] (grow (redrawn W d) os) fun e w' => e = .returned (.bool true) ∧ ∃ p : Regrown, w' = grow (redrawn W p.d) p.os := Calls.regrown_of (awake_any m _ (cell_regrown hm d os))
theorem Matches_at (c : Cr) (t : Int) (b : Bool) (h : matC c t = b) (hu : U64 c) (W : World) (d : Nat) (os : Array Obj) :
    Calls Tryd.prog 18 #[.agg #[.int .u64 c.mi, .int .u64 c.ho, .int .u64 c.da], .int .i64 t] (grow (redrawn W d) os) fun e w' => e = .returned (.bool b) ∧ ∃ p : Regrown, w' = grow (redrawn W p.d) p.os := h ▸ Calls.regrown_of (Matches_any c t _ hu)
theorem rMatches_at (c : Cr) (t : Int) (b : Bool) (h : matC c t = b) (hu : U64 c) (W : World) (d : Nat) (os : Array Obj) :
    Calls Tryd.prog 19 #[.agg #[.int .u64 c.mi, .int .u64 c.ho, .int .u64 c.da], .int .i64 t] (grow (redrawn W d) os) fun e w' => e = .returned (.bool b) ∧ ∃ p : Regrown, w' = grow (redrawn W p.d) p.os := h ▸ Calls.regrown_of (rMatches_any c t _ hu)
theorem Check_at (c : Cr) (n : Int) (h : ckC c = n) (hu : U64 c) (W : World) (d : Nat) (os : Array Obj) :
    Calls Tryd.prog 14 #[.agg #[.int .u64 c.mi, .int .u64 c.ho, .int .u64 c.da]] (grow (redrawn W d) os) fun e w' => e = .returned (.int .i64 n) ∧ ∃ p : Regrown, w' = grow (redrawn W p.d) p.os := h ▸ Calls.regrown_of (Check_any c _ hu)
theorem rCheck_at (c : Cr) (n : Int) (h : ckC c = n) (W : World) (d : Nat) (os : Array Obj) :
    Calls Tryd.prog 15 #[.agg #[.int .u64 c.mi, .int .u64 c.ho, .int .u64 c.da]] (grow (redrawn W d) os) fun e w' => e = .returned (.int .i64 n) ∧ ∃ p : Regrown, w' = grow (redrawn W p.d) p.os := h ▸ Calls.regrown_of (rCheck_any c _)
set_option maxHeartbeats 8000000 in
set_option maxRecDepth 20000 in
theorem CronMatches_any (c : Cr) (t : Int) (m : Int) (w : World) (hu : U64 c) (hm : w.cell? ⟨0, 0, none⟩ = some (.int .i64 m)) : Calls Tryd.prog 5 #[.agg #[.int .u64 c.mi, .int .u64 c.ho, .int .u64 c.da], .int .i64 t] w fun e w' => e = .returned (.bool true) ∧ Below w.heap.size w w' := by
  have HU := Lib.hid hu
  have HM := Lib.hid hm
  have hw0 := block_lt_of_cell hm
  clear hu hm
  go_enter Tryd.func5, Tryd.ntmps5
  go_wp2_with fail
  refine (Next_any c t _ HU.out).mono ?_
  rintro e w1 ⟨rfl, hb⟩
  have bc : Blk w1 (w.heap.size) 25 #[.int .u64 c.mi, .int .u64 c.ho, .int .u64 c.da] := (Blk.new _ _ _).on hb
  have hbz := hb.size
  have HB1 := Lib.hid (((Below.refl w.heap.size w).alloc (by first | exact Nat.le_refl _ | omega | (simp; done) | (simp; omega)) _).trans (hb.mono (by first | exact Nat.le_refl _ | omega | (simp; done) | (simp; omega))))
  have hz1 : w.heap.size ≤ w1.heap.size := HB1.out.size
  clear hb hbz
  obtain ⟨⟨n, e2⟩, hq⟩ : ∃ q, nxS c t = q := ⟨_, rfl⟩
  rw [hq]
  unfold tup2
  dsimp only
  have HQ := Lib.hid hq
  clear hq
  have q_bc0 : w1.cell? ⟨w.heap.size, 0, none⟩ = some (.int .u64 c.mi) := bc.cell 0
  have q_bc1 : w1.cell? ⟨w.heap.size, 1, none⟩ = some (.int .u64 c.ho) := bc.cell 1
  have q_bc2 : w1.cell? ⟨w.heap.size, 2, none⟩ = some (.int .u64 c.da) := bc.cell 2
  go_wp2_with fail
  refine (rNext_any c t _ HU.out).mono ?_
  rintro e w2 ⟨rfl, hb⟩
  clear q_bc0 q_bc1 q_bc2
  have bc : Blk w2 (w.heap.size) 25 #[.int .u64 c.mi, .int .u64 c.ho, .int .u64 c.da] := (bc).on hb
  have hbz := hb.size
  have HB2 := Lib.hid ((HB1.out).trans (hb.mono (by first | exact Nat.le_refl _ | omega | (simp; done) | (simp; omega))))
  have hz2 : w.heap.size ≤ w2.heap.size := HB2.out.size
  clear hb hbz
  rw [HQ.out]
  unfold tup2
  dsimp only
  obtain ⟨b, hb9⟩ : ∃ b, matC c t = b := ⟨_, rfl⟩
  have HX := Lib.hid hb9
  clear hb9
  have HMM := Lib.hid (((HB2.out).cell (p := ⟨0, 0, none⟩) hw0).trans HM.out)
  go_wp2_with fail
  have r_bc0 := fun d os => cell_regrown (v := .int .u64 c.mi) (bc.cell 0) d os
  have r_bc1 := fun d os => cell_regrown (v := .int .u64 c.ho) (bc.cell 1) d os
  have r_bc2 := fun d os => cell_regrown (v := .int .u64 c.da) (bc.cell 2) d os
  refine wp_region_quiet_below (by kernel_rfl) (by kernel_rfl) ?_
  repeat (go_big_quiet_step ((first | (go_at_call 18; exact Matches_at c t b HX.out HU.out _ _ _) | (go_at_call 19; exact rMatches_at c t b HX.out HU.out _ _ _) | (go_at_call 9; exact awake_at m _ _ _ HMM.out))))
  refine wpQuiet_nil ?_
  intro _ hw'
  obtain ⟨⟨dq, osq⟩, hw''⟩ := hw'
  subst hw''
  have hb := below_regrown w2 dq osq
  have bc : Blk (Go.Sort.grow (redrawn w2 dq) osq) (w.heap.size) 25 #[.int .u64 c.mi, .int .u64 c.ho, .int .u64 c.da] := bc.on hb
  have HB3 := Lib.hid ((HB2.out).trans (hb.mono (by first | exact Nat.le_refl _ | omega | (simp; done) | (simp; omega))))
  clear hb r_bc0 r_bc1 r_bc2
  generalize Go.Sort.grow (redrawn w2 dq) osq = w3 at *
  have hz3 : w.heap.size ≤ w3.heap.size := HB3.out.size
  go_wp2_with fail
  go_ret
  exact ⟨rfl, HB3.out⟩
set_option maxHeartbeats 8000000 in
set_option maxRecDepth 20000 in
theorem CronFormats_any (c : Cr) (m : Int) (w : World) (hu : U64 c) (hm : w.cell? ⟨0, 0, none⟩ = some (.int .i64 m)) : Calls Tryd.prog 4 #[.agg #[.int .u64 c.mi, .int .u64 c.ho, .int .u64 c.da]] w fun e w' => e = .returned (.bool true) ∧ Below w.heap.size w w' := by
  have HU := Lib.hid hu
  have HM := Lib.hid hm
  have hw0 := block_lt_of_cell hm
  clear hu hm
  go_enter Tryd.func4, Tryd.ntmps4
  go_wp2_with fail
  refine (Format_any c _ HU.out).mono ?_
  rintro e w1 ⟨rfl, hb⟩
  have bc : Blk w1 (w.heap.size) 25 #[.int .u64 c.mi, .int .u64 c.ho, .int .u64 c.da] := (Blk.new _ _ _).on hb
  have hbz := hb.size
  have HB1 := Lib.hid (((Below.refl w.heap.size w).alloc (by first | exact Nat.le_refl _ | omega | (simp; done) | (simp; omega)) _).trans (hb.mono (by first | exact Nat.le_refl _ | omega | (simp; done) | (simp; omega))))
  have hz1 : w.heap.size ≤ w1.heap.size := HB1.out.size
  clear hb hbz
  obtain ⟨⟨x, n⟩, hq⟩ : ∃ q, fmtS c = q := ⟨_, rfl⟩
  rw [hq]
  unfold tupF
  dsimp only
  have HQ := Lib.hid hq
  clear hq
  have q_bc0 : w1.cell? ⟨w.heap.size, 0, none⟩ = some (.int .u64 c.mi) := bc.cell 0
  have q_bc1 : w1.cell? ⟨w.heap.size, 1, none⟩ = some (.int .u64 c.ho) := bc.cell 1
  have q_bc2 : w1.cell? ⟨w.heap.size, 2, none⟩ = some (.int .u64 c.da) := bc.cell 2
  go_wp2_with fail
  refine (rFormat_any c _).mono ?_
  rintro e w2 ⟨rfl, hb⟩
  clear q_bc0 q_bc1 q_bc2
  have bc : Blk w2 (w.heap.size) 25 #[.int .u64 c.mi, .int .u64 c.ho, .int .u64 c.da] := (bc).on hb
  have hbz := hb.size
  have HB2 := Lib.hid ((HB1.out).trans (hb.mono (by first | exact Nat.le_refl _ | omega | (simp; done) | (simp; omega))))
  have hz2 : w.heap.size ≤ w2.heap.size := HB2.out.size
  clear hb hbz
  rw [HQ.out]
  unfold tupF
  dsimp only
  obtain ⟨b, hb9⟩ : ∃ b, ckC c = b := ⟨_, rfl⟩
  have HX := Lib.hid hb9
  clear hb9
  go_wp2_with fail
  have r_bc0 := fun d os => cell_regrown (v := .int .u64 c.mi) (bc.cell 0) d os
  have r_bc1 := fun d os => cell_regrown (v := .int .u64 c.ho) (bc.cell 1) d os
  have r_bc2 := fun d os => cell_regrown (v := .int .u64 c.da) (bc.cell 2) d os
  refine wp_region_quiet_below (by kernel_rfl) (by kernel_rfl) ?_
  repeat (go_big_quiet_step ((first | (go_at_call 14; exact Check_at c b HX.out HU.out _ _ _) | (go_at_call 15; exact rCheck_at c b HX.out _ _ _))))
  refine wpQuiet_nil ?_
  intro _ hw'
  obtain ⟨⟨dq, osq⟩, hw''⟩ := hw'
  subst hw''
  have hb := below_regrown w2 dq osq
  have bc : Blk (Go.Sort.grow (redrawn w2 dq) osq) (w.heap.size) 25 #[.int .u64 c.mi, .int .u64 c.ho, .int .u64 c.da] := bc.on hb
  have HB3 := Lib.hid ((HB2.out).trans (hb.mono (by first | exact Nat.le_refl _ | omega | (simp; done) | (simp; omega))))
  clear hb r_bc0 r_bc1 r_bc2
  generalize Go.Sort.grow (redrawn w2 dq) osq = w3 at *
  have hz3 : w.heap.size ≤ w3.heap.size := HB3.out.size
  cases hok : okC c
  · obtain ⟨rfl, rfl⟩ : x = ⟨#[]⟩ ∧ n = 2 := by have h := HQ.out; rw [fmt_bad hok] at h; injection h with h1 h2; exact ⟨h1.symm, h2.symm⟩
    clear hok
    go_wp2_with fail
    refine (awake_any m _ (((HB3.out).cell (p := ⟨0, 0, none⟩) hw0).trans HM.out)).mono ?_
    rintro e w4 ⟨rfl, hb⟩
    have bc : Blk w4 (w.heap.size) 25 #[.int .u64 c.mi, .int .u64 c.ho, .int .u64 c.da] := (bc).on hb
    have hbz := hb.size
    have HB4 := Lib.hid ((HB3.out).trans (hb.mono (by first | exact Nat.le_refl _ | omega | (simp; done) | (simp; omega))))
    have hz4 : w.heap.size ≤ w4.heap.size := HB4.out.size
    clear hb hbz
    go_wp2_with fail
    go_ret
    exact ⟨rfl, HB4.out⟩
  · have hpf := parse_fmt hok
    obtain rfl : n = 0 := by have h := hpf.2.1; rw [HQ.out] at h; exact h
    have HP := Lib.hid (show parseS x = (c, 0) from by have h := hpf.1; rw [HQ.out] at h; exact h)
    have hxs : x.size ≤ 4000 := by have h := hpf.2.2; rw [HQ.out] at h; exact h
    clear hpf hok
    go_wp2_with fail
    refine (Parse_any x m _ (by omega) (((HB3.out).cell (p := ⟨0, 0, none⟩) hw0).trans HM.out)).mono ?_
    rintro e w4 ⟨rfl, hb⟩
    have bc : Blk w4 (w.heap.size) 25 #[.int .u64 c.mi, .int .u64 c.ho, .int .u64 c.da] := (bc).on hb
    have hbz := hb.size
    have HB4 := Lib.hid ((HB3.out).trans (hb.mono (by first | exact Nat.le_refl _ | omega | (simp; done) | (simp; omega))))
    have hz4 : w.heap.size ≤ w4.heap.size := HB4.out.size
    clear hb hbz
    rw [HP.out]
    unfold tupC
    dsimp only
    have qq0 : ((w4).alloc (.cells #[.int .u64 c.mi, .int .u64 c.ho, .int .u64 c.da] 25)).cell? ⟨w.heap.size, 0, none⟩ = some (.int .u64 c.mi) := (bc.alloc _).cell 0
    have qq1 : ((w4).alloc (.cells #[.int .u64 c.mi, .int .u64 c.ho, .int .u64 c.da] 25)).cell? ⟨w.heap.size, 1, none⟩ = some (.int .u64 c.ho) := (bc.alloc _).cell 1
    have qq2 : ((w4).alloc (.cells #[.int .u64 c.mi, .int .u64 c.ho, .int .u64 c.da] 25)).cell? ⟨w.heap.size, 2, none⟩ = some (.int .u64 c.da) := (bc.alloc _).cell 2
    have he := eqC_self c.mi c.ho c.da
    go_wp2_with fail
    refine (awake_any m _ ((((HB4.out).alloc (by first | exact Nat.le_refl _ | omega | (simp; done) | (simp; omega)) _).cell (p := ⟨0, 0, none⟩) hw0).trans HM.out)).mono ?_
    rintro e w5 ⟨rfl, hb⟩
    clear qq0 qq1 qq2
    have bc : Blk w5 (w.heap.size) 25 #[.int .u64 c.mi, .int .u64 c.ho, .int .u64 c.da] := ((bc).alloc _).on hb
    have bd : Blk w5 (w4.heap.size) 25 #[.int .u64 c.mi, .int .u64 c.ho, .int .u64 c.da] := (Blk.new _ _ _).on hb
    have hbz := hb.size
    have HB5 := Lib.hid (((HB4.out).alloc (by first | exact Nat.le_refl _ | omega | (simp; done) | (simp; omega)) _).trans (hb.mono (by first | exact Nat.le_refl _ | omega | (simp; done) | (simp; omega))))
    have hz5 : w.heap.size ≤ w5.heap.size := HB5.out.size
    clear hb hbz
    go_wp2_with fail
    go_ret
    exact ⟨rfl, HB5.out⟩
set_option maxHeartbeats 8000000 in
set_option maxRecDepth 20000 in
theorem CronNextIsLeast_any (c : Cr) (a : Int) (m : Int) (w : World) (hu : U64 c) (hm : w.cell? ⟨0, 0, none⟩ = some (.int .i64 m)) : Calls Tryd.prog 6 #[.agg #[.int .u64 c.mi, .int .u64 c.ho, .int .u64 c.da], .int .i64 a] w fun e w' => e = .returned (.bool true) ∧ Below w.heap.size w w' := by
  have HU := Lib.hid hu
  have HM := Lib.hid hm
  have hw0 := block_lt_of_cell hm
  clear hu hm
  go_enter Tryd.func6, Tryd.ntmps6
  go_wp2_with fail
  refine (Next_any c a _ HU.out).mono ?_
  rintro e w1 ⟨rfl, hb⟩
  have bc : Blk w1 (w.heap.size) 25 #[.int .u64 c.mi, .int .u64 c.ho, .int .u64 c.da] := (Blk.new _ _ _).on hb
  have hbz := hb.size
  have HB1 := Lib.hid (((Below.refl w.heap.size w).alloc (by first | exact Nat.le_refl _ | omega | (simp; done) | (simp; omega)) _).trans (hb.mono (by first | exact Nat.le_refl _ | omega | (simp; done) | (simp; omega))))
  have hz1 : w.heap.size ≤ w1.heap.size := HB1.out.size
  clear hb hbz
  rcases nx_cases c a with ⟨hq, -⟩ | ⟨hok, h1, h2, ⟨t, hq, g1, g2, g3, g4⟩ | ⟨hq, g4⟩⟩
  · rw [hq]
    unfold tup2
    dsimp only
    clear hq
    go_wp2_with fail
    refine (awake_any m _ (((HB1.out).cell (p := ⟨0, 0, none⟩) hw0).trans HM.out)).mono ?_
    rintro e w2 ⟨rfl, hb⟩
    have bc : Blk w2 (w.heap.size) 25 #[.int .u64 c.mi, .int .u64 c.ho, .int .u64 c.da] := (bc).on hb
    have hbz := hb.size
    have HB2 := Lib.hid ((HB1.out).trans (hb.mono (by first | exact Nat.le_refl _ | omega | (simp; done) | (simp; omega))))
    have hz2 : w.heap.size ≤ w2.heap.size := HB2.out.size
    clear hb hbz
    go_wp2_with fail
    go_ret
    exact ⟨rfl, HB2.out⟩
  · rw [hq]
    unfold tup2
    dsimp only
    have HG := Lib.hid g4
    have HK := Lib.hid hok
    clear hq g4 hok
    have d1 : decide (a < -1) = false := decide_eq_false (by omega)
    have d2 : decide (1073741824 < a) = false := decide_eq_false (by omega)
    have q_bc0 : w1.cell? ⟨w.heap.size, 0, none⟩ = some (.int .u64 c.mi) := bc.cell 0
    have q_bc1 : w1.cell? ⟨w.heap.size, 1, none⟩ = some (.int .u64 c.ho) := bc.cell 1
    have q_bc2 : w1.cell? ⟨w.heap.size, 2, none⟩ = some (.int .u64 c.da) := bc.cell 2
    go_wp2_with fail
    refine (Check_any c _ HU.out).mono ?_
    rintro e w2 ⟨rfl, hb⟩
    clear q_bc0 q_bc1 q_bc2
    have bc : Blk w2 (w.heap.size) 25 #[.int .u64 c.mi, .int .u64 c.ho, .int .u64 c.da] := (bc).on hb
    have hbz := hb.size
    have HB2 := Lib.hid ((HB1.out).trans (hb.mono (by first | exact Nat.le_refl _ | omega | (simp; done) | (simp; omega))))
    have hz2 : w.heap.size ≤ w2.heap.size := HB2.out.size
    clear hb hbz
    rw [ckC_ok HK.out]
    have ht9 : (t : Int) ≤ 1073741824 := by unfold endN at g2; split at g2 <;> omega
    have d3 : decide ((t : Int) ≤ a) = false := decide_eq_false (by omega)
    have d4 : decide (1073741824 < (t : Int)) = false := decide_eq_false (by omega)
    have HX := Lib.hid (show matC c t = true from mat_yes HK.out ht9 g3)
    clear g2 g3
    have q_bc0 : w2.cell? ⟨w.heap.size, 0, none⟩ = some (.int .u64 c.mi) := bc.cell 0
    have q_bc1 : w2.cell? ⟨w.heap.size, 1, none⟩ = some (.int .u64 c.ho) := bc.cell 1
    have q_bc2 : w2.cell? ⟨w.heap.size, 2, none⟩ = some (.int .u64 c.da) := bc.cell 2
    go_wp2_with fail
    refine (Matches_any c t _ HU.out).mono ?_
    rintro e w3 ⟨rfl, hb⟩
    clear q_bc0 q_bc1 q_bc2
    have bc : Blk w3 (w.heap.size) 25 #[.int .u64 c.mi, .int .u64 c.ho, .int .u64 c.da] := (bc).on hb
    have hbz := hb.size
    have HB3 := Lib.hid ((HB2.out).trans (hb.mono (by first | exact Nat.le_refl _ | omega | (simp; done) | (simp; omega))))
    have hz3 : w.heap.size ≤ w3.heap.size := HB3.out.size
    clear hb hbz
    rw [HX.out]
    have ew : IntKind.i64.wrap (a + 1) = a + 1 := by rw [IntKind.wrap_i64]; omega
    have ew2 : IntKind.i64.wrap (a + 10080) = a + 10080 := by rw [IntKind.wrap_i64]; omega
    have HBC := Lib.hid bc
    have HB0 := Lib.hid HB3.out
    clear bc
    go_wp2_with fail
    go_loopw [8] (fun i wr => ∃ n : Nat, i = .int .i64 n ∧ a + 1 ≤ n ∧ (n : Int) ≤ 1073741826 ∧ Below w.heap.size w wr ∧ Blk wr w.heap.size 25 #[.int .u64 c.mi, .int .u64 c.ho, .int .u64 c.da]) (fun i _ => 1073741827 - (intOf i).toNat)
    case atStart => exact ⟨(a + 1).toNat, by rw [Int.toNat_of_nonneg (by omega)], by omega, by omega, HB0.out, HBC.out⟩
    case round =>
      obtain ⟨n, rfl, hn1, hn2, hbr, bc⟩ := hrel
      have HB := Lib.hid hbr
      have hzr := hbr.size
      clear hbr
      by_cases he : (n : Int) < (t : Int)
      · have t2 : decide ((n : Int) < (t : Int)) = true := decide_eq_true he
        have t2' : decide (n < t) = true := decide_eq_true (by omega)
        by_cases hs1 : (n : Int) ≤ a + 10080
        · have t3 : decide ((n : Int) ≤ a + 10080) = true := decide_eq_true hs1
          have HI := Lib.hid (show matC c n = false from mat_no (HG.out n (by omega) (by omega)))
          have ewn : IntKind.i64.wrap ((n : Int) + 1) = (n : Int) + 1 := by rw [IntKind.wrap_i64]; omega
          have q_bc0 : wr.cell? ⟨w.heap.size, 0, none⟩ = some (.int .u64 c.mi) := bc.cell 0
          have q_bc1 : wr.cell? ⟨w.heap.size, 1, none⟩ = some (.int .u64 c.ho) := bc.cell 1
          have q_bc2 : wr.cell? ⟨w.heap.size, 2, none⟩ = some (.int .u64 c.da) := bc.cell 2
          go_wp2_with fail
          refine (Matches_any c n _ HU.out).mono ?_
          rintro e w21 ⟨rfl, hb⟩
          clear q_bc0 q_bc1 q_bc2
          have bc : Blk w21 (w.heap.size) 25 #[.int .u64 c.mi, .int .u64 c.ho, .int .u64 c.da] := (bc).on hb
          have hbz := hb.size
          have HB21 := Lib.hid ((HB.out).trans (hb.mono (by first | exact Nat.le_refl _ | omega | (simp; done) | (simp; omega))))
          have hz21 : w.heap.size ≤ w21.heap.size := HB21.out.size
          clear hb hbz
          rw [HI.out]
          go_wp2_with fail
          go_roundw
          case rel => exact ⟨n + 1, by go_num, by omega, by omega, HB21.out, bc⟩
          case measure => simp [intOf]; omega
        · have t3 : decide ((n : Int) ≤ a + 10080) = false := decide_eq_false hs1
          go_wp2_with fail
          refine (awake_any m _ (((HB.out).cell (p := ⟨0, 0, none⟩) hw0).trans HM.out)).mono ?_
          rintro e w21 ⟨rfl, hb⟩
          have bc : Blk w21 (w.heap.size) 25 #[.int .u64 c.mi, .int .u64 c.ho, .int .u64 c.da] := (bc).on hb
          have hbz := hb.size
          have HB21 := Lib.hid ((HB.out).trans (hb.mono (by first | exact Nat.le_refl _ | omega | (simp; done) | (simp; omega))))
          have hz21 : w.heap.size ≤ w21.heap.size := HB21.out.size
          clear hb hbz
          go_wp2_with fail
          go_ret
          exact ⟨rfl, HB21.out⟩
      · have t2 : decide ((n : Int) < (t : Int)) = false := decide_eq_false he
        have t2' : decide (n < t) = false := decide_eq_false (by omega)
        go_wp2_with fail
        refine (awake_any m _ (((HB.out).cell (p := ⟨0, 0, none⟩) hw0).trans HM.out)).mono ?_
        rintro e w21 ⟨rfl, hb⟩
        have bc : Blk w21 (w.heap.size) 25 #[.int .u64 c.mi, .int .u64 c.ho, .int .u64 c.da] := (bc).on hb
        have hbz := hb.size
        have HB21 := Lib.hid ((HB.out).trans (hb.mono (by first | exact Nat.le_refl _ | omega | (simp; done) | (simp; omega))))
        have hz21 : w.heap.size ≤ w21.heap.size := HB21.out.size
        clear hb hbz
        go_wp2_with fail
        go_ret
        exact ⟨rfl, HB21.out⟩
  · rw [hq]
    unfold tup2
    dsimp only
    have HG := Lib.hid g4
    have HK := Lib.hid hok
    clear hq g4 hok
    have d1 : decide (a < -1) = false := decide_eq_false (by omega)
    have d2 : decide (1073741824 < a) = false := decide_eq_false (by omega)
    have q_bc0 : w1.cell? ⟨w.heap.size, 0, none⟩ = some (.int .u64 c.mi) := bc.cell 0
    have q_bc1 : w1.cell? ⟨w.heap.size, 1, none⟩ = some (.int .u64 c.ho) := bc.cell 1
    have q_bc2 : w1.cell? ⟨w.heap.size, 2, none⟩ = some (.int .u64 c.da) := bc.cell 2
    go_wp2_with fail
    refine (Check_any c _ HU.out).mono ?_
    rintro e w2 ⟨rfl, hb⟩
    clear q_bc0 q_bc1 q_bc2
    have bc : Blk w2 (w.heap.size) 25 #[.int .u64 c.mi, .int .u64 c.ho, .int .u64 c.da] := (bc).on hb
    have hbz := hb.size
    have HB2 := Lib.hid ((HB1.out).trans (hb.mono (by first | exact Nat.le_refl _ | omega | (simp; done) | (simp; omega))))
    have hz2 : w.heap.size ≤ w2.heap.size := HB2.out.size
    clear hb hbz
    rw [ckC_ok HK.out]
    have ew : IntKind.i64.wrap (a + 1) = a + 1 := by rw [IntKind.wrap_i64]; omega
    have ew2 : IntKind.i64.wrap (a + 10080) = a + 10080 := by rw [IntKind.wrap_i64]; omega
    have HBC := Lib.hid bc
    have HB0 := Lib.hid HB2.out
    clear bc
    go_wp2_with fail
    go_loopw [8] (fun i wr => ∃ n : Nat, i = .int .i64 n ∧ a + 1 ≤ n ∧ (n : Int) ≤ 1073741826 ∧ Below w.heap.size w wr ∧ Blk wr w.heap.size 25 #[.int .u64 c.mi, .int .u64 c.ho, .int .u64 c.da]) (fun i _ => 1073741827 - (intOf i).toNat)
    case atStart => exact ⟨(a + 1).toNat, by rw [Int.toNat_of_nonneg (by omega)], by omega, by omega, HB0.out, HBC.out⟩
    case round =>
      obtain ⟨n, rfl, hn1, hn2, hbr, bc⟩ := hrel
      have HB := Lib.hid hbr
      have hzr := hbr.size
      clear hbr
      by_cases he : (n : Int) < 1073741825
      · have t2 : decide ((n : Int) < 1073741825) = true := decide_eq_true he
        by_cases hs1 : (n : Int) ≤ a + 10080
        · have t3 : decide ((n : Int) ≤ a + 10080) = true := decide_eq_true hs1
          have HI := Lib.hid (show matC c n = false from mat_no (HG.out n (by omega) (by unfold endN; split <;> omega)))
          have ewn : IntKind.i64.wrap ((n : Int) + 1) = (n : Int) + 1 := by rw [IntKind.wrap_i64]; omega
          have q_bc0 : wr.cell? ⟨w.heap.size, 0, none⟩ = some (.int .u64 c.mi) := bc.cell 0
          have q_bc1 : wr.cell? ⟨w.heap.size, 1, none⟩ = some (.int .u64 c.ho) := bc.cell 1
          have q_bc2 : wr.cell? ⟨w.heap.size, 2, none⟩ = some (.int .u64 c.da) := bc.cell 2
          go_wp2_with fail
          refine (Matches_any c n _ HU.out).mono ?_
          rintro e w21 ⟨rfl, hb⟩
          clear q_bc0 q_bc1 q_bc2
          have bc : Blk w21 (w.heap.size) 25 #[.int .u64 c.mi, .int .u64 c.ho, .int .u64 c.da] := (bc).on hb
          have hbz := hb.size
          have HB21 := Lib.hid ((HB.out).trans (hb.mono (by first | exact Nat.le_refl _ | omega | (simp; done) | (simp; omega))))
          have hz21 : w.heap.size ≤ w21.heap.size := HB21.out.size
          clear hb hbz
          rw [HI.out]
          go_wp2_with fail
          go_roundw
          case rel => exact ⟨n + 1, by go_num, by omega, by omega, HB21.out, bc⟩
          case measure => simp [intOf]; omega
        · have t3 : decide ((n : Int) ≤ a + 10080) = false := decide_eq_false hs1
          go_wp2_with fail
          refine (awake_any m _ (((HB.out).cell (p := ⟨0, 0, none⟩) hw0).trans HM.out)).mono ?_
          rintro e w21 ⟨rfl, hb⟩
          have bc : Blk w21 (w.heap.size) 25 #[.int .u64 c.mi, .int .u64 c.ho, .int .u64 c.da] := (bc).on hb
          have hbz := hb.size
          have HB21 := Lib.hid ((HB.out).trans (hb.mono (by first | exact Nat.le_refl _ | omega | (simp; done) | (simp; omega))))
          have hz21 : w.heap.size ≤ w21.heap.size := HB21.out.size
          clear hb hbz
          go_wp2_with fail
          go_ret
          exact ⟨rfl, HB21.out⟩
      · have t2 : decide ((n : Int) < 1073741825) = false := decide_eq_false he
        go_wp2_with fail
        refine (awake_any m _ (((HB.out).cell (p := ⟨0, 0, none⟩) hw0).trans HM.out)).mono ?_
        rintro e w21 ⟨rfl, hb⟩
        have bc : Blk w21 (w.heap.size) 25 #[.int .u64 c.mi, .int .u64 c.ho, .int .u64 c.da] := (bc).on hb
        have hbz := hb.size
        have HB21 := Lib.hid ((HB.out).trans (hb.mono (by first | exact Nat.le_refl _ | omega | (simp; done) | (simp; omega))))
        have hz21 : w.heap.size ≤ w21.heap.size := HB21.out.size
        clear hb hbz
        go_wp2_with fail
        go_ret
        exact ⟨rfl, HB21.out⟩
end Go.Proofs.YtnagnaekcphpiaaDoor
