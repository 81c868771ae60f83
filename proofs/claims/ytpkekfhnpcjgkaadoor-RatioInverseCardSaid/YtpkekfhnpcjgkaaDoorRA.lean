/- The walks of Format and Parse and their references. -/
import Derived.Test.YtpkekfhnpcjgkaaDoorR8
import Derived.Test.YtpkekfhnpcjgkaaDoorJ
namespace Go.Proofs.YtpkekfhnpcjgkaaDoor
open Go.RowKit
open Rt
open Go.Sort (grow)

/-- The text of a fraction. -/
def fmB (p q : Int) : ByteArray := if vR p q then (if q = 1 then ⟨(Lib.itoa p).toArray⟩ else ⟨(Lib.itoa p).toArray⟩ ++ ⟨#[47]⟩ ++ ⟨(Lib.itoa q).toArray⟩) else ⟨#[]⟩
theorem fm_no {p q : Int} (h : vR p q = false) : fmB p q = ⟨#[]⟩ := by unfold fmB; rw [h]; rfl
theorem fm_one {p q : Int} (h : vR p q = true) (h1 : q = 1) : fmB p q = ⟨(Lib.itoa p).toArray⟩ := by unfold fmB; rw [h, if_pos (by rfl), if_pos h1]
theorem fm_two {p q : Int} (h : vR p q = true) (h1 : q ≠ 1) : fmB p q = ⟨(Lib.itoa p).toArray⟩ ++ ⟨#[47]⟩ ++ ⟨(Lib.itoa q).toArray⟩ := by unfold fmB; rw [h, if_pos (by rfl), if_neg h1]
theorem Format_at (n : Int) (W : World) (d : Nat) (os : Array Obj) (h0 : -9000000000000000000 ≤ n ∧ n ≤ 9000000000000000000) (hX : LaidW W) :
    Calls Tryd.prog 74 #[.int .i64 n] (grow (redrawn W d) os) fun e w' => e = .returned (.string ⟨(Lib.itoa n).toArray⟩) ∧ ∃ p : Regrown, w' = grow (redrawn W p.d) p.os :=
  Calls.regrown_of (Format_any n (by omega) (by omega) _ (hX.below (below_regrown W d os)).tab)
theorem rFormat_at (n : Int) (W : World) (d : Nat) (os : Array Obj) (h0 : -9000000000000000000 ≤ n ∧ n ≤ 9000000000000000000) :
    Calls Tryd.prog 75 #[.int .i64 n] (grow (redrawn W d) os) fun e w' => e = .returned (.string ⟨(Lib.itoa n).toArray⟩) ∧ ∃ p : Regrown, w' = grow (redrawn W p.d) p.os :=
  Calls.regrown_of (rFormat_any n _ (by omega) (by omega))
set_option maxHeartbeats 1000000 in
theorem qFormat_any (p q : Int) (w : World) (hX : LaidW w) :
    Calls Tryd.prog 30 #[.agg #[.int .i64 p, .int .i64 q]] w fun e w' => e = .returned (.string (fmB p q)) ∧ Below w.heap.size w w' := by
  have HX := Lib.hid hX
  clear hX
  cases hv : vR p q
  · have HD := Lib.hid (fm_no hv)
    have HV := Lib.hid hv
    clear hv
    go_enter Tryd.func30, Tryd.ntmps30
    go_wp2_with fail
    refine (qValid_any _ _ _).mono ?_
    rintro e w1 ⟨rfl, hb⟩
    have ba : Blk w1 (w.heap.size) 23 #[.int .i64 p, .int .i64 q] := (Blk.new _ _ _).on hb
    have hbz := hb.size
    have HB1 := Lib.hid (((Below.refl w.heap.size w).alloc (by first | exact Nat.le_refl _ | omega | (simp; done) | (simp; omega)) _).trans (hb.mono (by first | exact Nat.le_refl _ | omega | (simp; done) | (simp; omega))))
    have hz1 : w.heap.size ≤ w1.heap.size := HB1.out.size
    clear hb hbz
    rw [HV.out]
    go_wp2_with fail
    go_ret
    exact ⟨ret_str HD.out.symm, HB1.out⟩
  have HV := Lib.hid hv
  obtain ⟨b1, b2, b3, b4⟩ := vR_bd hv
  by_cases h1 : q = 1
  · have HD := Lib.hid (fm_one hv h1)
    subst h1
    clear hv
    go_enter Tryd.func30, Tryd.ntmps30
    go_wp2_with fail
    refine (qValid_any _ _ _).mono ?_
    rintro e w1 ⟨rfl, hb⟩
    have ba : Blk w1 (w.heap.size) 23 #[.int .i64 p, .int .i64 1] := (Blk.new _ _ _).on hb
    have hbz := hb.size
    have HB1 := Lib.hid (((Below.refl w.heap.size w).alloc (by first | exact Nat.le_refl _ | omega | (simp; done) | (simp; omega)) _).trans (hb.mono (by first | exact Nat.le_refl _ | omega | (simp; done) | (simp; omega))))
    have hz1 : w.heap.size ≤ w1.heap.size := HB1.out.size
    clear hb hbz
    rw [HV.out]
    have q_ba0 : w1.cell? ⟨w.heap.size, 0, none⟩ = some (.int .i64 p) := ba.cell 0
    have q_ba1 : w1.cell? ⟨w.heap.size, 1, none⟩ = some (.int .i64 1) := ba.cell 1
    go_wp2_with fail
    refine (Format_any p (by omega) (by omega) _ (HX.out.below HB1.out).tab).mono ?_
    rintro e w2 ⟨rfl, hb⟩
    clear q_ba0 q_ba1
    have ba : Blk w2 (w.heap.size) 23 #[.int .i64 p, .int .i64 1] := (ba).on hb
    have hbz := hb.size
    have HB2 := Lib.hid ((HB1.out).trans (hb.mono (by first | exact Nat.le_refl _ | omega | (simp; done) | (simp; omega))))
    have hz2 : w.heap.size ≤ w2.heap.size := HB2.out.size
    clear hb hbz
    go_wp2_with fail
    go_ret
    exact ⟨ret_str HD.out.symm, HB2.out⟩
  · have HD := Lib.hid (fm_two hv h1)
    have hb1 : (q == 1) = false := beq_eq_false_iff_ne.2 h1
    clear hv h1
    go_enter Tryd.func30, Tryd.ntmps30
    go_wp2_with fail
    refine (qValid_any _ _ _).mono ?_
    rintro e w1 ⟨rfl, hb⟩
    have ba : Blk w1 (w.heap.size) 23 #[.int .i64 p, .int .i64 q] := (Blk.new _ _ _).on hb
    have hbz := hb.size
    have HB1 := Lib.hid (((Below.refl w.heap.size w).alloc (by first | exact Nat.le_refl _ | omega | (simp; done) | (simp; omega)) _).trans (hb.mono (by first | exact Nat.le_refl _ | omega | (simp; done) | (simp; omega))))
    have hz1 : w.heap.size ≤ w1.heap.size := HB1.out.size
    clear hb hbz
    rw [HV.out]
    have q_ba0 : w1.cell? ⟨w.heap.size, 0, none⟩ = some (.int .i64 p) := ba.cell 0
    have q_ba1 : w1.cell? ⟨w.heap.size, 1, none⟩ = some (.int .i64 q) := ba.cell 1
    go_wp2_with fail
    clear q_ba0 q_ba1
    have r_ba0 := fun d os => cell_regrown (v := .int .i64 p) (ba.cell 0) d os
    have r_ba1 := fun d os => cell_regrown (v := .int .i64 q) (ba.cell 1) d os
    have l1 := Lib.itoa_length_le p (by omega) (by omega)
    have l2 := Lib.itoa_length_le q (by omega) (by omega)
    have HF := Lib.hid (fun n h0 d os => Format_at n w1 d os h0 (HX.out.below HB1.out))
    refine wp_region_quiet_below (by kernel_rfl) (by kernel_rfl) ?_
    repeat (go_big_quiet_step ((go_at_call 74; go_must (exact HF.out _ (by omega) _ _))))
    refine wpQuiet_nil ?_
    intro _ hw'
    obtain ⟨⟨dq, osq⟩, hw''⟩ := hw'
    subst hw''
    have hb := below_regrown w1 dq osq
    have ba : Blk (Go.Sort.grow (redrawn w1 dq) osq) (w.heap.size) 23 #[.int .i64 p, .int .i64 q] := ba.on hb
    have HB2 := Lib.hid ((HB1.out).trans (hb.mono (by first | exact Nat.le_refl _ | omega | (simp; done) | (simp; omega))))
    clear hb r_ba0 r_ba1
    generalize Go.Sort.grow (redrawn w1 dq) osq = w2 at *
    have hz2 : w.heap.size ≤ w2.heap.size := HB2.out.size
    go_wp2_with fail
    go_ret
    exact ⟨ret_str HD.out.symm, HB2.out⟩
set_option maxHeartbeats 1000000 in
theorem qrFormat_any (p q : Int) (w : World) :
    Calls Tryd.prog 31 #[.agg #[.int .i64 p, .int .i64 q]] w fun e w' => e = .returned (.string (fmB p q)) ∧ Below w.heap.size w w' := by
  cases hv : vR p q
  · have HD := Lib.hid (fm_no hv)
    have HV := Lib.hid hv
    clear hv
    go_enter Tryd.func31, Tryd.ntmps31
    go_wp2_with fail
    refine (qrValid_any _ _ _).mono ?_
    rintro e w1 ⟨rfl, hb⟩
    have ba : Blk w1 (w.heap.size) 23 #[.int .i64 p, .int .i64 q] := (Blk.new _ _ _).on hb
    have hbz := hb.size
    have HB1 := Lib.hid (((Below.refl w.heap.size w).alloc (by first | exact Nat.le_refl _ | omega | (simp; done) | (simp; omega)) _).trans (hb.mono (by first | exact Nat.le_refl _ | omega | (simp; done) | (simp; omega))))
    have hz1 : w.heap.size ≤ w1.heap.size := HB1.out.size
    clear hb hbz
    rw [HV.out]
    go_wp2_with fail
    go_ret
    exact ⟨ret_str HD.out.symm, HB1.out⟩
  have HV := Lib.hid hv
  obtain ⟨b1, b2, b3, b4⟩ := vR_bd hv
  by_cases h1 : q = 1
  · have HD := Lib.hid (fm_one hv h1)
    subst h1
    clear hv
    go_enter Tryd.func31, Tryd.ntmps31
    go_wp2_with fail
    refine (qrValid_any _ _ _).mono ?_
    rintro e w1 ⟨rfl, hb⟩
    have ba : Blk w1 (w.heap.size) 23 #[.int .i64 p, .int .i64 1] := (Blk.new _ _ _).on hb
    have hbz := hb.size
    have HB1 := Lib.hid (((Below.refl w.heap.size w).alloc (by first | exact Nat.le_refl _ | omega | (simp; done) | (simp; omega)) _).trans (hb.mono (by first | exact Nat.le_refl _ | omega | (simp; done) | (simp; omega))))
    have hz1 : w.heap.size ≤ w1.heap.size := HB1.out.size
    clear hb hbz
    rw [HV.out]
    have q_ba0 : w1.cell? ⟨w.heap.size, 0, none⟩ = some (.int .i64 p) := ba.cell 0
    have q_ba1 : w1.cell? ⟨w.heap.size, 1, none⟩ = some (.int .i64 1) := ba.cell 1
    go_wp2_with fail
    refine (rFormat_any p _ (by omega) (by omega)).mono ?_
    rintro e w2 ⟨rfl, hb⟩
    clear q_ba0 q_ba1
    have ba : Blk w2 (w.heap.size) 23 #[.int .i64 p, .int .i64 1] := (ba).on hb
    have hbz := hb.size
    have HB2 := Lib.hid ((HB1.out).trans (hb.mono (by first | exact Nat.le_refl _ | omega | (simp; done) | (simp; omega))))
    have hz2 : w.heap.size ≤ w2.heap.size := HB2.out.size
    clear hb hbz
    go_wp2_with fail
    go_ret
    exact ⟨ret_str HD.out.symm, HB2.out⟩
  · have HD := Lib.hid (fm_two hv h1)
    have hb1 : (q == 1) = false := beq_eq_false_iff_ne.2 h1
    clear hv h1
    go_enter Tryd.func31, Tryd.ntmps31
    go_wp2_with fail
    refine (qrValid_any _ _ _).mono ?_
    rintro e w1 ⟨rfl, hb⟩
    have ba : Blk w1 (w.heap.size) 23 #[.int .i64 p, .int .i64 q] := (Blk.new _ _ _).on hb
    have hbz := hb.size
    have HB1 := Lib.hid (((Below.refl w.heap.size w).alloc (by first | exact Nat.le_refl _ | omega | (simp; done) | (simp; omega)) _).trans (hb.mono (by first | exact Nat.le_refl _ | omega | (simp; done) | (simp; omega))))
    have hz1 : w.heap.size ≤ w1.heap.size := HB1.out.size
    clear hb hbz
    rw [HV.out]
    have q_ba0 : w1.cell? ⟨w.heap.size, 0, none⟩ = some (.int .i64 p) := ba.cell 0
    have q_ba1 : w1.cell? ⟨w.heap.size, 1, none⟩ = some (.int .i64 q) := ba.cell 1
    go_wp2_with fail
    clear q_ba0 q_ba1
    have r_ba0 := fun d os => cell_regrown (v := .int .i64 p) (ba.cell 0) d os
    have r_ba1 := fun d os => cell_regrown (v := .int .i64 q) (ba.cell 1) d os
    have l1 := Lib.itoa_length_le p (by omega) (by omega)
    have l2 := Lib.itoa_length_le q (by omega) (by omega)
    have HF := Lib.hid (fun n h0 d os => rFormat_at n w1 d os h0)
    refine wp_region_quiet_below (by kernel_rfl) (by kernel_rfl) ?_
    repeat (go_big_quiet_step ((go_at_call 75; go_must (exact HF.out _ (by omega) _ _))))
    refine wpQuiet_nil ?_
    intro _ hw'
    obtain ⟨⟨dq, osq⟩, hw''⟩ := hw'
    subst hw''
    have hb := below_regrown w1 dq osq
    have ba : Blk (Go.Sort.grow (redrawn w1 dq) osq) (w.heap.size) 23 #[.int .i64 p, .int .i64 q] := ba.on hb
    have HB2 := Lib.hid ((HB1.out).trans (hb.mono (by first | exact Nat.le_refl _ | omega | (simp; done) | (simp; omega))))
    clear hb r_ba0 r_ba1
    generalize Go.Sort.grow (redrawn w1 dq) osq = w2 at *
    have hz2 : w.heap.size ≤ w2.heap.size := HB2.out.size
    go_wp2_with fail
    go_ret
    exact ⟨ret_str HD.out.symm, HB2.out⟩
end Go.Proofs.YtpkekfhnpcjgkaaDoor
