/- The walks of Floor and Ceil and their references. -/
import Derived.Test.YtpkekfhnpcjgkaaDoorR7
namespace Go.Proofs.YtpkekfhnpcjgkaaDoor
open Go.RowKit
open Rt

theorem quo_bd {p q : Int} (hp : -1000000000 ≤ p ∧ p ≤ 1000000000) : -1000000000 ≤ p.tdiv q ∧ p.tdiv q ≤ 1000000000 := by
  have h1 : (p.tdiv q).natAbs = p.natAbs / q.natAbs := Int.natAbs_tdiv p q
  have h2 := Nat.div_le_self p.natAbs q.natAbs
  generalize p.natAbs / q.natAbs = x at *
  generalize p.tdiv q = y at *
  omega
theorem fl_no {p q : Int} (h : vR p q = false) : flR p q = 0 := by unfold flR; rw [h]; rfl
theorem ce_no {p q : Int} (h : vR p q = false) : ceR p q = 0 := by unfold ceR; rw [h]; rfl
theorem fl_yes {p q : Int} (h : vR p q = true) : flR p q = if p.tmod q < 0 then p.tdiv q - 1 else p.tdiv q := by unfold flR; rw [if_pos h, fl_tdiv (vR_pos h)]
theorem ce_yes {p q : Int} (h : vR p q = true) : ceR p q = if 0 < p.tmod q then p.tdiv q + 1 else p.tdiv q := by unfold ceR; rw [if_pos h, ce_tdiv (vR_pos h)]
theorem ce_fl' (p q : Int) : ceR p q = -flR (-p) q := by
  unfold ceR flR
  rw [vR_neg]
  split <;> rfl
theorem fl_bd (p q : Int) : -1000000001 ≤ flR p q ∧ flR p q ≤ 1000000001 := by
  cases h : vR p q
  · rw [fl_no h]; omega
  · rw [fl_yes h]
    have := vR_bd h
    have := quo_bd (p := p) (q := q) (by omega)
    split <;> omega
set_option maxHeartbeats 1000000 in
theorem qFloor_any (p q : Int) (w : World) :
    Calls Tryd.prog 24 #[.agg #[.int .i64 p, .int .i64 q]] w fun e w' => e = .returned (.int .i64 (flR p q)) ∧ Below w.heap.size w w' := by
  cases hv : vR p q
  · have HD := Lib.hid (fl_no hv)
    have HV := Lib.hid hv
    clear hv
    go_enter Tryd.func24, Tryd.ntmps24
    go_wp2_with fail
    refine (qValid_any _ _ _).mono ?_
    rintro e w1 ⟨rfl, hb⟩
    have ba : Blk w1 (w.heap.size) 23 #[.int .i64 p, .int .i64 q] := (Blk.new _ _ _).on hb
    have hbz := hb.size
    have HB1 := Lib.hid (((Below.refl w.heap.size w).alloc (by first | exact Nat.le_refl _ | omega | (simp; done) | (simp; omega)) _).trans (hb.mono (by first | exact Nat.le_refl _ | omega | (simp; done) | (simp; omega))))
    have hz1 : w.heap.size ≤ w1.heap.size := HB1.out.size
    clear hb hbz
    rw [HV.out]
    go_wp2_with fail
    go_ret
    exact ⟨ret_int HD.out.symm, HB1.out⟩
  have HV := Lib.hid hv
  have hb := vR_bd hv
  have hq := quo_bd (p := p) (q := q) (by omega)
  have HY := Lib.hid (fl_yes hv)
  obtain ⟨b1, b2, b3, b4⟩ := hb
  obtain ⟨q1, q2⟩ := hq
  have hne : q ≠ 0 := by omega
  clear hv
  by_cases ht : p.tmod q < 0
  · have HD := Lib.hid (HY.out.trans (if_pos ht))
    go_enter Tryd.func24, Tryd.ntmps24
    go_wp2_with fail
    refine (qValid_any _ _ _).mono ?_
    rintro e w1 ⟨rfl, hb⟩
    have ba : Blk w1 (w.heap.size) 23 #[.int .i64 p, .int .i64 q] := (Blk.new _ _ _).on hb
    have hbz := hb.size
    have HB1 := Lib.hid (((Below.refl w.heap.size w).alloc (by first | exact Nat.le_refl _ | omega | (simp; done) | (simp; omega)) _).trans (hb.mono (by first | exact Nat.le_refl _ | omega | (simp; done) | (simp; omega))))
    have hz1 : w.heap.size ≤ w1.heap.size := HB1.out.size
    clear hb hbz
    rw [HV.out]
    have q_ba0 : w1.cell? ⟨w.heap.size, 0, none⟩ = some (.int .i64 p) := ba.cell 0
    have q_ba1 : w1.cell? ⟨w.heap.size, 1, none⟩ = some (.int .i64 q) := ba.cell 1
    go_wp2_with fail
    all_goals try (exfalso; omega)
    go_ret
    exact ⟨ret_int HD.out.symm, HB1.out⟩
  · have HD := Lib.hid (HY.out.trans (if_neg ht))
    go_enter Tryd.func24, Tryd.ntmps24
    go_wp2_with fail
    refine (qValid_any _ _ _).mono ?_
    rintro e w1 ⟨rfl, hb⟩
    have ba : Blk w1 (w.heap.size) 23 #[.int .i64 p, .int .i64 q] := (Blk.new _ _ _).on hb
    have hbz := hb.size
    have HB1 := Lib.hid (((Below.refl w.heap.size w).alloc (by first | exact Nat.le_refl _ | omega | (simp; done) | (simp; omega)) _).trans (hb.mono (by first | exact Nat.le_refl _ | omega | (simp; done) | (simp; omega))))
    have hz1 : w.heap.size ≤ w1.heap.size := HB1.out.size
    clear hb hbz
    rw [HV.out]
    have q_ba0 : w1.cell? ⟨w.heap.size, 0, none⟩ = some (.int .i64 p) := ba.cell 0
    have q_ba1 : w1.cell? ⟨w.heap.size, 1, none⟩ = some (.int .i64 q) := ba.cell 1
    go_wp2_with fail
    all_goals try (exfalso; omega)
    go_ret
    exact ⟨ret_int HD.out.symm, HB1.out⟩
set_option maxHeartbeats 1000000 in
theorem qrFloor_any (p q : Int) (w : World) :
    Calls Tryd.prog 25 #[.agg #[.int .i64 p, .int .i64 q]] w fun e w' => e = .returned (.int .i64 (flR p q)) ∧ Below w.heap.size w w' := by
  cases hv : vR p q
  · have HD := Lib.hid (fl_no hv)
    have HV := Lib.hid hv
    clear hv
    go_enter Tryd.func25, Tryd.ntmps25
    go_wp2_with fail
    refine (qrValid_any _ _ _).mono ?_
    rintro e w1 ⟨rfl, hb⟩
    have ba : Blk w1 (w.heap.size) 23 #[.int .i64 p, .int .i64 q] := (Blk.new _ _ _).on hb
    have hbz := hb.size
    have HB1 := Lib.hid (((Below.refl w.heap.size w).alloc (by first | exact Nat.le_refl _ | omega | (simp; done) | (simp; omega)) _).trans (hb.mono (by first | exact Nat.le_refl _ | omega | (simp; done) | (simp; omega))))
    have hz1 : w.heap.size ≤ w1.heap.size := HB1.out.size
    clear hb hbz
    rw [HV.out]
    go_wp2_with fail
    go_ret
    exact ⟨ret_int HD.out.symm, HB1.out⟩
  have HV := Lib.hid hv
  have hb := vR_bd hv
  have hq := quo_bd (p := p) (q := q) (by omega)
  have HY := Lib.hid (fl_yes hv)
  obtain ⟨b1, b2, b3, b4⟩ := hb
  obtain ⟨q1, q2⟩ := hq
  have hne : q ≠ 0 := by omega
  clear hv
  by_cases ht : p.tmod q < 0
  · have HD := Lib.hid (HY.out.trans (if_pos ht))
    go_enter Tryd.func25, Tryd.ntmps25
    go_wp2_with fail
    refine (qrValid_any _ _ _).mono ?_
    rintro e w1 ⟨rfl, hb⟩
    have ba : Blk w1 (w.heap.size) 23 #[.int .i64 p, .int .i64 q] := (Blk.new _ _ _).on hb
    have hbz := hb.size
    have HB1 := Lib.hid (((Below.refl w.heap.size w).alloc (by first | exact Nat.le_refl _ | omega | (simp; done) | (simp; omega)) _).trans (hb.mono (by first | exact Nat.le_refl _ | omega | (simp; done) | (simp; omega))))
    have hz1 : w.heap.size ≤ w1.heap.size := HB1.out.size
    clear hb hbz
    rw [HV.out]
    have q_ba0 : w1.cell? ⟨w.heap.size, 0, none⟩ = some (.int .i64 p) := ba.cell 0
    have q_ba1 : w1.cell? ⟨w.heap.size, 1, none⟩ = some (.int .i64 q) := ba.cell 1
    go_wp2_with fail
    all_goals try (exfalso; omega)
    go_ret
    exact ⟨ret_int HD.out.symm, HB1.out⟩
  · have HD := Lib.hid (HY.out.trans (if_neg ht))
    go_enter Tryd.func25, Tryd.ntmps25
    go_wp2_with fail
    refine (qrValid_any _ _ _).mono ?_
    rintro e w1 ⟨rfl, hb⟩
    have ba : Blk w1 (w.heap.size) 23 #[.int .i64 p, .int .i64 q] := (Blk.new _ _ _).on hb
    have hbz := hb.size
    have HB1 := Lib.hid (((Below.refl w.heap.size w).alloc (by first | exact Nat.le_refl _ | omega | (simp; done) | (simp; omega)) _).trans (hb.mono (by first | exact Nat.le_refl _ | omega | (simp; done) | (simp; omega))))
    have hz1 : w.heap.size ≤ w1.heap.size := HB1.out.size
    clear hb hbz
    rw [HV.out]
    have q_ba0 : w1.cell? ⟨w.heap.size, 0, none⟩ = some (.int .i64 p) := ba.cell 0
    have q_ba1 : w1.cell? ⟨w.heap.size, 1, none⟩ = some (.int .i64 q) := ba.cell 1
    go_wp2_with fail
    all_goals try (exfalso; omega)
    go_ret
    exact ⟨ret_int HD.out.symm, HB1.out⟩
set_option maxHeartbeats 1000000 in
theorem qrCeil_any (p q : Int) (w : World) :
    Calls Tryd.prog 27 #[.agg #[.int .i64 p, .int .i64 q]] w fun e w' => e = .returned (.int .i64 (ceR p q)) ∧ Below w.heap.size w w' := by
  cases hv : vR p q
  · have HD := Lib.hid (ce_no hv)
    have HV := Lib.hid hv
    clear hv
    go_enter Tryd.func27, Tryd.ntmps27
    go_wp2_with fail
    refine (qrValid_any _ _ _).mono ?_
    rintro e w1 ⟨rfl, hb⟩
    have ba : Blk w1 (w.heap.size) 23 #[.int .i64 p, .int .i64 q] := (Blk.new _ _ _).on hb
    have hbz := hb.size
    have HB1 := Lib.hid (((Below.refl w.heap.size w).alloc (by first | exact Nat.le_refl _ | omega | (simp; done) | (simp; omega)) _).trans (hb.mono (by first | exact Nat.le_refl _ | omega | (simp; done) | (simp; omega))))
    have hz1 : w.heap.size ≤ w1.heap.size := HB1.out.size
    clear hb hbz
    rw [HV.out]
    go_wp2_with fail
    go_ret
    exact ⟨ret_int HD.out.symm, HB1.out⟩
  have HV := Lib.hid hv
  have hb := vR_bd hv
  have hq := quo_bd (p := p) (q := q) (by omega)
  have HY := Lib.hid (ce_yes hv)
  obtain ⟨b1, b2, b3, b4⟩ := hb
  obtain ⟨q1, q2⟩ := hq
  have hne : q ≠ 0 := by omega
  clear hv
  by_cases ht : 0 < p.tmod q
  · have HD := Lib.hid (HY.out.trans (if_pos ht))
    go_enter Tryd.func27, Tryd.ntmps27
    go_wp2_with fail
    refine (qrValid_any _ _ _).mono ?_
    rintro e w1 ⟨rfl, hb⟩
    have ba : Blk w1 (w.heap.size) 23 #[.int .i64 p, .int .i64 q] := (Blk.new _ _ _).on hb
    have hbz := hb.size
    have HB1 := Lib.hid (((Below.refl w.heap.size w).alloc (by first | exact Nat.le_refl _ | omega | (simp; done) | (simp; omega)) _).trans (hb.mono (by first | exact Nat.le_refl _ | omega | (simp; done) | (simp; omega))))
    have hz1 : w.heap.size ≤ w1.heap.size := HB1.out.size
    clear hb hbz
    rw [HV.out]
    have q_ba0 : w1.cell? ⟨w.heap.size, 0, none⟩ = some (.int .i64 p) := ba.cell 0
    have q_ba1 : w1.cell? ⟨w.heap.size, 1, none⟩ = some (.int .i64 q) := ba.cell 1
    go_wp2_with fail
    all_goals try (exfalso; omega)
    go_ret
    exact ⟨ret_int HD.out.symm, HB1.out⟩
  · have HD := Lib.hid (HY.out.trans (if_neg ht))
    go_enter Tryd.func27, Tryd.ntmps27
    go_wp2_with fail
    refine (qrValid_any _ _ _).mono ?_
    rintro e w1 ⟨rfl, hb⟩
    have ba : Blk w1 (w.heap.size) 23 #[.int .i64 p, .int .i64 q] := (Blk.new _ _ _).on hb
    have hbz := hb.size
    have HB1 := Lib.hid (((Below.refl w.heap.size w).alloc (by first | exact Nat.le_refl _ | omega | (simp; done) | (simp; omega)) _).trans (hb.mono (by first | exact Nat.le_refl _ | omega | (simp; done) | (simp; omega))))
    have hz1 : w.heap.size ≤ w1.heap.size := HB1.out.size
    clear hb hbz
    rw [HV.out]
    have q_ba0 : w1.cell? ⟨w.heap.size, 0, none⟩ = some (.int .i64 p) := ba.cell 0
    have q_ba1 : w1.cell? ⟨w.heap.size, 1, none⟩ = some (.int .i64 q) := ba.cell 1
    go_wp2_with fail
    all_goals try (exfalso; omega)
    go_ret
    exact ⟨ret_int HD.out.symm, HB1.out⟩
set_option maxHeartbeats 1000000 in
theorem qCeil_any (p q : Int) (w : World) :
    Calls Tryd.prog 26 #[.agg #[.int .i64 p, .int .i64 q]] w fun e w' => e = .returned (.int .i64 (ceR p q)) ∧ Below w.heap.size w w' := by
  cases hv : vR p q
  · have HD := Lib.hid (ce_no hv)
    have HV := Lib.hid hv
    clear hv
    go_enter Tryd.func26, Tryd.ntmps26
    go_wp2_with fail
    refine (qValid_any _ _ _).mono ?_
    rintro e w1 ⟨rfl, hb⟩
    have ba : Blk w1 (w.heap.size) 23 #[.int .i64 p, .int .i64 q] := (Blk.new _ _ _).on hb
    have hbz := hb.size
    have HB1 := Lib.hid (((Below.refl w.heap.size w).alloc (by first | exact Nat.le_refl _ | omega | (simp; done) | (simp; omega)) _).trans (hb.mono (by first | exact Nat.le_refl _ | omega | (simp; done) | (simp; omega))))
    have hz1 : w.heap.size ≤ w1.heap.size := HB1.out.size
    clear hb hbz
    rw [HV.out]
    go_wp2_with fail
    go_ret
    exact ⟨ret_int HD.out.symm, HB1.out⟩
  have HV := Lib.hid hv
  obtain ⟨b1, b2, b3, b4⟩ := vR_bd hv
  have HD := Lib.hid (ce_fl' p q)
  obtain ⟨f1, f2⟩ := fl_bd (-p) q
  clear hv
  go_enter Tryd.func26, Tryd.ntmps26
  go_wp2_with fail
  refine (qValid_any _ _ _).mono ?_
  rintro e w1 ⟨rfl, hb⟩
  have ba : Blk w1 (w.heap.size) 23 #[.int .i64 p, .int .i64 q] := (Blk.new _ _ _).on hb
  have hbz := hb.size
  have HB1 := Lib.hid (((Below.refl w.heap.size w).alloc (by first | exact Nat.le_refl _ | omega | (simp; done) | (simp; omega)) _).trans (hb.mono (by first | exact Nat.le_refl _ | omega | (simp; done) | (simp; omega))))
  have hz1 : w.heap.size ≤ w1.heap.size := HB1.out.size
  clear hb hbz
  rw [HV.out]
  have q_ba0 : w1.cell? ⟨w.heap.size, 0, none⟩ = some (.int .i64 p) := ba.cell 0
  have q_ba1 : w1.cell? ⟨w.heap.size, 1, none⟩ = some (.int .i64 q) := ba.cell 1
  go_wp2_with fail
  refine (qFloor_any _ _ _).mono ?_
  rintro e w2 ⟨rfl, hb⟩
  clear q_ba0 q_ba1
  have ba : Blk w2 (w.heap.size) 23 #[.int .i64 p, .int .i64 q] := (ba).on hb
  have hbz := hb.size
  have HB2 := Lib.hid ((HB1.out).trans (hb.mono (by first | exact Nat.le_refl _ | omega | (simp; done) | (simp; omega))))
  have hz2 : w.heap.size ≤ w2.heap.size := HB2.out.size
  clear hb hbz
  generalize flR (-p) q = z at *
  go_wp2_with fail
  go_ret
  exact ⟨ret_int HD.out.symm, HB2.out⟩
end Go.Proofs.YtpkekfhnpcjgkaaDoor
