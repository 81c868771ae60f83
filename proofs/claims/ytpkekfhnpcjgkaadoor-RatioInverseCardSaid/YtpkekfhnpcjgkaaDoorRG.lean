/- The walks of the laws Orders and Inverse. -/
import Derived.Test.YtpkekfhnpcjgkaaDoorRE
namespace Go.Proofs.YtpkekfhnpcjgkaaDoor
open Go.RowKit
open Rt

theorem cm_bd (a1 a2 b1 b2 : Int) : -1 ≤ cmR a1 a2 b1 b2 ∧ cmR a1 a2 b1 b2 ≤ 1 := by
  unfold cmR sg
  (repeat' split) <;> omega
theorem cm_eq_test {a1 a2 b1 b2 z : Int} (ha : vR a1 a2 = true) (hb : vR b1 b2 = true) (hz : cmR a1 a2 b1 b2 = z) : (a1 == b1 && a2 == b2) = (z == 0) := by
  rw [Bool.eq_iff_iff]
  simp only [Bool.and_eq_true, beq_iff_eq]
  rw [← hz, cm_zero ha hb]
set_option maxHeartbeats 8000000 in
set_option maxRecDepth 100000 in
theorem law_orders (a1 a2 b1 b2 c1 c2 : Int) (w : World) (hX : LaidW w) :
    Calls Tryd.prog 6 #[.agg #[.int .i64 a1, .int .i64 a2], .agg #[.int .i64 b1, .int .i64 b2], .agg #[.int .i64 c1, .int .i64 c2]] w fun e w' => e = .returned (.bool true) ∧ Below w.heap.size w w' := by
  have HX := Lib.hid hX
  clear hX
  cases hva : vR a1 a2
  · have H0 := Lib.hid (cm_no (a1 := a1) (a2 := a2) (b1 := b1) (b2 := b2) (by rw [hva]; rfl))
    have H1 := Lib.hid hva
    clear hva
    go_enter Tryd.func6, Tryd.ntmps6
    go_wp2_with fail
    refine (qCmp_any _ _ _ _ _).mono ?_
    rintro e w1 ⟨rfl, hb⟩
    have ba : Blk w1 (w.heap.size) 23 #[.int .i64 a1, .int .i64 a2] := (((Blk.new _ _ _).alloc _).alloc _).on hb
    have bb : Blk w1 (w.heap.size + 1) 23 #[.int .i64 b1, .int .i64 b2] := ((Blk.new1 _ _ _ _).alloc _).on hb
    have bc : Blk w1 (w.heap.size + 2) 23 #[.int .i64 c1, .int .i64 c2] := (Blk.new2 _ _ _ _ _).on hb
    have hbz := hb.size
    have HB1 := Lib.hid (((((Below.refl w.heap.size w).alloc (by first | exact Nat.le_refl _ | omega | (simp; done) | (simp; omega)) _).alloc (by first | exact Nat.le_refl _ | omega | (simp; done) | (simp; omega)) _).alloc (by first | exact Nat.le_refl _ | omega | (simp; done) | (simp; omega)) _).trans (hb.mono (by first | exact Nat.le_refl _ | omega | (simp; done) | (simp; omega))))
    have hz1 : w.heap.size ≤ w1.heap.size := HB1.out.size
    clear hb hbz
    rw [H0.out]
    have q_ba0 : w1.cell? ⟨w.heap.size, 0, none⟩ = some (.int .i64 a1) := ba.cell 0
    have q_ba1 : w1.cell? ⟨w.heap.size, 1, none⟩ = some (.int .i64 a2) := ba.cell 1
    go_wp2_with fail
    refine (qValid_any _ _ _).mono ?_
    rintro e w2 ⟨rfl, hb⟩
    clear q_ba0 q_ba1
    have ba : Blk w2 (w.heap.size) 23 #[.int .i64 a1, .int .i64 a2] := (ba).on hb
    have bb : Blk w2 (w.heap.size + 1) 23 #[.int .i64 b1, .int .i64 b2] := (bb).on hb
    have bc : Blk w2 (w.heap.size + 2) 23 #[.int .i64 c1, .int .i64 c2] := (bc).on hb
    have hbz := hb.size
    have HB2 := Lib.hid ((HB1.out).trans (hb.mono (by first | exact Nat.le_refl _ | omega | (simp; done) | (simp; omega))))
    have hz2 : w.heap.size ≤ w2.heap.size := HB2.out.size
    clear hb hbz
    rw [H1.out]
    go_wp2_with fail
    refine (qawake_any _ (HX.out.below (HB2.out))).mono ?_
    rintro e w3 ⟨rfl, hb⟩
    have ba : Blk w3 (w.heap.size) 23 #[.int .i64 a1, .int .i64 a2] := (ba).on hb
    have bb : Blk w3 (w.heap.size + 1) 23 #[.int .i64 b1, .int .i64 b2] := (bb).on hb
    have bc : Blk w3 (w.heap.size + 2) 23 #[.int .i64 c1, .int .i64 c2] := (bc).on hb
    have hbz := hb.size
    have HB3 := Lib.hid ((HB2.out).trans (hb.mono (by first | exact Nat.le_refl _ | omega | (simp; done) | (simp; omega))))
    have hz3 : w.heap.size ≤ w3.heap.size := HB3.out.size
    clear hb hbz
    go_wp2_with fail
    go_ret
    exact ⟨rfl, HB3.out⟩
  cases hvb : vR b1 b2
  · have H0 := Lib.hid (cm_no (a1 := a1) (a2 := a2) (b1 := b1) (b2 := b2) (by rw [hvb, Bool.and_false]))
    have H1 := Lib.hid hva
    have H2 := Lib.hid hvb
    clear hva hvb
    go_enter Tryd.func6, Tryd.ntmps6
    go_wp2_with fail
    refine (qCmp_any _ _ _ _ _).mono ?_
    rintro e w1 ⟨rfl, hb⟩
    have ba : Blk w1 (w.heap.size) 23 #[.int .i64 a1, .int .i64 a2] := (((Blk.new _ _ _).alloc _).alloc _).on hb
    have bb : Blk w1 (w.heap.size + 1) 23 #[.int .i64 b1, .int .i64 b2] := ((Blk.new1 _ _ _ _).alloc _).on hb
    have bc : Blk w1 (w.heap.size + 2) 23 #[.int .i64 c1, .int .i64 c2] := (Blk.new2 _ _ _ _ _).on hb
    have hbz := hb.size
    have HB1 := Lib.hid (((((Below.refl w.heap.size w).alloc (by first | exact Nat.le_refl _ | omega | (simp; done) | (simp; omega)) _).alloc (by first | exact Nat.le_refl _ | omega | (simp; done) | (simp; omega)) _).alloc (by first | exact Nat.le_refl _ | omega | (simp; done) | (simp; omega)) _).trans (hb.mono (by first | exact Nat.le_refl _ | omega | (simp; done) | (simp; omega))))
    have hz1 : w.heap.size ≤ w1.heap.size := HB1.out.size
    clear hb hbz
    rw [H0.out]
    have q_ba0 : w1.cell? ⟨w.heap.size, 0, none⟩ = some (.int .i64 a1) := ba.cell 0
    have q_ba1 : w1.cell? ⟨w.heap.size, 1, none⟩ = some (.int .i64 a2) := ba.cell 1
    have q_bb0 : w1.cell? ⟨w.heap.size + 1, 0, none⟩ = some (.int .i64 b1) := bb.cell 0
    have q_bb1 : w1.cell? ⟨w.heap.size + 1, 1, none⟩ = some (.int .i64 b2) := bb.cell 1
    go_wp2_with fail
    refine (qValid_any _ _ _).mono ?_
    rintro e w2 ⟨rfl, hb⟩
    clear q_ba0 q_ba1 q_bb0 q_bb1
    have ba : Blk w2 (w.heap.size) 23 #[.int .i64 a1, .int .i64 a2] := (ba).on hb
    have bb : Blk w2 (w.heap.size + 1) 23 #[.int .i64 b1, .int .i64 b2] := (bb).on hb
    have bc : Blk w2 (w.heap.size + 2) 23 #[.int .i64 c1, .int .i64 c2] := (bc).on hb
    have hbz := hb.size
    have HB2 := Lib.hid ((HB1.out).trans (hb.mono (by first | exact Nat.le_refl _ | omega | (simp; done) | (simp; omega))))
    have hz2 : w.heap.size ≤ w2.heap.size := HB2.out.size
    clear hb hbz
    rw [H1.out]
    have q_bb0 : w2.cell? ⟨w.heap.size + 1, 0, none⟩ = some (.int .i64 b1) := bb.cell 0
    have q_bb1 : w2.cell? ⟨w.heap.size + 1, 1, none⟩ = some (.int .i64 b2) := bb.cell 1
    go_wp2_with fail
    refine (qValid_any _ _ _).mono ?_
    rintro e w3 ⟨rfl, hb⟩
    clear q_bb0 q_bb1
    have ba : Blk w3 (w.heap.size) 23 #[.int .i64 a1, .int .i64 a2] := (ba).on hb
    have bb : Blk w3 (w.heap.size + 1) 23 #[.int .i64 b1, .int .i64 b2] := (bb).on hb
    have bc : Blk w3 (w.heap.size + 2) 23 #[.int .i64 c1, .int .i64 c2] := (bc).on hb
    have hbz := hb.size
    have HB3 := Lib.hid ((HB2.out).trans (hb.mono (by first | exact Nat.le_refl _ | omega | (simp; done) | (simp; omega))))
    have hz3 : w.heap.size ≤ w3.heap.size := HB3.out.size
    clear hb hbz
    rw [H2.out]
    go_wp2_with fail
    refine (qawake_any _ (HX.out.below (HB3.out))).mono ?_
    rintro e w4 ⟨rfl, hb⟩
    have ba : Blk w4 (w.heap.size) 23 #[.int .i64 a1, .int .i64 a2] := (ba).on hb
    have bb : Blk w4 (w.heap.size + 1) 23 #[.int .i64 b1, .int .i64 b2] := (bb).on hb
    have bc : Blk w4 (w.heap.size + 2) 23 #[.int .i64 c1, .int .i64 c2] := (bc).on hb
    have hbz := hb.size
    have HB4 := Lib.hid ((HB3.out).trans (hb.mono (by first | exact Nat.le_refl _ | omega | (simp; done) | (simp; omega))))
    have hz4 : w.heap.size ≤ w4.heap.size := HB4.out.size
    clear hb hbz
    go_wp2_with fail
    go_ret
    exact ⟨rfl, HB4.out⟩
  obtain ⟨z1, z2⟩ := cm_bd a1 a2 b1 b2
  obtain ⟨z, hz⟩ : ∃ z, cmR a1 a2 b1 b2 = z := ⟨_, rfl⟩
  rw [hz] at z1 z2
  have HZ := Lib.hid hz
  have HN := Lib.hid ((cm_neg a1 a2 b1 b2).trans (by rw [hz]))
  have HE := Lib.hid (cm_eq_test hva hvb hz)
  have H1 := Lib.hid hva
  have H2 := Lib.hid hvb
  clear hva hvb hz
  have CS := Lib.hid (fun W => qSub_any a1 a2 b1 b2 W)
  have CA := Lib.hid (fun W => qAdd_any a1 a2 c1 c2 W)
  have CB := Lib.hid (fun W => qAdd_any b1 b2 c1 c2 W)
  have HS := Lib.hid (fun r (h : subR a1 a2 b1 b2 = (r, 0)) => cm_sub h)
  have HA := Lib.hid (fun x y (h : addR a1 a2 c1 c2 = (x, 0)) (h' : addR b1 b2 c1 c2 = (y, 0)) => cm_add h h')
  generalize subR a1 a2 b1 b2 = R at *
  obtain ⟨⟨x, y⟩, e⟩ := R
  generalize addR a1 a2 c1 c2 = R at *
  obtain ⟨⟨x1, y1⟩, e1⟩ := R
  generalize addR b1 b2 c1 c2 = R at *
  obtain ⟨⟨x2, y2⟩, e2⟩ := R
  go_enter Tryd.func6, Tryd.ntmps6
  go_wp2_with fail
  refine (qCmp_any _ _ _ _ _).mono ?_
  rintro e w1 ⟨rfl, hb⟩
  have ba : Blk w1 (w.heap.size) 23 #[.int .i64 a1, .int .i64 a2] := (((Blk.new _ _ _).alloc _).alloc _).on hb
  have bb : Blk w1 (w.heap.size + 1) 23 #[.int .i64 b1, .int .i64 b2] := ((Blk.new1 _ _ _ _).alloc _).on hb
  have bc : Blk w1 (w.heap.size + 2) 23 #[.int .i64 c1, .int .i64 c2] := (Blk.new2 _ _ _ _ _).on hb
  have hbz := hb.size
  have HB1 := Lib.hid (((((Below.refl w.heap.size w).alloc (by first | exact Nat.le_refl _ | omega | (simp; done) | (simp; omega)) _).alloc (by first | exact Nat.le_refl _ | omega | (simp; done) | (simp; omega)) _).alloc (by first | exact Nat.le_refl _ | omega | (simp; done) | (simp; omega)) _).trans (hb.mono (by first | exact Nat.le_refl _ | omega | (simp; done) | (simp; omega))))
  have hz1 : w.heap.size ≤ w1.heap.size := HB1.out.size
  clear hb hbz
  rw [HZ.out]
  have q_ba0 : w1.cell? ⟨w.heap.size, 0, none⟩ = some (.int .i64 a1) := ba.cell 0
  have q_ba1 : w1.cell? ⟨w.heap.size, 1, none⟩ = some (.int .i64 a2) := ba.cell 1
  have q_bb0 : w1.cell? ⟨w.heap.size + 1, 0, none⟩ = some (.int .i64 b1) := bb.cell 0
  have q_bb1 : w1.cell? ⟨w.heap.size + 1, 1, none⟩ = some (.int .i64 b2) := bb.cell 1
  have q_bc0 : w1.cell? ⟨w.heap.size + 2, 0, none⟩ = some (.int .i64 c1) := bc.cell 0
  have q_bc1 : w1.cell? ⟨w.heap.size + 2, 1, none⟩ = some (.int .i64 c2) := bc.cell 1
  have l_ba : w.heap.size < w1.heap.size := ba.lt
  have l_bb : w.heap.size + 1 < w1.heap.size := bb.lt
  have l_bc : w.heap.size + 2 < w1.heap.size := bc.lt
  go_wp2_with fail
  refine (qValid_any _ _ _).mono ?_
  rintro e w2 ⟨rfl, hb⟩
  clear q_ba0 q_ba1 q_bb0 q_bb1 q_bc0 q_bc1 l_ba l_bb l_bc
  have ba : Blk w2 (w.heap.size) 23 #[.int .i64 a1, .int .i64 a2] := (ba).on hb
  have bb : Blk w2 (w.heap.size + 1) 23 #[.int .i64 b1, .int .i64 b2] := (bb).on hb
  have bc : Blk w2 (w.heap.size + 2) 23 #[.int .i64 c1, .int .i64 c2] := (bc).on hb
  have hbz := hb.size
  have HB2 := Lib.hid ((HB1.out).trans (hb.mono (by first | exact Nat.le_refl _ | omega | (simp; done) | (simp; omega))))
  have hz2 : w.heap.size ≤ w2.heap.size := HB2.out.size
  clear hb hbz
  rw [H1.out]
  have q_ba0 : w2.cell? ⟨w.heap.size, 0, none⟩ = some (.int .i64 a1) := ba.cell 0
  have q_ba1 : w2.cell? ⟨w.heap.size, 1, none⟩ = some (.int .i64 a2) := ba.cell 1
  have q_bb0 : w2.cell? ⟨w.heap.size + 1, 0, none⟩ = some (.int .i64 b1) := bb.cell 0
  have q_bb1 : w2.cell? ⟨w.heap.size + 1, 1, none⟩ = some (.int .i64 b2) := bb.cell 1
  have q_bc0 : w2.cell? ⟨w.heap.size + 2, 0, none⟩ = some (.int .i64 c1) := bc.cell 0
  have q_bc1 : w2.cell? ⟨w.heap.size + 2, 1, none⟩ = some (.int .i64 c2) := bc.cell 1
  have l_ba : w.heap.size < w2.heap.size := ba.lt
  have l_bb : w.heap.size + 1 < w2.heap.size := bb.lt
  have l_bc : w.heap.size + 2 < w2.heap.size := bc.lt
  go_wp2_with fail
  refine (qValid_any _ _ _).mono ?_
  rintro e w3 ⟨rfl, hb⟩
  clear q_ba0 q_ba1 q_bb0 q_bb1 q_bc0 q_bc1 l_ba l_bb l_bc
  have ba : Blk w3 (w.heap.size) 23 #[.int .i64 a1, .int .i64 a2] := (ba).on hb
  have bb : Blk w3 (w.heap.size + 1) 23 #[.int .i64 b1, .int .i64 b2] := (bb).on hb
  have bc : Blk w3 (w.heap.size + 2) 23 #[.int .i64 c1, .int .i64 c2] := (bc).on hb
  have hbz := hb.size
  have HB3 := Lib.hid ((HB2.out).trans (hb.mono (by first | exact Nat.le_refl _ | omega | (simp; done) | (simp; omega))))
  have hz3 : w.heap.size ≤ w3.heap.size := HB3.out.size
  clear hb hbz
  rw [H2.out]
  have q_ba0 : w3.cell? ⟨w.heap.size, 0, none⟩ = some (.int .i64 a1) := ba.cell 0
  have q_ba1 : w3.cell? ⟨w.heap.size, 1, none⟩ = some (.int .i64 a2) := ba.cell 1
  have q_bb0 : w3.cell? ⟨w.heap.size + 1, 0, none⟩ = some (.int .i64 b1) := bb.cell 0
  have q_bb1 : w3.cell? ⟨w.heap.size + 1, 1, none⟩ = some (.int .i64 b2) := bb.cell 1
  have q_bc0 : w3.cell? ⟨w.heap.size + 2, 0, none⟩ = some (.int .i64 c1) := bc.cell 0
  have q_bc1 : w3.cell? ⟨w.heap.size + 2, 1, none⟩ = some (.int .i64 c2) := bc.cell 1
  have l_ba : w.heap.size < w3.heap.size := ba.lt
  have l_bb : w.heap.size + 1 < w3.heap.size := bb.lt
  have l_bc : w.heap.size + 2 < w3.heap.size := bc.lt
  go_wp2_with fail
  refine (qCmp_any _ _ _ _ _).mono ?_
  rintro e w4 ⟨rfl, hb⟩
  clear q_ba0 q_ba1 q_bb0 q_bb1 q_bc0 q_bc1 l_ba l_bb l_bc
  have ba : Blk w4 (w.heap.size) 23 #[.int .i64 a1, .int .i64 a2] := (ba).on hb
  have bb : Blk w4 (w.heap.size + 1) 23 #[.int .i64 b1, .int .i64 b2] := (bb).on hb
  have bc : Blk w4 (w.heap.size + 2) 23 #[.int .i64 c1, .int .i64 c2] := (bc).on hb
  have hbz := hb.size
  have HB4 := Lib.hid ((HB3.out).trans (hb.mono (by first | exact Nat.le_refl _ | omega | (simp; done) | (simp; omega))))
  have hz4 : w.heap.size ≤ w4.heap.size := HB4.out.size
  clear hb hbz
  rw [HN.out]
  have q_ba0 : w4.cell? ⟨w.heap.size, 0, none⟩ = some (.int .i64 a1) := ba.cell 0
  have q_ba1 : w4.cell? ⟨w.heap.size, 1, none⟩ = some (.int .i64 a2) := ba.cell 1
  have q_bb0 : w4.cell? ⟨w.heap.size + 1, 0, none⟩ = some (.int .i64 b1) := bb.cell 0
  have q_bb1 : w4.cell? ⟨w.heap.size + 1, 1, none⟩ = some (.int .i64 b2) := bb.cell 1
  have q_bc0 : w4.cell? ⟨w.heap.size + 2, 0, none⟩ = some (.int .i64 c1) := bc.cell 0
  have q_bc1 : w4.cell? ⟨w.heap.size + 2, 1, none⟩ = some (.int .i64 c2) := bc.cell 1
  have l_ba : w.heap.size < w4.heap.size := ba.lt
  have l_bb : w.heap.size + 1 < w4.heap.size := bb.lt
  have l_bc : w.heap.size + 2 < w4.heap.size := bc.lt
  have hE := HE.out
  go_wp2_with fail
  refine (CS.out _).mono ?_
  rintro e w5 ⟨rfl, hb⟩
  clear q_ba0 q_ba1 q_bb0 q_bb1 q_bc0 q_bc1 l_ba l_bb l_bc
  have ba : Blk w5 (w.heap.size) 23 #[.int .i64 a1, .int .i64 a2] := (ba).on hb
  have bb : Blk w5 (w.heap.size + 1) 23 #[.int .i64 b1, .int .i64 b2] := (bb).on hb
  have bc : Blk w5 (w.heap.size + 2) 23 #[.int .i64 c1, .int .i64 c2] := (bc).on hb
  have hbz := hb.size
  have HB5 := Lib.hid ((HB4.out).trans (hb.mono (by first | exact Nat.le_refl _ | omega | (simp; done) | (simp; omega))))
  have hz5 : w.heap.size ≤ w5.heap.size := HB5.out.size
  clear hb hbz
  simp only [tupR, agg2]
  clear hE
  have q_ba0 : w5.cell? ⟨w.heap.size, 0, none⟩ = some (.int .i64 a1) := ba.cell 0
  have q_ba1 : w5.cell? ⟨w.heap.size, 1, none⟩ = some (.int .i64 a2) := ba.cell 1
  have q_bb0 : w5.cell? ⟨w.heap.size + 1, 0, none⟩ = some (.int .i64 b1) := bb.cell 0
  have q_bb1 : w5.cell? ⟨w.heap.size + 1, 1, none⟩ = some (.int .i64 b2) := bb.cell 1
  have q_bc0 : w5.cell? ⟨w.heap.size + 2, 0, none⟩ = some (.int .i64 c1) := bc.cell 0
  have q_bc1 : w5.cell? ⟨w.heap.size + 2, 1, none⟩ = some (.int .i64 c2) := bc.cell 1
  have l_ba : w.heap.size < w5.heap.size := ba.lt
  have l_bb : w.heap.size + 1 < w5.heap.size := bb.lt
  have l_bc : w.heap.size + 2 < w5.heap.size := bc.lt
  by_cases he : e = 0
  · skip
    subst he
    have HC := Lib.hid ((HS.out _ rfl).trans HZ.out)
    go_wp2_with fail
    refine (qCmp_any _ _ _ _ _).mono ?_
    rintro e w6 ⟨rfl, hb⟩
    clear q_ba0 q_ba1 q_bb0 q_bb1 q_bc0 q_bc1 l_ba l_bb l_bc
    have ba : Blk w6 (w.heap.size) 23 #[.int .i64 a1, .int .i64 a2] := ((ba).alloc _).on hb
    have bb : Blk w6 (w.heap.size + 1) 23 #[.int .i64 b1, .int .i64 b2] := ((bb).alloc _).on hb
    have bc : Blk w6 (w.heap.size + 2) 23 #[.int .i64 c1, .int .i64 c2] := ((bc).alloc _).on hb
    have bd : Blk w6 (w5.heap.size) 23 #[.int .i64 x, .int .i64 y] := (Blk.new _ _ _).on hb
    have hbz := hb.size
    have HB6 := Lib.hid (((HB5.out).alloc (by first | exact Nat.le_refl _ | omega | (simp; done) | (simp; omega)) _).trans (hb.mono (by first | exact Nat.le_refl _ | omega | (simp; done) | (simp; omega))))
    have hz6 : w.heap.size ≤ w6.heap.size := HB6.out.size
    clear hb hbz
    rw [show cmR x y 0 1 = z from HC.out]
    have q_ba0 : w6.cell? ⟨w.heap.size, 0, none⟩ = some (.int .i64 a1) := ba.cell 0
    have q_ba1 : w6.cell? ⟨w.heap.size, 1, none⟩ = some (.int .i64 a2) := ba.cell 1
    have q_bb0 : w6.cell? ⟨w.heap.size + 1, 0, none⟩ = some (.int .i64 b1) := bb.cell 0
    have q_bb1 : w6.cell? ⟨w.heap.size + 1, 1, none⟩ = some (.int .i64 b2) := bb.cell 1
    have q_bc0 : w6.cell? ⟨w.heap.size + 2, 0, none⟩ = some (.int .i64 c1) := bc.cell 0
    have q_bc1 : w6.cell? ⟨w.heap.size + 2, 1, none⟩ = some (.int .i64 c2) := bc.cell 1
    have q_bd0 : w6.cell? ⟨w5.heap.size, 0, none⟩ = some (.int .i64 x) := bd.cell 0
    have q_bd1 : w6.cell? ⟨w5.heap.size, 1, none⟩ = some (.int .i64 y) := bd.cell 1
    have l_ba : w.heap.size < w6.heap.size := ba.lt
    have l_bb : w.heap.size + 1 < w6.heap.size := bb.lt
    have l_bc : w.heap.size + 2 < w6.heap.size := bc.lt
    have l_bd : w5.heap.size < w6.heap.size := bd.lt
    go_wp2_with fail
    refine (qValid_any c1 c2 _).mono ?_
    rintro e w7 ⟨rfl, hb⟩
    clear q_ba0 q_ba1 q_bb0 q_bb1 q_bc0 q_bc1 q_bd0 q_bd1 l_ba l_bb l_bc l_bd
    have ba : Blk w7 (w.heap.size) 23 #[.int .i64 a1, .int .i64 a2] := (ba).on hb
    have bb : Blk w7 (w.heap.size + 1) 23 #[.int .i64 b1, .int .i64 b2] := (bb).on hb
    have bc : Blk w7 (w.heap.size + 2) 23 #[.int .i64 c1, .int .i64 c2] := (bc).on hb
    have bd : Blk w7 (w5.heap.size) 23 #[.int .i64 x, .int .i64 y] := (bd).on hb
    have hbz := hb.size
    have HB7 := Lib.hid ((HB6.out).trans (hb.mono (by first | exact Nat.le_refl _ | omega | (simp; done) | (simp; omega))))
    have hz7 : w.heap.size ≤ w7.heap.size := HB7.out.size
    clear hb hbz
    have q_ba0 : w7.cell? ⟨w.heap.size, 0, none⟩ = some (.int .i64 a1) := ba.cell 0
    have q_ba1 : w7.cell? ⟨w.heap.size, 1, none⟩ = some (.int .i64 a2) := ba.cell 1
    have q_bb0 : w7.cell? ⟨w.heap.size + 1, 0, none⟩ = some (.int .i64 b1) := bb.cell 0
    have q_bb1 : w7.cell? ⟨w.heap.size + 1, 1, none⟩ = some (.int .i64 b2) := bb.cell 1
    have q_bc0 : w7.cell? ⟨w.heap.size + 2, 0, none⟩ = some (.int .i64 c1) := bc.cell 0
    have q_bc1 : w7.cell? ⟨w.heap.size + 2, 1, none⟩ = some (.int .i64 c2) := bc.cell 1
    have q_bd0 : w7.cell? ⟨w5.heap.size, 0, none⟩ = some (.int .i64 x) := bd.cell 0
    have q_bd1 : w7.cell? ⟨w5.heap.size, 1, none⟩ = some (.int .i64 y) := bd.cell 1
    have l_ba : w.heap.size < w7.heap.size := ba.lt
    have l_bb : w.heap.size + 1 < w7.heap.size := bb.lt
    have l_bc : w.heap.size + 2 < w7.heap.size := bc.lt
    have l_bd : w5.heap.size < w7.heap.size := bd.lt
    cases hvc : vR c1 c2
    · skip
      go_wp2_with fail
      refine (qawake_any _ (HX.out.below (HB7.out))).mono ?_
      rintro e w8 ⟨rfl, hb⟩
      clear q_ba0 q_ba1 q_bb0 q_bb1 q_bc0 q_bc1 q_bd0 q_bd1 l_ba l_bb l_bc l_bd
      have ba : Blk w8 (w.heap.size) 23 #[.int .i64 a1, .int .i64 a2] := (ba).on hb
      have bb : Blk w8 (w.heap.size + 1) 23 #[.int .i64 b1, .int .i64 b2] := (bb).on hb
      have bc : Blk w8 (w.heap.size + 2) 23 #[.int .i64 c1, .int .i64 c2] := (bc).on hb
      have bd : Blk w8 (w5.heap.size) 23 #[.int .i64 x, .int .i64 y] := (bd).on hb
      have hbz := hb.size
      have HB8 := Lib.hid ((HB7.out).trans (hb.mono (by first | exact Nat.le_refl _ | omega | (simp; done) | (simp; omega))))
      have hz8 : w.heap.size ≤ w8.heap.size := HB8.out.size
      clear hb hbz
      go_wp2_with fail
      go_ret
      exact ⟨rfl, HB8.out⟩
    · by_cases hz0 : z ≤ 0
      · obtain ⟨u, hu⟩ : ∃ u, cmR b1 b2 c1 c2 = u := ⟨_, rfl⟩
        have HU := Lib.hid hu
        have HT := Lib.hid (fun h => cm_trans (c1 := c1) (c2 := c2) H1.out H2.out hvc (by rw [HZ.out]; exact hz0) (by rw [HU.out]; exact h))
        clear hu hvc
        go_wp2_with fail
        refine (qCmp_any _ _ _ _ _).mono ?_
        rintro e w8 ⟨rfl, hb⟩
        clear q_ba0 q_ba1 q_bb0 q_bb1 q_bc0 q_bc1 q_bd0 q_bd1 l_ba l_bb l_bc l_bd
        have ba : Blk w8 (w.heap.size) 23 #[.int .i64 a1, .int .i64 a2] := (ba).on hb
        have bb : Blk w8 (w.heap.size + 1) 23 #[.int .i64 b1, .int .i64 b2] := (bb).on hb
        have bc : Blk w8 (w.heap.size + 2) 23 #[.int .i64 c1, .int .i64 c2] := (bc).on hb
        have bd : Blk w8 (w5.heap.size) 23 #[.int .i64 x, .int .i64 y] := (bd).on hb
        have hbz := hb.size
        have HB8 := Lib.hid ((HB7.out).trans (hb.mono (by first | exact Nat.le_refl _ | omega | (simp; done) | (simp; omega))))
        have hz8 : w.heap.size ≤ w8.heap.size := HB8.out.size
        clear hb hbz
        rw [HU.out]
        have q_ba0 : w8.cell? ⟨w.heap.size, 0, none⟩ = some (.int .i64 a1) := ba.cell 0
        have q_ba1 : w8.cell? ⟨w.heap.size, 1, none⟩ = some (.int .i64 a2) := ba.cell 1
        have q_bb0 : w8.cell? ⟨w.heap.size + 1, 0, none⟩ = some (.int .i64 b1) := bb.cell 0
        have q_bb1 : w8.cell? ⟨w.heap.size + 1, 1, none⟩ = some (.int .i64 b2) := bb.cell 1
        have q_bc0 : w8.cell? ⟨w.heap.size + 2, 0, none⟩ = some (.int .i64 c1) := bc.cell 0
        have q_bc1 : w8.cell? ⟨w.heap.size + 2, 1, none⟩ = some (.int .i64 c2) := bc.cell 1
        have q_bd0 : w8.cell? ⟨w5.heap.size, 0, none⟩ = some (.int .i64 x) := bd.cell 0
        have q_bd1 : w8.cell? ⟨w5.heap.size, 1, none⟩ = some (.int .i64 y) := bd.cell 1
        have l_ba : w.heap.size < w8.heap.size := ba.lt
        have l_bb : w.heap.size + 1 < w8.heap.size := bb.lt
        have l_bc : w.heap.size + 2 < w8.heap.size := bc.lt
        have l_bd : w5.heap.size < w8.heap.size := bd.lt
        by_cases hu0 : u ≤ 0
        · skip
          have hv := HT.out hu0
          go_wp2_with fail
          refine (qCmp_any _ _ _ _ _).mono ?_
          rintro e w9 ⟨rfl, hb⟩
          clear q_ba0 q_ba1 q_bb0 q_bb1 q_bc0 q_bc1 q_bd0 q_bd1 l_ba l_bb l_bc l_bd
          have ba : Blk w9 (w.heap.size) 23 #[.int .i64 a1, .int .i64 a2] := (ba).on hb
          have bb : Blk w9 (w.heap.size + 1) 23 #[.int .i64 b1, .int .i64 b2] := (bb).on hb
          have bc : Blk w9 (w.heap.size + 2) 23 #[.int .i64 c1, .int .i64 c2] := (bc).on hb
          have bd : Blk w9 (w5.heap.size) 23 #[.int .i64 x, .int .i64 y] := (bd).on hb
          have hbz := hb.size
          have HB9 := Lib.hid ((HB8.out).trans (hb.mono (by first | exact Nat.le_refl _ | omega | (simp; done) | (simp; omega))))
          have hz9 : w.heap.size ≤ w9.heap.size := HB9.out.size
          clear hb hbz
          generalize cmR a1 a2 c1 c2 = v at *
          have q_ba0 : w9.cell? ⟨w.heap.size, 0, none⟩ = some (.int .i64 a1) := ba.cell 0
          have q_ba1 : w9.cell? ⟨w.heap.size, 1, none⟩ = some (.int .i64 a2) := ba.cell 1
          have q_bb0 : w9.cell? ⟨w.heap.size + 1, 0, none⟩ = some (.int .i64 b1) := bb.cell 0
          have q_bb1 : w9.cell? ⟨w.heap.size + 1, 1, none⟩ = some (.int .i64 b2) := bb.cell 1
          have q_bc0 : w9.cell? ⟨w.heap.size + 2, 0, none⟩ = some (.int .i64 c1) := bc.cell 0
          have q_bc1 : w9.cell? ⟨w.heap.size + 2, 1, none⟩ = some (.int .i64 c2) := bc.cell 1
          have q_bd0 : w9.cell? ⟨w5.heap.size, 0, none⟩ = some (.int .i64 x) := bd.cell 0
          have q_bd1 : w9.cell? ⟨w5.heap.size, 1, none⟩ = some (.int .i64 y) := bd.cell 1
          have l_ba : w.heap.size < w9.heap.size := ba.lt
          have l_bb : w.heap.size + 1 < w9.heap.size := bb.lt
          have l_bc : w.heap.size + 2 < w9.heap.size := bc.lt
          have l_bd : w5.heap.size < w9.heap.size := bd.lt
          go_wp2_with fail
          refine (CA.out _).mono ?_
          rintro e w10 ⟨rfl, hb⟩
          clear q_ba0 q_ba1 q_bb0 q_bb1 q_bc0 q_bc1 q_bd0 q_bd1 l_ba l_bb l_bc l_bd
          have ba : Blk w10 (w.heap.size) 23 #[.int .i64 a1, .int .i64 a2] := (ba).on hb
          have bb : Blk w10 (w.heap.size + 1) 23 #[.int .i64 b1, .int .i64 b2] := (bb).on hb
          have bc : Blk w10 (w.heap.size + 2) 23 #[.int .i64 c1, .int .i64 c2] := (bc).on hb
          have bd : Blk w10 (w5.heap.size) 23 #[.int .i64 x, .int .i64 y] := (bd).on hb
          have hbz := hb.size
          have HB10 := Lib.hid ((HB9.out).trans (hb.mono (by first | exact Nat.le_refl _ | omega | (simp; done) | (simp; omega))))
          have hz10 : w.heap.size ≤ w10.heap.size := HB10.out.size
          clear hb hbz
          simp only [tupR, agg2]
          have q_ba0 : w10.cell? ⟨w.heap.size, 0, none⟩ = some (.int .i64 a1) := ba.cell 0
          have q_ba1 : w10.cell? ⟨w.heap.size, 1, none⟩ = some (.int .i64 a2) := ba.cell 1
          have q_bb0 : w10.cell? ⟨w.heap.size + 1, 0, none⟩ = some (.int .i64 b1) := bb.cell 0
          have q_bb1 : w10.cell? ⟨w.heap.size + 1, 1, none⟩ = some (.int .i64 b2) := bb.cell 1
          have q_bc0 : w10.cell? ⟨w.heap.size + 2, 0, none⟩ = some (.int .i64 c1) := bc.cell 0
          have q_bc1 : w10.cell? ⟨w.heap.size + 2, 1, none⟩ = some (.int .i64 c2) := bc.cell 1
          have q_bd0 : w10.cell? ⟨w5.heap.size, 0, none⟩ = some (.int .i64 x) := bd.cell 0
          have q_bd1 : w10.cell? ⟨w5.heap.size, 1, none⟩ = some (.int .i64 y) := bd.cell 1
          have l_ba : w.heap.size < w10.heap.size := ba.lt
          have l_bb : w.heap.size + 1 < w10.heap.size := bb.lt
          have l_bc : w.heap.size + 2 < w10.heap.size := bc.lt
          have l_bd : w5.heap.size < w10.heap.size := bd.lt
          go_wp2_with fail
          refine (CB.out _).mono ?_
          rintro e w11 ⟨rfl, hb⟩
          clear q_ba0 q_ba1 q_bb0 q_bb1 q_bc0 q_bc1 q_bd0 q_bd1 l_ba l_bb l_bc l_bd
          have ba : Blk w11 (w.heap.size) 23 #[.int .i64 a1, .int .i64 a2] := ((ba).alloc _).on hb
          have bb : Blk w11 (w.heap.size + 1) 23 #[.int .i64 b1, .int .i64 b2] := ((bb).alloc _).on hb
          have bc : Blk w11 (w.heap.size + 2) 23 #[.int .i64 c1, .int .i64 c2] := ((bc).alloc _).on hb
          have bd : Blk w11 (w5.heap.size) 23 #[.int .i64 x, .int .i64 y] := ((bd).alloc _).on hb
          have b1_ : Blk w11 (w10.heap.size) 23 #[.int .i64 x1, .int .i64 y1] := (Blk.new _ _ _).on hb
          have hbz := hb.size
          have HB11 := Lib.hid (((HB10.out).alloc (by first | exact Nat.le_refl _ | omega | (simp; done) | (simp; omega)) _).trans (hb.mono (by first | exact Nat.le_refl _ | omega | (simp; done) | (simp; omega))))
          have hz11 : w.heap.size ≤ w11.heap.size := HB11.out.size
          clear hb hbz
          simp only [tupR, agg2]
          have q_ba0 : w11.cell? ⟨w.heap.size, 0, none⟩ = some (.int .i64 a1) := ba.cell 0
          have q_ba1 : w11.cell? ⟨w.heap.size, 1, none⟩ = some (.int .i64 a2) := ba.cell 1
          have q_bb0 : w11.cell? ⟨w.heap.size + 1, 0, none⟩ = some (.int .i64 b1) := bb.cell 0
          have q_bb1 : w11.cell? ⟨w.heap.size + 1, 1, none⟩ = some (.int .i64 b2) := bb.cell 1
          have q_bc0 : w11.cell? ⟨w.heap.size + 2, 0, none⟩ = some (.int .i64 c1) := bc.cell 0
          have q_bc1 : w11.cell? ⟨w.heap.size + 2, 1, none⟩ = some (.int .i64 c2) := bc.cell 1
          have q_bd0 : w11.cell? ⟨w5.heap.size, 0, none⟩ = some (.int .i64 x) := bd.cell 0
          have q_bd1 : w11.cell? ⟨w5.heap.size, 1, none⟩ = some (.int .i64 y) := bd.cell 1
          have q_b1_0 : w11.cell? ⟨w10.heap.size, 0, none⟩ = some (.int .i64 x1) := b1_.cell 0
          have q_b1_1 : w11.cell? ⟨w10.heap.size, 1, none⟩ = some (.int .i64 y1) := b1_.cell 1
          have l_ba : w.heap.size < w11.heap.size := ba.lt
          have l_bb : w.heap.size + 1 < w11.heap.size := bb.lt
          have l_bc : w.heap.size + 2 < w11.heap.size := bc.lt
          have l_bd : w5.heap.size < w11.heap.size := bd.lt
          have l_b1_ : w10.heap.size < w11.heap.size := b1_.lt
          by_cases h1 : e1 = 0
          · subst h1
            by_cases h2 : e2 = 0
            · subst h2
              have HC := Lib.hid ((HA.out _ _ rfl rfl).trans HZ.out)
              go_wp2_with fail
              refine (qCmp_any _ _ _ _ _).mono ?_
              rintro e w12 ⟨rfl, hb⟩
              clear q_ba0 q_ba1 q_bb0 q_bb1 q_bc0 q_bc1 q_bd0 q_bd1 q_b1_0 q_b1_1 l_ba l_bb l_bc l_bd l_b1_
              have ba : Blk w12 (w.heap.size) 23 #[.int .i64 a1, .int .i64 a2] := ((ba).alloc _).on hb
              have bb : Blk w12 (w.heap.size + 1) 23 #[.int .i64 b1, .int .i64 b2] := ((bb).alloc _).on hb
              have bc : Blk w12 (w.heap.size + 2) 23 #[.int .i64 c1, .int .i64 c2] := ((bc).alloc _).on hb
              have bd : Blk w12 (w5.heap.size) 23 #[.int .i64 x, .int .i64 y] := ((bd).alloc _).on hb
              have b1_ : Blk w12 (w10.heap.size) 23 #[.int .i64 x1, .int .i64 y1] := ((b1_).alloc _).on hb
              have b2_ : Blk w12 (w11.heap.size) 23 #[.int .i64 x2, .int .i64 y2] := (Blk.new _ _ _).on hb
              have hbz := hb.size
              have HB12 := Lib.hid (((HB11.out).alloc (by first | exact Nat.le_refl _ | omega | (simp; done) | (simp; omega)) _).trans (hb.mono (by first | exact Nat.le_refl _ | omega | (simp; done) | (simp; omega))))
              have hz12 : w.heap.size ≤ w12.heap.size := HB12.out.size
              clear hb hbz
              rw [show cmR x1 y1 x2 y2 = z from HC.out]
              go_wp2_with fail
              refine (qawake_any _ (HX.out.below (HB12.out))).mono ?_
              rintro e w13 ⟨rfl, hb⟩
              have ba : Blk w13 (w.heap.size) 23 #[.int .i64 a1, .int .i64 a2] := (ba).on hb
              have bb : Blk w13 (w.heap.size + 1) 23 #[.int .i64 b1, .int .i64 b2] := (bb).on hb
              have bc : Blk w13 (w.heap.size + 2) 23 #[.int .i64 c1, .int .i64 c2] := (bc).on hb
              have bd : Blk w13 (w5.heap.size) 23 #[.int .i64 x, .int .i64 y] := (bd).on hb
              have b1_ : Blk w13 (w10.heap.size) 23 #[.int .i64 x1, .int .i64 y1] := (b1_).on hb
              have b2_ : Blk w13 (w11.heap.size) 23 #[.int .i64 x2, .int .i64 y2] := (b2_).on hb
              have hbz := hb.size
              have HB13 := Lib.hid ((HB12.out).trans (hb.mono (by first | exact Nat.le_refl _ | omega | (simp; done) | (simp; omega))))
              have hz13 : w.heap.size ≤ w13.heap.size := HB13.out.size
              clear hb hbz
              go_wp2_with fail
              go_ret
              exact ⟨rfl, HB13.out⟩
            · have hb2 : (e2 != 0) = true := by rw [bne_iff_ne]; exact h2
              clear h2
              go_wp2_with fail
              refine (qawake_any _ (HX.out.below ((HB11.out).alloc (by first | exact Nat.le_refl _ | omega | (simp; done) | (simp; omega)) _))).mono ?_
              rintro e w12 ⟨rfl, hb⟩
              clear q_ba0 q_ba1 q_bb0 q_bb1 q_bc0 q_bc1 q_bd0 q_bd1 q_b1_0 q_b1_1 l_ba l_bb l_bc l_bd l_b1_
              have ba : Blk w12 (w.heap.size) 23 #[.int .i64 a1, .int .i64 a2] := ((ba).alloc _).on hb
              have bb : Blk w12 (w.heap.size + 1) 23 #[.int .i64 b1, .int .i64 b2] := ((bb).alloc _).on hb
              have bc : Blk w12 (w.heap.size + 2) 23 #[.int .i64 c1, .int .i64 c2] := ((bc).alloc _).on hb
              have bd : Blk w12 (w5.heap.size) 23 #[.int .i64 x, .int .i64 y] := ((bd).alloc _).on hb
              have b1_ : Blk w12 (w10.heap.size) 23 #[.int .i64 x1, .int .i64 y1] := ((b1_).alloc _).on hb
              have b2_ : Blk w12 (w11.heap.size) 23 #[.int .i64 x2, .int .i64 y2] := (Blk.new _ _ _).on hb
              have hbz := hb.size
              have HB12 := Lib.hid (((HB11.out).alloc (by first | exact Nat.le_refl _ | omega | (simp; done) | (simp; omega)) _).trans (hb.mono (by first | exact Nat.le_refl _ | omega | (simp; done) | (simp; omega))))
              have hz12 : w.heap.size ≤ w12.heap.size := HB12.out.size
              clear hb hbz
              go_wp2_with fail
              go_ret
              exact ⟨rfl, HB12.out⟩
          · have hb1 : (e1 != 0) = true := by rw [bne_iff_ne]; exact h1
            clear h1
            go_wp2_with fail
            refine (qawake_any _ (HX.out.below ((HB11.out).alloc (by first | exact Nat.le_refl _ | omega | (simp; done) | (simp; omega)) _))).mono ?_
            rintro e w12 ⟨rfl, hb⟩
            clear q_ba0 q_ba1 q_bb0 q_bb1 q_bc0 q_bc1 q_bd0 q_bd1 q_b1_0 q_b1_1 l_ba l_bb l_bc l_bd l_b1_
            have ba : Blk w12 (w.heap.size) 23 #[.int .i64 a1, .int .i64 a2] := ((ba).alloc _).on hb
            have bb : Blk w12 (w.heap.size + 1) 23 #[.int .i64 b1, .int .i64 b2] := ((bb).alloc _).on hb
            have bc : Blk w12 (w.heap.size + 2) 23 #[.int .i64 c1, .int .i64 c2] := ((bc).alloc _).on hb
            have bd : Blk w12 (w5.heap.size) 23 #[.int .i64 x, .int .i64 y] := ((bd).alloc _).on hb
            have b1_ : Blk w12 (w10.heap.size) 23 #[.int .i64 x1, .int .i64 y1] := ((b1_).alloc _).on hb
            have b2_ : Blk w12 (w11.heap.size) 23 #[.int .i64 x2, .int .i64 y2] := (Blk.new _ _ _).on hb
            have hbz := hb.size
            have HB12 := Lib.hid (((HB11.out).alloc (by first | exact Nat.le_refl _ | omega | (simp; done) | (simp; omega)) _).trans (hb.mono (by first | exact Nat.le_refl _ | omega | (simp; done) | (simp; omega))))
            have hz12 : w.heap.size ≤ w12.heap.size := HB12.out.size
            clear hb hbz
            go_wp2_with fail
            go_ret
            exact ⟨rfl, HB12.out⟩
        · have du : decide (u ≤ 0) = false := decide_eq_false hu0
          go_wp2_with fail
          refine (CA.out _).mono ?_
          rintro e w9 ⟨rfl, hb⟩
          clear q_ba0 q_ba1 q_bb0 q_bb1 q_bc0 q_bc1 q_bd0 q_bd1 l_ba l_bb l_bc l_bd
          have ba : Blk w9 (w.heap.size) 23 #[.int .i64 a1, .int .i64 a2] := (ba).on hb
          have bb : Blk w9 (w.heap.size + 1) 23 #[.int .i64 b1, .int .i64 b2] := (bb).on hb
          have bc : Blk w9 (w.heap.size + 2) 23 #[.int .i64 c1, .int .i64 c2] := (bc).on hb
          have bd : Blk w9 (w5.heap.size) 23 #[.int .i64 x, .int .i64 y] := (bd).on hb
          have hbz := hb.size
          have HB9 := Lib.hid ((HB8.out).trans (hb.mono (by first | exact Nat.le_refl _ | omega | (simp; done) | (simp; omega))))
          have hz9 : w.heap.size ≤ w9.heap.size := HB9.out.size
          clear hb hbz
          simp only [tupR, agg2]
          have q_ba0 : w9.cell? ⟨w.heap.size, 0, none⟩ = some (.int .i64 a1) := ba.cell 0
          have q_ba1 : w9.cell? ⟨w.heap.size, 1, none⟩ = some (.int .i64 a2) := ba.cell 1
          have q_bb0 : w9.cell? ⟨w.heap.size + 1, 0, none⟩ = some (.int .i64 b1) := bb.cell 0
          have q_bb1 : w9.cell? ⟨w.heap.size + 1, 1, none⟩ = some (.int .i64 b2) := bb.cell 1
          have q_bc0 : w9.cell? ⟨w.heap.size + 2, 0, none⟩ = some (.int .i64 c1) := bc.cell 0
          have q_bc1 : w9.cell? ⟨w.heap.size + 2, 1, none⟩ = some (.int .i64 c2) := bc.cell 1
          have q_bd0 : w9.cell? ⟨w5.heap.size, 0, none⟩ = some (.int .i64 x) := bd.cell 0
          have q_bd1 : w9.cell? ⟨w5.heap.size, 1, none⟩ = some (.int .i64 y) := bd.cell 1
          have l_ba : w.heap.size < w9.heap.size := ba.lt
          have l_bb : w.heap.size + 1 < w9.heap.size := bb.lt
          have l_bc : w.heap.size + 2 < w9.heap.size := bc.lt
          have l_bd : w5.heap.size < w9.heap.size := bd.lt
          go_wp2_with fail
          refine (CB.out _).mono ?_
          rintro e w10 ⟨rfl, hb⟩
          clear q_ba0 q_ba1 q_bb0 q_bb1 q_bc0 q_bc1 q_bd0 q_bd1 l_ba l_bb l_bc l_bd
          have ba : Blk w10 (w.heap.size) 23 #[.int .i64 a1, .int .i64 a2] := ((ba).alloc _).on hb
          have bb : Blk w10 (w.heap.size + 1) 23 #[.int .i64 b1, .int .i64 b2] := ((bb).alloc _).on hb
          have bc : Blk w10 (w.heap.size + 2) 23 #[.int .i64 c1, .int .i64 c2] := ((bc).alloc _).on hb
          have bd : Blk w10 (w5.heap.size) 23 #[.int .i64 x, .int .i64 y] := ((bd).alloc _).on hb
          have b1_ : Blk w10 (w9.heap.size) 23 #[.int .i64 x1, .int .i64 y1] := (Blk.new _ _ _).on hb
          have hbz := hb.size
          have HB10 := Lib.hid (((HB9.out).alloc (by first | exact Nat.le_refl _ | omega | (simp; done) | (simp; omega)) _).trans (hb.mono (by first | exact Nat.le_refl _ | omega | (simp; done) | (simp; omega))))
          have hz10 : w.heap.size ≤ w10.heap.size := HB10.out.size
          clear hb hbz
          simp only [tupR, agg2]
          have q_ba0 : w10.cell? ⟨w.heap.size, 0, none⟩ = some (.int .i64 a1) := ba.cell 0
          have q_ba1 : w10.cell? ⟨w.heap.size, 1, none⟩ = some (.int .i64 a2) := ba.cell 1
          have q_bb0 : w10.cell? ⟨w.heap.size + 1, 0, none⟩ = some (.int .i64 b1) := bb.cell 0
          have q_bb1 : w10.cell? ⟨w.heap.size + 1, 1, none⟩ = some (.int .i64 b2) := bb.cell 1
          have q_bc0 : w10.cell? ⟨w.heap.size + 2, 0, none⟩ = some (.int .i64 c1) := bc.cell 0
          have q_bc1 : w10.cell? ⟨w.heap.size + 2, 1, none⟩ = some (.int .i64 c2) := bc.cell 1
          have q_bd0 : w10.cell? ⟨w5.heap.size, 0, none⟩ = some (.int .i64 x) := bd.cell 0
          have q_bd1 : w10.cell? ⟨w5.heap.size, 1, none⟩ = some (.int .i64 y) := bd.cell 1
          have q_b1_0 : w10.cell? ⟨w9.heap.size, 0, none⟩ = some (.int .i64 x1) := b1_.cell 0
          have q_b1_1 : w10.cell? ⟨w9.heap.size, 1, none⟩ = some (.int .i64 y1) := b1_.cell 1
          have l_ba : w.heap.size < w10.heap.size := ba.lt
          have l_bb : w.heap.size + 1 < w10.heap.size := bb.lt
          have l_bc : w.heap.size + 2 < w10.heap.size := bc.lt
          have l_bd : w5.heap.size < w10.heap.size := bd.lt
          have l_b1_ : w9.heap.size < w10.heap.size := b1_.lt
          by_cases h1 : e1 = 0
          · subst h1
            by_cases h2 : e2 = 0
            · subst h2
              have HC := Lib.hid ((HA.out _ _ rfl rfl).trans HZ.out)
              go_wp2_with fail
              refine (qCmp_any _ _ _ _ _).mono ?_
              rintro e w11 ⟨rfl, hb⟩
              clear q_ba0 q_ba1 q_bb0 q_bb1 q_bc0 q_bc1 q_bd0 q_bd1 q_b1_0 q_b1_1 l_ba l_bb l_bc l_bd l_b1_
              have ba : Blk w11 (w.heap.size) 23 #[.int .i64 a1, .int .i64 a2] := ((ba).alloc _).on hb
              have bb : Blk w11 (w.heap.size + 1) 23 #[.int .i64 b1, .int .i64 b2] := ((bb).alloc _).on hb
              have bc : Blk w11 (w.heap.size + 2) 23 #[.int .i64 c1, .int .i64 c2] := ((bc).alloc _).on hb
              have bd : Blk w11 (w5.heap.size) 23 #[.int .i64 x, .int .i64 y] := ((bd).alloc _).on hb
              have b1_ : Blk w11 (w9.heap.size) 23 #[.int .i64 x1, .int .i64 y1] := ((b1_).alloc _).on hb
              have b2_ : Blk w11 (w10.heap.size) 23 #[.int .i64 x2, .int .i64 y2] := (Blk.new _ _ _).on hb
              have hbz := hb.size
              have HB11 := Lib.hid (((HB10.out).alloc (by first | exact Nat.le_refl _ | omega | (simp; done) | (simp; omega)) _).trans (hb.mono (by first | exact Nat.le_refl _ | omega | (simp; done) | (simp; omega))))
              have hz11 : w.heap.size ≤ w11.heap.size := HB11.out.size
              clear hb hbz
              rw [show cmR x1 y1 x2 y2 = z from HC.out]
              go_wp2_with fail
              refine (qawake_any _ (HX.out.below (HB11.out))).mono ?_
              rintro e w12 ⟨rfl, hb⟩
              have ba : Blk w12 (w.heap.size) 23 #[.int .i64 a1, .int .i64 a2] := (ba).on hb
              have bb : Blk w12 (w.heap.size + 1) 23 #[.int .i64 b1, .int .i64 b2] := (bb).on hb
              have bc : Blk w12 (w.heap.size + 2) 23 #[.int .i64 c1, .int .i64 c2] := (bc).on hb
              have bd : Blk w12 (w5.heap.size) 23 #[.int .i64 x, .int .i64 y] := (bd).on hb
              have b1_ : Blk w12 (w9.heap.size) 23 #[.int .i64 x1, .int .i64 y1] := (b1_).on hb
              have b2_ : Blk w12 (w10.heap.size) 23 #[.int .i64 x2, .int .i64 y2] := (b2_).on hb
              have hbz := hb.size
              have HB12 := Lib.hid ((HB11.out).trans (hb.mono (by first | exact Nat.le_refl _ | omega | (simp; done) | (simp; omega))))
              have hz12 : w.heap.size ≤ w12.heap.size := HB12.out.size
              clear hb hbz
              go_wp2_with fail
              go_ret
              exact ⟨rfl, HB12.out⟩
            · have hb2 : (e2 != 0) = true := by rw [bne_iff_ne]; exact h2
              clear h2
              go_wp2_with fail
              refine (qawake_any _ (HX.out.below ((HB10.out).alloc (by first | exact Nat.le_refl _ | omega | (simp; done) | (simp; omega)) _))).mono ?_
              rintro e w11 ⟨rfl, hb⟩
              clear q_ba0 q_ba1 q_bb0 q_bb1 q_bc0 q_bc1 q_bd0 q_bd1 q_b1_0 q_b1_1 l_ba l_bb l_bc l_bd l_b1_
              have ba : Blk w11 (w.heap.size) 23 #[.int .i64 a1, .int .i64 a2] := ((ba).alloc _).on hb
              have bb : Blk w11 (w.heap.size + 1) 23 #[.int .i64 b1, .int .i64 b2] := ((bb).alloc _).on hb
              have bc : Blk w11 (w.heap.size + 2) 23 #[.int .i64 c1, .int .i64 c2] := ((bc).alloc _).on hb
              have bd : Blk w11 (w5.heap.size) 23 #[.int .i64 x, .int .i64 y] := ((bd).alloc _).on hb
              have b1_ : Blk w11 (w9.heap.size) 23 #[.int .i64 x1, .int .i64 y1] := ((b1_).alloc _).on hb
              have b2_ : Blk w11 (w10.heap.size) 23 #[.int .i64 x2, .int .i64 y2] := (Blk.new _ _ _).on hb
              have hbz := hb.size
              have HB11 := Lib.hid (((HB10.out).alloc (by first | exact Nat.le_refl _ | omega | (simp; done) | (simp; omega)) _).trans (hb.mono (by first | exact Nat.le_refl _ | omega | (simp; done) | (simp; omega))))
              have hz11 : w.heap.size ≤ w11.heap.size := HB11.out.size
              clear hb hbz
              go_wp2_with fail
              go_ret
              exact ⟨rfl, HB11.out⟩
          · have hb1 : (e1 != 0) = true := by rw [bne_iff_ne]; exact h1
            clear h1
            go_wp2_with fail
            refine (qawake_any _ (HX.out.below ((HB10.out).alloc (by first | exact Nat.le_refl _ | omega | (simp; done) | (simp; omega)) _))).mono ?_
            rintro e w11 ⟨rfl, hb⟩
            clear q_ba0 q_ba1 q_bb0 q_bb1 q_bc0 q_bc1 q_bd0 q_bd1 q_b1_0 q_b1_1 l_ba l_bb l_bc l_bd l_b1_
            have ba : Blk w11 (w.heap.size) 23 #[.int .i64 a1, .int .i64 a2] := ((ba).alloc _).on hb
            have bb : Blk w11 (w.heap.size + 1) 23 #[.int .i64 b1, .int .i64 b2] := ((bb).alloc _).on hb
            have bc : Blk w11 (w.heap.size + 2) 23 #[.int .i64 c1, .int .i64 c2] := ((bc).alloc _).on hb
            have bd : Blk w11 (w5.heap.size) 23 #[.int .i64 x, .int .i64 y] := ((bd).alloc _).on hb
            have b1_ : Blk w11 (w9.heap.size) 23 #[.int .i64 x1, .int .i64 y1] := ((b1_).alloc _).on hb
            have b2_ : Blk w11 (w10.heap.size) 23 #[.int .i64 x2, .int .i64 y2] := (Blk.new _ _ _).on hb
            have hbz := hb.size
            have HB11 := Lib.hid (((HB10.out).alloc (by first | exact Nat.le_refl _ | omega | (simp; done) | (simp; omega)) _).trans (hb.mono (by first | exact Nat.le_refl _ | omega | (simp; done) | (simp; omega))))
            have hz11 : w.heap.size ≤ w11.heap.size := HB11.out.size
            clear hb hbz
            go_wp2_with fail
            go_ret
            exact ⟨rfl, HB11.out⟩
      · clear hvc
        have dz : decide (z ≤ 0) = false := decide_eq_false hz0
        go_wp2_with fail
        refine (CA.out _).mono ?_
        rintro e w8 ⟨rfl, hb⟩
        clear q_ba0 q_ba1 q_bb0 q_bb1 q_bc0 q_bc1 q_bd0 q_bd1 l_ba l_bb l_bc l_bd
        have ba : Blk w8 (w.heap.size) 23 #[.int .i64 a1, .int .i64 a2] := (ba).on hb
        have bb : Blk w8 (w.heap.size + 1) 23 #[.int .i64 b1, .int .i64 b2] := (bb).on hb
        have bc : Blk w8 (w.heap.size + 2) 23 #[.int .i64 c1, .int .i64 c2] := (bc).on hb
        have bd : Blk w8 (w5.heap.size) 23 #[.int .i64 x, .int .i64 y] := (bd).on hb
        have hbz := hb.size
        have HB8 := Lib.hid ((HB7.out).trans (hb.mono (by first | exact Nat.le_refl _ | omega | (simp; done) | (simp; omega))))
        have hz8 : w.heap.size ≤ w8.heap.size := HB8.out.size
        clear hb hbz
        simp only [tupR, agg2]
        have q_ba0 : w8.cell? ⟨w.heap.size, 0, none⟩ = some (.int .i64 a1) := ba.cell 0
        have q_ba1 : w8.cell? ⟨w.heap.size, 1, none⟩ = some (.int .i64 a2) := ba.cell 1
        have q_bb0 : w8.cell? ⟨w.heap.size + 1, 0, none⟩ = some (.int .i64 b1) := bb.cell 0
        have q_bb1 : w8.cell? ⟨w.heap.size + 1, 1, none⟩ = some (.int .i64 b2) := bb.cell 1
        have q_bc0 : w8.cell? ⟨w.heap.size + 2, 0, none⟩ = some (.int .i64 c1) := bc.cell 0
        have q_bc1 : w8.cell? ⟨w.heap.size + 2, 1, none⟩ = some (.int .i64 c2) := bc.cell 1
        have q_bd0 : w8.cell? ⟨w5.heap.size, 0, none⟩ = some (.int .i64 x) := bd.cell 0
        have q_bd1 : w8.cell? ⟨w5.heap.size, 1, none⟩ = some (.int .i64 y) := bd.cell 1
        have l_ba : w.heap.size < w8.heap.size := ba.lt
        have l_bb : w.heap.size + 1 < w8.heap.size := bb.lt
        have l_bc : w.heap.size + 2 < w8.heap.size := bc.lt
        have l_bd : w5.heap.size < w8.heap.size := bd.lt
        go_wp2_with fail
        refine (CB.out _).mono ?_
        rintro e w9 ⟨rfl, hb⟩
        clear q_ba0 q_ba1 q_bb0 q_bb1 q_bc0 q_bc1 q_bd0 q_bd1 l_ba l_bb l_bc l_bd
        have ba : Blk w9 (w.heap.size) 23 #[.int .i64 a1, .int .i64 a2] := ((ba).alloc _).on hb
        have bb : Blk w9 (w.heap.size + 1) 23 #[.int .i64 b1, .int .i64 b2] := ((bb).alloc _).on hb
        have bc : Blk w9 (w.heap.size + 2) 23 #[.int .i64 c1, .int .i64 c2] := ((bc).alloc _).on hb
        have bd : Blk w9 (w5.heap.size) 23 #[.int .i64 x, .int .i64 y] := ((bd).alloc _).on hb
        have b1_ : Blk w9 (w8.heap.size) 23 #[.int .i64 x1, .int .i64 y1] := (Blk.new _ _ _).on hb
        have hbz := hb.size
        have HB9 := Lib.hid (((HB8.out).alloc (by first | exact Nat.le_refl _ | omega | (simp; done) | (simp; omega)) _).trans (hb.mono (by first | exact Nat.le_refl _ | omega | (simp; done) | (simp; omega))))
        have hz9 : w.heap.size ≤ w9.heap.size := HB9.out.size
        clear hb hbz
        simp only [tupR, agg2]
        have q_ba0 : w9.cell? ⟨w.heap.size, 0, none⟩ = some (.int .i64 a1) := ba.cell 0
        have q_ba1 : w9.cell? ⟨w.heap.size, 1, none⟩ = some (.int .i64 a2) := ba.cell 1
        have q_bb0 : w9.cell? ⟨w.heap.size + 1, 0, none⟩ = some (.int .i64 b1) := bb.cell 0
        have q_bb1 : w9.cell? ⟨w.heap.size + 1, 1, none⟩ = some (.int .i64 b2) := bb.cell 1
        have q_bc0 : w9.cell? ⟨w.heap.size + 2, 0, none⟩ = some (.int .i64 c1) := bc.cell 0
        have q_bc1 : w9.cell? ⟨w.heap.size + 2, 1, none⟩ = some (.int .i64 c2) := bc.cell 1
        have q_bd0 : w9.cell? ⟨w5.heap.size, 0, none⟩ = some (.int .i64 x) := bd.cell 0
        have q_bd1 : w9.cell? ⟨w5.heap.size, 1, none⟩ = some (.int .i64 y) := bd.cell 1
        have q_b1_0 : w9.cell? ⟨w8.heap.size, 0, none⟩ = some (.int .i64 x1) := b1_.cell 0
        have q_b1_1 : w9.cell? ⟨w8.heap.size, 1, none⟩ = some (.int .i64 y1) := b1_.cell 1
        have l_ba : w.heap.size < w9.heap.size := ba.lt
        have l_bb : w.heap.size + 1 < w9.heap.size := bb.lt
        have l_bc : w.heap.size + 2 < w9.heap.size := bc.lt
        have l_bd : w5.heap.size < w9.heap.size := bd.lt
        have l_b1_ : w8.heap.size < w9.heap.size := b1_.lt
        by_cases h1 : e1 = 0
        · subst h1
          by_cases h2 : e2 = 0
          · subst h2
            have HC := Lib.hid ((HA.out _ _ rfl rfl).trans HZ.out)
            go_wp2_with fail
            refine (qCmp_any _ _ _ _ _).mono ?_
            rintro e w10 ⟨rfl, hb⟩
            clear q_ba0 q_ba1 q_bb0 q_bb1 q_bc0 q_bc1 q_bd0 q_bd1 q_b1_0 q_b1_1 l_ba l_bb l_bc l_bd l_b1_
            have ba : Blk w10 (w.heap.size) 23 #[.int .i64 a1, .int .i64 a2] := ((ba).alloc _).on hb
            have bb : Blk w10 (w.heap.size + 1) 23 #[.int .i64 b1, .int .i64 b2] := ((bb).alloc _).on hb
            have bc : Blk w10 (w.heap.size + 2) 23 #[.int .i64 c1, .int .i64 c2] := ((bc).alloc _).on hb
            have bd : Blk w10 (w5.heap.size) 23 #[.int .i64 x, .int .i64 y] := ((bd).alloc _).on hb
            have b1_ : Blk w10 (w8.heap.size) 23 #[.int .i64 x1, .int .i64 y1] := ((b1_).alloc _).on hb
            have b2_ : Blk w10 (w9.heap.size) 23 #[.int .i64 x2, .int .i64 y2] := (Blk.new _ _ _).on hb
            have hbz := hb.size
            have HB10 := Lib.hid (((HB9.out).alloc (by first | exact Nat.le_refl _ | omega | (simp; done) | (simp; omega)) _).trans (hb.mono (by first | exact Nat.le_refl _ | omega | (simp; done) | (simp; omega))))
            have hz10 : w.heap.size ≤ w10.heap.size := HB10.out.size
            clear hb hbz
            rw [show cmR x1 y1 x2 y2 = z from HC.out]
            go_wp2_with fail
            refine (qawake_any _ (HX.out.below (HB10.out))).mono ?_
            rintro e w11 ⟨rfl, hb⟩
            have ba : Blk w11 (w.heap.size) 23 #[.int .i64 a1, .int .i64 a2] := (ba).on hb
            have bb : Blk w11 (w.heap.size + 1) 23 #[.int .i64 b1, .int .i64 b2] := (bb).on hb
            have bc : Blk w11 (w.heap.size + 2) 23 #[.int .i64 c1, .int .i64 c2] := (bc).on hb
            have bd : Blk w11 (w5.heap.size) 23 #[.int .i64 x, .int .i64 y] := (bd).on hb
            have b1_ : Blk w11 (w8.heap.size) 23 #[.int .i64 x1, .int .i64 y1] := (b1_).on hb
            have b2_ : Blk w11 (w9.heap.size) 23 #[.int .i64 x2, .int .i64 y2] := (b2_).on hb
            have hbz := hb.size
            have HB11 := Lib.hid ((HB10.out).trans (hb.mono (by first | exact Nat.le_refl _ | omega | (simp; done) | (simp; omega))))
            have hz11 : w.heap.size ≤ w11.heap.size := HB11.out.size
            clear hb hbz
            go_wp2_with fail
            go_ret
            exact ⟨rfl, HB11.out⟩
          · have hb2 : (e2 != 0) = true := by rw [bne_iff_ne]; exact h2
            clear h2
            go_wp2_with fail
            refine (qawake_any _ (HX.out.below ((HB9.out).alloc (by first | exact Nat.le_refl _ | omega | (simp; done) | (simp; omega)) _))).mono ?_
            rintro e w10 ⟨rfl, hb⟩
            clear q_ba0 q_ba1 q_bb0 q_bb1 q_bc0 q_bc1 q_bd0 q_bd1 q_b1_0 q_b1_1 l_ba l_bb l_bc l_bd l_b1_
            have ba : Blk w10 (w.heap.size) 23 #[.int .i64 a1, .int .i64 a2] := ((ba).alloc _).on hb
            have bb : Blk w10 (w.heap.size + 1) 23 #[.int .i64 b1, .int .i64 b2] := ((bb).alloc _).on hb
            have bc : Blk w10 (w.heap.size + 2) 23 #[.int .i64 c1, .int .i64 c2] := ((bc).alloc _).on hb
            have bd : Blk w10 (w5.heap.size) 23 #[.int .i64 x, .int .i64 y] := ((bd).alloc _).on hb
            have b1_ : Blk w10 (w8.heap.size) 23 #[.int .i64 x1, .int .i64 y1] := ((b1_).alloc _).on hb
            have b2_ : Blk w10 (w9.heap.size) 23 #[.int .i64 x2, .int .i64 y2] := (Blk.new _ _ _).on hb
            have hbz := hb.size
            have HB10 := Lib.hid (((HB9.out).alloc (by first | exact Nat.le_refl _ | omega | (simp; done) | (simp; omega)) _).trans (hb.mono (by first | exact Nat.le_refl _ | omega | (simp; done) | (simp; omega))))
            have hz10 : w.heap.size ≤ w10.heap.size := HB10.out.size
            clear hb hbz
            go_wp2_with fail
            go_ret
            exact ⟨rfl, HB10.out⟩
        · have hb1 : (e1 != 0) = true := by rw [bne_iff_ne]; exact h1
          clear h1
          go_wp2_with fail
          refine (qawake_any _ (HX.out.below ((HB9.out).alloc (by first | exact Nat.le_refl _ | omega | (simp; done) | (simp; omega)) _))).mono ?_
          rintro e w10 ⟨rfl, hb⟩
          clear q_ba0 q_ba1 q_bb0 q_bb1 q_bc0 q_bc1 q_bd0 q_bd1 q_b1_0 q_b1_1 l_ba l_bb l_bc l_bd l_b1_
          have ba : Blk w10 (w.heap.size) 23 #[.int .i64 a1, .int .i64 a2] := ((ba).alloc _).on hb
          have bb : Blk w10 (w.heap.size + 1) 23 #[.int .i64 b1, .int .i64 b2] := ((bb).alloc _).on hb
          have bc : Blk w10 (w.heap.size + 2) 23 #[.int .i64 c1, .int .i64 c2] := ((bc).alloc _).on hb
          have bd : Blk w10 (w5.heap.size) 23 #[.int .i64 x, .int .i64 y] := ((bd).alloc _).on hb
          have b1_ : Blk w10 (w8.heap.size) 23 #[.int .i64 x1, .int .i64 y1] := ((b1_).alloc _).on hb
          have b2_ : Blk w10 (w9.heap.size) 23 #[.int .i64 x2, .int .i64 y2] := (Blk.new _ _ _).on hb
          have hbz := hb.size
          have HB10 := Lib.hid (((HB9.out).alloc (by first | exact Nat.le_refl _ | omega | (simp; done) | (simp; omega)) _).trans (hb.mono (by first | exact Nat.le_refl _ | omega | (simp; done) | (simp; omega))))
          have hz10 : w.heap.size ≤ w10.heap.size := HB10.out.size
          clear hb hbz
          go_wp2_with fail
          go_ret
          exact ⟨rfl, HB10.out⟩
  · skip
    have hb : (e == 0) = false := beq_eq_false_iff_ne.2 he
    clear he
    go_wp2_with fail
    refine (qValid_any c1 c2 _).mono ?_
    rintro e w6 ⟨rfl, hb⟩
    clear q_ba0 q_ba1 q_bb0 q_bb1 q_bc0 q_bc1 l_ba l_bb l_bc
    have ba : Blk w6 (w.heap.size) 23 #[.int .i64 a1, .int .i64 a2] := ((ba).alloc _).on hb
    have bb : Blk w6 (w.heap.size + 1) 23 #[.int .i64 b1, .int .i64 b2] := ((bb).alloc _).on hb
    have bc : Blk w6 (w.heap.size + 2) 23 #[.int .i64 c1, .int .i64 c2] := ((bc).alloc _).on hb
    have bd : Blk w6 (w5.heap.size) 23 #[.int .i64 x, .int .i64 y] := (Blk.new _ _ _).on hb
    have hbz := hb.size
    have HB6 := Lib.hid (((HB5.out).alloc (by first | exact Nat.le_refl _ | omega | (simp; done) | (simp; omega)) _).trans (hb.mono (by first | exact Nat.le_refl _ | omega | (simp; done) | (simp; omega))))
    have hz6 : w.heap.size ≤ w6.heap.size := HB6.out.size
    clear hb hbz
    have q_ba0 : w6.cell? ⟨w.heap.size, 0, none⟩ = some (.int .i64 a1) := ba.cell 0
    have q_ba1 : w6.cell? ⟨w.heap.size, 1, none⟩ = some (.int .i64 a2) := ba.cell 1
    have q_bb0 : w6.cell? ⟨w.heap.size + 1, 0, none⟩ = some (.int .i64 b1) := bb.cell 0
    have q_bb1 : w6.cell? ⟨w.heap.size + 1, 1, none⟩ = some (.int .i64 b2) := bb.cell 1
    have q_bc0 : w6.cell? ⟨w.heap.size + 2, 0, none⟩ = some (.int .i64 c1) := bc.cell 0
    have q_bc1 : w6.cell? ⟨w.heap.size + 2, 1, none⟩ = some (.int .i64 c2) := bc.cell 1
    have q_bd0 : w6.cell? ⟨w5.heap.size, 0, none⟩ = some (.int .i64 x) := bd.cell 0
    have q_bd1 : w6.cell? ⟨w5.heap.size, 1, none⟩ = some (.int .i64 y) := bd.cell 1
    have l_ba : w.heap.size < w6.heap.size := ba.lt
    have l_bb : w.heap.size + 1 < w6.heap.size := bb.lt
    have l_bc : w.heap.size + 2 < w6.heap.size := bc.lt
    have l_bd : w5.heap.size < w6.heap.size := bd.lt
    cases hvc : vR c1 c2
    · skip
      go_wp2_with fail
      refine (qawake_any _ (HX.out.below (HB6.out))).mono ?_
      rintro e w7 ⟨rfl, hb⟩
      clear q_ba0 q_ba1 q_bb0 q_bb1 q_bc0 q_bc1 q_bd0 q_bd1 l_ba l_bb l_bc l_bd
      have ba : Blk w7 (w.heap.size) 23 #[.int .i64 a1, .int .i64 a2] := (ba).on hb
      have bb : Blk w7 (w.heap.size + 1) 23 #[.int .i64 b1, .int .i64 b2] := (bb).on hb
      have bc : Blk w7 (w.heap.size + 2) 23 #[.int .i64 c1, .int .i64 c2] := (bc).on hb
      have bd : Blk w7 (w5.heap.size) 23 #[.int .i64 x, .int .i64 y] := (bd).on hb
      have hbz := hb.size
      have HB7 := Lib.hid ((HB6.out).trans (hb.mono (by first | exact Nat.le_refl _ | omega | (simp; done) | (simp; omega))))
      have hz7 : w.heap.size ≤ w7.heap.size := HB7.out.size
      clear hb hbz
      go_wp2_with fail
      go_ret
      exact ⟨rfl, HB7.out⟩
    · by_cases hz0 : z ≤ 0
      · obtain ⟨u, hu⟩ : ∃ u, cmR b1 b2 c1 c2 = u := ⟨_, rfl⟩
        have HU := Lib.hid hu
        have HT := Lib.hid (fun h => cm_trans (c1 := c1) (c2 := c2) H1.out H2.out hvc (by rw [HZ.out]; exact hz0) (by rw [HU.out]; exact h))
        clear hu hvc
        go_wp2_with fail
        refine (qCmp_any _ _ _ _ _).mono ?_
        rintro e w7 ⟨rfl, hb⟩
        clear q_ba0 q_ba1 q_bb0 q_bb1 q_bc0 q_bc1 q_bd0 q_bd1 l_ba l_bb l_bc l_bd
        have ba : Blk w7 (w.heap.size) 23 #[.int .i64 a1, .int .i64 a2] := (ba).on hb
        have bb : Blk w7 (w.heap.size + 1) 23 #[.int .i64 b1, .int .i64 b2] := (bb).on hb
        have bc : Blk w7 (w.heap.size + 2) 23 #[.int .i64 c1, .int .i64 c2] := (bc).on hb
        have bd : Blk w7 (w5.heap.size) 23 #[.int .i64 x, .int .i64 y] := (bd).on hb
        have hbz := hb.size
        have HB7 := Lib.hid ((HB6.out).trans (hb.mono (by first | exact Nat.le_refl _ | omega | (simp; done) | (simp; omega))))
        have hz7 : w.heap.size ≤ w7.heap.size := HB7.out.size
        clear hb hbz
        rw [HU.out]
        have q_ba0 : w7.cell? ⟨w.heap.size, 0, none⟩ = some (.int .i64 a1) := ba.cell 0
        have q_ba1 : w7.cell? ⟨w.heap.size, 1, none⟩ = some (.int .i64 a2) := ba.cell 1
        have q_bb0 : w7.cell? ⟨w.heap.size + 1, 0, none⟩ = some (.int .i64 b1) := bb.cell 0
        have q_bb1 : w7.cell? ⟨w.heap.size + 1, 1, none⟩ = some (.int .i64 b2) := bb.cell 1
        have q_bc0 : w7.cell? ⟨w.heap.size + 2, 0, none⟩ = some (.int .i64 c1) := bc.cell 0
        have q_bc1 : w7.cell? ⟨w.heap.size + 2, 1, none⟩ = some (.int .i64 c2) := bc.cell 1
        have q_bd0 : w7.cell? ⟨w5.heap.size, 0, none⟩ = some (.int .i64 x) := bd.cell 0
        have q_bd1 : w7.cell? ⟨w5.heap.size, 1, none⟩ = some (.int .i64 y) := bd.cell 1
        have l_ba : w.heap.size < w7.heap.size := ba.lt
        have l_bb : w.heap.size + 1 < w7.heap.size := bb.lt
        have l_bc : w.heap.size + 2 < w7.heap.size := bc.lt
        have l_bd : w5.heap.size < w7.heap.size := bd.lt
        by_cases hu0 : u ≤ 0
        · skip
          have hv := HT.out hu0
          go_wp2_with fail
          refine (qCmp_any _ _ _ _ _).mono ?_
          rintro e w8 ⟨rfl, hb⟩
          clear q_ba0 q_ba1 q_bb0 q_bb1 q_bc0 q_bc1 q_bd0 q_bd1 l_ba l_bb l_bc l_bd
          have ba : Blk w8 (w.heap.size) 23 #[.int .i64 a1, .int .i64 a2] := (ba).on hb
          have bb : Blk w8 (w.heap.size + 1) 23 #[.int .i64 b1, .int .i64 b2] := (bb).on hb
          have bc : Blk w8 (w.heap.size + 2) 23 #[.int .i64 c1, .int .i64 c2] := (bc).on hb
          have bd : Blk w8 (w5.heap.size) 23 #[.int .i64 x, .int .i64 y] := (bd).on hb
          have hbz := hb.size
          have HB8 := Lib.hid ((HB7.out).trans (hb.mono (by first | exact Nat.le_refl _ | omega | (simp; done) | (simp; omega))))
          have hz8 : w.heap.size ≤ w8.heap.size := HB8.out.size
          clear hb hbz
          generalize cmR a1 a2 c1 c2 = v at *
          have q_ba0 : w8.cell? ⟨w.heap.size, 0, none⟩ = some (.int .i64 a1) := ba.cell 0
          have q_ba1 : w8.cell? ⟨w.heap.size, 1, none⟩ = some (.int .i64 a2) := ba.cell 1
          have q_bb0 : w8.cell? ⟨w.heap.size + 1, 0, none⟩ = some (.int .i64 b1) := bb.cell 0
          have q_bb1 : w8.cell? ⟨w.heap.size + 1, 1, none⟩ = some (.int .i64 b2) := bb.cell 1
          have q_bc0 : w8.cell? ⟨w.heap.size + 2, 0, none⟩ = some (.int .i64 c1) := bc.cell 0
          have q_bc1 : w8.cell? ⟨w.heap.size + 2, 1, none⟩ = some (.int .i64 c2) := bc.cell 1
          have q_bd0 : w8.cell? ⟨w5.heap.size, 0, none⟩ = some (.int .i64 x) := bd.cell 0
          have q_bd1 : w8.cell? ⟨w5.heap.size, 1, none⟩ = some (.int .i64 y) := bd.cell 1
          have l_ba : w.heap.size < w8.heap.size := ba.lt
          have l_bb : w.heap.size + 1 < w8.heap.size := bb.lt
          have l_bc : w.heap.size + 2 < w8.heap.size := bc.lt
          have l_bd : w5.heap.size < w8.heap.size := bd.lt
          go_wp2_with fail
          refine (CA.out _).mono ?_
          rintro e w9 ⟨rfl, hb⟩
          clear q_ba0 q_ba1 q_bb0 q_bb1 q_bc0 q_bc1 q_bd0 q_bd1 l_ba l_bb l_bc l_bd
          have ba : Blk w9 (w.heap.size) 23 #[.int .i64 a1, .int .i64 a2] := (ba).on hb
          have bb : Blk w9 (w.heap.size + 1) 23 #[.int .i64 b1, .int .i64 b2] := (bb).on hb
          have bc : Blk w9 (w.heap.size + 2) 23 #[.int .i64 c1, .int .i64 c2] := (bc).on hb
          have bd : Blk w9 (w5.heap.size) 23 #[.int .i64 x, .int .i64 y] := (bd).on hb
          have hbz := hb.size
          have HB9 := Lib.hid ((HB8.out).trans (hb.mono (by first | exact Nat.le_refl _ | omega | (simp; done) | (simp; omega))))
          have hz9 : w.heap.size ≤ w9.heap.size := HB9.out.size
          clear hb hbz
          simp only [tupR, agg2]
          have q_ba0 : w9.cell? ⟨w.heap.size, 0, none⟩ = some (.int .i64 a1) := ba.cell 0
          have q_ba1 : w9.cell? ⟨w.heap.size, 1, none⟩ = some (.int .i64 a2) := ba.cell 1
          have q_bb0 : w9.cell? ⟨w.heap.size + 1, 0, none⟩ = some (.int .i64 b1) := bb.cell 0
          have q_bb1 : w9.cell? ⟨w.heap.size + 1, 1, none⟩ = some (.int .i64 b2) := bb.cell 1
          have q_bc0 : w9.cell? ⟨w.heap.size + 2, 0, none⟩ = some (.int .i64 c1) := bc.cell 0
          have q_bc1 : w9.cell? ⟨w.heap.size + 2, 1, none⟩ = some (.int .i64 c2) := bc.cell 1
          have q_bd0 : w9.cell? ⟨w5.heap.size, 0, none⟩ = some (.int .i64 x) := bd.cell 0
          have q_bd1 : w9.cell? ⟨w5.heap.size, 1, none⟩ = some (.int .i64 y) := bd.cell 1
          have l_ba : w.heap.size < w9.heap.size := ba.lt
          have l_bb : w.heap.size + 1 < w9.heap.size := bb.lt
          have l_bc : w.heap.size + 2 < w9.heap.size := bc.lt
          have l_bd : w5.heap.size < w9.heap.size := bd.lt
          go_wp2_with fail
          refine (CB.out _).mono ?_
          rintro e w10 ⟨rfl, hb⟩
          clear q_ba0 q_ba1 q_bb0 q_bb1 q_bc0 q_bc1 q_bd0 q_bd1 l_ba l_bb l_bc l_bd
          have ba : Blk w10 (w.heap.size) 23 #[.int .i64 a1, .int .i64 a2] := ((ba).alloc _).on hb
          have bb : Blk w10 (w.heap.size + 1) 23 #[.int .i64 b1, .int .i64 b2] := ((bb).alloc _).on hb
          have bc : Blk w10 (w.heap.size + 2) 23 #[.int .i64 c1, .int .i64 c2] := ((bc).alloc _).on hb
          have bd : Blk w10 (w5.heap.size) 23 #[.int .i64 x, .int .i64 y] := ((bd).alloc _).on hb
          have b1_ : Blk w10 (w9.heap.size) 23 #[.int .i64 x1, .int .i64 y1] := (Blk.new _ _ _).on hb
          have hbz := hb.size
          have HB10 := Lib.hid (((HB9.out).alloc (by first | exact Nat.le_refl _ | omega | (simp; done) | (simp; omega)) _).trans (hb.mono (by first | exact Nat.le_refl _ | omega | (simp; done) | (simp; omega))))
          have hz10 : w.heap.size ≤ w10.heap.size := HB10.out.size
          clear hb hbz
          simp only [tupR, agg2]
          have q_ba0 : w10.cell? ⟨w.heap.size, 0, none⟩ = some (.int .i64 a1) := ba.cell 0
          have q_ba1 : w10.cell? ⟨w.heap.size, 1, none⟩ = some (.int .i64 a2) := ba.cell 1
          have q_bb0 : w10.cell? ⟨w.heap.size + 1, 0, none⟩ = some (.int .i64 b1) := bb.cell 0
          have q_bb1 : w10.cell? ⟨w.heap.size + 1, 1, none⟩ = some (.int .i64 b2) := bb.cell 1
          have q_bc0 : w10.cell? ⟨w.heap.size + 2, 0, none⟩ = some (.int .i64 c1) := bc.cell 0
          have q_bc1 : w10.cell? ⟨w.heap.size + 2, 1, none⟩ = some (.int .i64 c2) := bc.cell 1
          have q_bd0 : w10.cell? ⟨w5.heap.size, 0, none⟩ = some (.int .i64 x) := bd.cell 0
          have q_bd1 : w10.cell? ⟨w5.heap.size, 1, none⟩ = some (.int .i64 y) := bd.cell 1
          have q_b1_0 : w10.cell? ⟨w9.heap.size, 0, none⟩ = some (.int .i64 x1) := b1_.cell 0
          have q_b1_1 : w10.cell? ⟨w9.heap.size, 1, none⟩ = some (.int .i64 y1) := b1_.cell 1
          have l_ba : w.heap.size < w10.heap.size := ba.lt
          have l_bb : w.heap.size + 1 < w10.heap.size := bb.lt
          have l_bc : w.heap.size + 2 < w10.heap.size := bc.lt
          have l_bd : w5.heap.size < w10.heap.size := bd.lt
          have l_b1_ : w9.heap.size < w10.heap.size := b1_.lt
          by_cases h1 : e1 = 0
          · subst h1
            by_cases h2 : e2 = 0
            · subst h2
              have HC := Lib.hid ((HA.out _ _ rfl rfl).trans HZ.out)
              go_wp2_with fail
              refine (qCmp_any _ _ _ _ _).mono ?_
              rintro e w11 ⟨rfl, hb⟩
              clear q_ba0 q_ba1 q_bb0 q_bb1 q_bc0 q_bc1 q_bd0 q_bd1 q_b1_0 q_b1_1 l_ba l_bb l_bc l_bd l_b1_
              have ba : Blk w11 (w.heap.size) 23 #[.int .i64 a1, .int .i64 a2] := ((ba).alloc _).on hb
              have bb : Blk w11 (w.heap.size + 1) 23 #[.int .i64 b1, .int .i64 b2] := ((bb).alloc _).on hb
              have bc : Blk w11 (w.heap.size + 2) 23 #[.int .i64 c1, .int .i64 c2] := ((bc).alloc _).on hb
              have bd : Blk w11 (w5.heap.size) 23 #[.int .i64 x, .int .i64 y] := ((bd).alloc _).on hb
              have b1_ : Blk w11 (w9.heap.size) 23 #[.int .i64 x1, .int .i64 y1] := ((b1_).alloc _).on hb
              have b2_ : Blk w11 (w10.heap.size) 23 #[.int .i64 x2, .int .i64 y2] := (Blk.new _ _ _).on hb
              have hbz := hb.size
              have HB11 := Lib.hid (((HB10.out).alloc (by first | exact Nat.le_refl _ | omega | (simp; done) | (simp; omega)) _).trans (hb.mono (by first | exact Nat.le_refl _ | omega | (simp; done) | (simp; omega))))
              have hz11 : w.heap.size ≤ w11.heap.size := HB11.out.size
              clear hb hbz
              rw [show cmR x1 y1 x2 y2 = z from HC.out]
              go_wp2_with fail
              refine (qawake_any _ (HX.out.below (HB11.out))).mono ?_
              rintro e w12 ⟨rfl, hb⟩
              have ba : Blk w12 (w.heap.size) 23 #[.int .i64 a1, .int .i64 a2] := (ba).on hb
              have bb : Blk w12 (w.heap.size + 1) 23 #[.int .i64 b1, .int .i64 b2] := (bb).on hb
              have bc : Blk w12 (w.heap.size + 2) 23 #[.int .i64 c1, .int .i64 c2] := (bc).on hb
              have bd : Blk w12 (w5.heap.size) 23 #[.int .i64 x, .int .i64 y] := (bd).on hb
              have b1_ : Blk w12 (w9.heap.size) 23 #[.int .i64 x1, .int .i64 y1] := (b1_).on hb
              have b2_ : Blk w12 (w10.heap.size) 23 #[.int .i64 x2, .int .i64 y2] := (b2_).on hb
              have hbz := hb.size
              have HB12 := Lib.hid ((HB11.out).trans (hb.mono (by first | exact Nat.le_refl _ | omega | (simp; done) | (simp; omega))))
              have hz12 : w.heap.size ≤ w12.heap.size := HB12.out.size
              clear hb hbz
              go_wp2_with fail
              go_ret
              exact ⟨rfl, HB12.out⟩
            · have hb2 : (e2 != 0) = true := by rw [bne_iff_ne]; exact h2
              clear h2
              go_wp2_with fail
              refine (qawake_any _ (HX.out.below ((HB10.out).alloc (by first | exact Nat.le_refl _ | omega | (simp; done) | (simp; omega)) _))).mono ?_
              rintro e w11 ⟨rfl, hb⟩
              clear q_ba0 q_ba1 q_bb0 q_bb1 q_bc0 q_bc1 q_bd0 q_bd1 q_b1_0 q_b1_1 l_ba l_bb l_bc l_bd l_b1_
              have ba : Blk w11 (w.heap.size) 23 #[.int .i64 a1, .int .i64 a2] := ((ba).alloc _).on hb
              have bb : Blk w11 (w.heap.size + 1) 23 #[.int .i64 b1, .int .i64 b2] := ((bb).alloc _).on hb
              have bc : Blk w11 (w.heap.size + 2) 23 #[.int .i64 c1, .int .i64 c2] := ((bc).alloc _).on hb
              have bd : Blk w11 (w5.heap.size) 23 #[.int .i64 x, .int .i64 y] := ((bd).alloc _).on hb
              have b1_ : Blk w11 (w9.heap.size) 23 #[.int .i64 x1, .int .i64 y1] := ((b1_).alloc _).on hb
              have b2_ : Blk w11 (w10.heap.size) 23 #[.int .i64 x2, .int .i64 y2] := (Blk.new _ _ _).on hb
              have hbz := hb.size
              have HB11 := Lib.hid (((HB10.out).alloc (by first | exact Nat.le_refl _ | omega | (simp; done) | (simp; omega)) _).trans (hb.mono (by first | exact Nat.le_refl _ | omega | (simp; done) | (simp; omega))))
              have hz11 : w.heap.size ≤ w11.heap.size := HB11.out.size
              clear hb hbz
              go_wp2_with fail
              go_ret
              exact ⟨rfl, HB11.out⟩
          · have hb1 : (e1 != 0) = true := by rw [bne_iff_ne]; exact h1
            clear h1
            go_wp2_with fail
            refine (qawake_any _ (HX.out.below ((HB10.out).alloc (by first | exact Nat.le_refl _ | omega | (simp; done) | (simp; omega)) _))).mono ?_
            rintro e w11 ⟨rfl, hb⟩
            clear q_ba0 q_ba1 q_bb0 q_bb1 q_bc0 q_bc1 q_bd0 q_bd1 q_b1_0 q_b1_1 l_ba l_bb l_bc l_bd l_b1_
            have ba : Blk w11 (w.heap.size) 23 #[.int .i64 a1, .int .i64 a2] := ((ba).alloc _).on hb
            have bb : Blk w11 (w.heap.size + 1) 23 #[.int .i64 b1, .int .i64 b2] := ((bb).alloc _).on hb
            have bc : Blk w11 (w.heap.size + 2) 23 #[.int .i64 c1, .int .i64 c2] := ((bc).alloc _).on hb
            have bd : Blk w11 (w5.heap.size) 23 #[.int .i64 x, .int .i64 y] := ((bd).alloc _).on hb
            have b1_ : Blk w11 (w9.heap.size) 23 #[.int .i64 x1, .int .i64 y1] := ((b1_).alloc _).on hb
            have b2_ : Blk w11 (w10.heap.size) 23 #[.int .i64 x2, .int .i64 y2] := (Blk.new _ _ _).on hb
            have hbz := hb.size
            have HB11 := Lib.hid (((HB10.out).alloc (by first | exact Nat.le_refl _ | omega | (simp; done) | (simp; omega)) _).trans (hb.mono (by first | exact Nat.le_refl _ | omega | (simp; done) | (simp; omega))))
            have hz11 : w.heap.size ≤ w11.heap.size := HB11.out.size
            clear hb hbz
            go_wp2_with fail
            go_ret
            exact ⟨rfl, HB11.out⟩
        · have du : decide (u ≤ 0) = false := decide_eq_false hu0
          go_wp2_with fail
          refine (CA.out _).mono ?_
          rintro e w8 ⟨rfl, hb⟩
          clear q_ba0 q_ba1 q_bb0 q_bb1 q_bc0 q_bc1 q_bd0 q_bd1 l_ba l_bb l_bc l_bd
          have ba : Blk w8 (w.heap.size) 23 #[.int .i64 a1, .int .i64 a2] := (ba).on hb
          have bb : Blk w8 (w.heap.size + 1) 23 #[.int .i64 b1, .int .i64 b2] := (bb).on hb
          have bc : Blk w8 (w.heap.size + 2) 23 #[.int .i64 c1, .int .i64 c2] := (bc).on hb
          have bd : Blk w8 (w5.heap.size) 23 #[.int .i64 x, .int .i64 y] := (bd).on hb
          have hbz := hb.size
          have HB8 := Lib.hid ((HB7.out).trans (hb.mono (by first | exact Nat.le_refl _ | omega | (simp; done) | (simp; omega))))
          have hz8 : w.heap.size ≤ w8.heap.size := HB8.out.size
          clear hb hbz
          simp only [tupR, agg2]
          have q_ba0 : w8.cell? ⟨w.heap.size, 0, none⟩ = some (.int .i64 a1) := ba.cell 0
          have q_ba1 : w8.cell? ⟨w.heap.size, 1, none⟩ = some (.int .i64 a2) := ba.cell 1
          have q_bb0 : w8.cell? ⟨w.heap.size + 1, 0, none⟩ = some (.int .i64 b1) := bb.cell 0
          have q_bb1 : w8.cell? ⟨w.heap.size + 1, 1, none⟩ = some (.int .i64 b2) := bb.cell 1
          have q_bc0 : w8.cell? ⟨w.heap.size + 2, 0, none⟩ = some (.int .i64 c1) := bc.cell 0
          have q_bc1 : w8.cell? ⟨w.heap.size + 2, 1, none⟩ = some (.int .i64 c2) := bc.cell 1
          have q_bd0 : w8.cell? ⟨w5.heap.size, 0, none⟩ = some (.int .i64 x) := bd.cell 0
          have q_bd1 : w8.cell? ⟨w5.heap.size, 1, none⟩ = some (.int .i64 y) := bd.cell 1
          have l_ba : w.heap.size < w8.heap.size := ba.lt
          have l_bb : w.heap.size + 1 < w8.heap.size := bb.lt
          have l_bc : w.heap.size + 2 < w8.heap.size := bc.lt
          have l_bd : w5.heap.size < w8.heap.size := bd.lt
          go_wp2_with fail
          refine (CB.out _).mono ?_
          rintro e w9 ⟨rfl, hb⟩
          clear q_ba0 q_ba1 q_bb0 q_bb1 q_bc0 q_bc1 q_bd0 q_bd1 l_ba l_bb l_bc l_bd
          have ba : Blk w9 (w.heap.size) 23 #[.int .i64 a1, .int .i64 a2] := ((ba).alloc _).on hb
          have bb : Blk w9 (w.heap.size + 1) 23 #[.int .i64 b1, .int .i64 b2] := ((bb).alloc _).on hb
          have bc : Blk w9 (w.heap.size + 2) 23 #[.int .i64 c1, .int .i64 c2] := ((bc).alloc _).on hb
          have bd : Blk w9 (w5.heap.size) 23 #[.int .i64 x, .int .i64 y] := ((bd).alloc _).on hb
          have b1_ : Blk w9 (w8.heap.size) 23 #[.int .i64 x1, .int .i64 y1] := (Blk.new _ _ _).on hb
          have hbz := hb.size
          have HB9 := Lib.hid (((HB8.out).alloc (by first | exact Nat.le_refl _ | omega | (simp; done) | (simp; omega)) _).trans (hb.mono (by first | exact Nat.le_refl _ | omega | (simp; done) | (simp; omega))))
          have hz9 : w.heap.size ≤ w9.heap.size := HB9.out.size
          clear hb hbz
          simp only [tupR, agg2]
          have q_ba0 : w9.cell? ⟨w.heap.size, 0, none⟩ = some (.int .i64 a1) := ba.cell 0
          have q_ba1 : w9.cell? ⟨w.heap.size, 1, none⟩ = some (.int .i64 a2) := ba.cell 1
          have q_bb0 : w9.cell? ⟨w.heap.size + 1, 0, none⟩ = some (.int .i64 b1) := bb.cell 0
          have q_bb1 : w9.cell? ⟨w.heap.size + 1, 1, none⟩ = some (.int .i64 b2) := bb.cell 1
          have q_bc0 : w9.cell? ⟨w.heap.size + 2, 0, none⟩ = some (.int .i64 c1) := bc.cell 0
          have q_bc1 : w9.cell? ⟨w.heap.size + 2, 1, none⟩ = some (.int .i64 c2) := bc.cell 1
          have q_bd0 : w9.cell? ⟨w5.heap.size, 0, none⟩ = some (.int .i64 x) := bd.cell 0
          have q_bd1 : w9.cell? ⟨w5.heap.size, 1, none⟩ = some (.int .i64 y) := bd.cell 1
          have q_b1_0 : w9.cell? ⟨w8.heap.size, 0, none⟩ = some (.int .i64 x1) := b1_.cell 0
          have q_b1_1 : w9.cell? ⟨w8.heap.size, 1, none⟩ = some (.int .i64 y1) := b1_.cell 1
          have l_ba : w.heap.size < w9.heap.size := ba.lt
          have l_bb : w.heap.size + 1 < w9.heap.size := bb.lt
          have l_bc : w.heap.size + 2 < w9.heap.size := bc.lt
          have l_bd : w5.heap.size < w9.heap.size := bd.lt
          have l_b1_ : w8.heap.size < w9.heap.size := b1_.lt
          by_cases h1 : e1 = 0
          · subst h1
            by_cases h2 : e2 = 0
            · subst h2
              have HC := Lib.hid ((HA.out _ _ rfl rfl).trans HZ.out)
              go_wp2_with fail
              refine (qCmp_any _ _ _ _ _).mono ?_
              rintro e w10 ⟨rfl, hb⟩
              clear q_ba0 q_ba1 q_bb0 q_bb1 q_bc0 q_bc1 q_bd0 q_bd1 q_b1_0 q_b1_1 l_ba l_bb l_bc l_bd l_b1_
              have ba : Blk w10 (w.heap.size) 23 #[.int .i64 a1, .int .i64 a2] := ((ba).alloc _).on hb
              have bb : Blk w10 (w.heap.size + 1) 23 #[.int .i64 b1, .int .i64 b2] := ((bb).alloc _).on hb
              have bc : Blk w10 (w.heap.size + 2) 23 #[.int .i64 c1, .int .i64 c2] := ((bc).alloc _).on hb
              have bd : Blk w10 (w5.heap.size) 23 #[.int .i64 x, .int .i64 y] := ((bd).alloc _).on hb
              have b1_ : Blk w10 (w8.heap.size) 23 #[.int .i64 x1, .int .i64 y1] := ((b1_).alloc _).on hb
              have b2_ : Blk w10 (w9.heap.size) 23 #[.int .i64 x2, .int .i64 y2] := (Blk.new _ _ _).on hb
              have hbz := hb.size
              have HB10 := Lib.hid (((HB9.out).alloc (by first | exact Nat.le_refl _ | omega | (simp; done) | (simp; omega)) _).trans (hb.mono (by first | exact Nat.le_refl _ | omega | (simp; done) | (simp; omega))))
              have hz10 : w.heap.size ≤ w10.heap.size := HB10.out.size
              clear hb hbz
              rw [show cmR x1 y1 x2 y2 = z from HC.out]
              go_wp2_with fail
              refine (qawake_any _ (HX.out.below (HB10.out))).mono ?_
              rintro e w11 ⟨rfl, hb⟩
              have ba : Blk w11 (w.heap.size) 23 #[.int .i64 a1, .int .i64 a2] := (ba).on hb
              have bb : Blk w11 (w.heap.size + 1) 23 #[.int .i64 b1, .int .i64 b2] := (bb).on hb
              have bc : Blk w11 (w.heap.size + 2) 23 #[.int .i64 c1, .int .i64 c2] := (bc).on hb
              have bd : Blk w11 (w5.heap.size) 23 #[.int .i64 x, .int .i64 y] := (bd).on hb
              have b1_ : Blk w11 (w8.heap.size) 23 #[.int .i64 x1, .int .i64 y1] := (b1_).on hb
              have b2_ : Blk w11 (w9.heap.size) 23 #[.int .i64 x2, .int .i64 y2] := (b2_).on hb
              have hbz := hb.size
              have HB11 := Lib.hid ((HB10.out).trans (hb.mono (by first | exact Nat.le_refl _ | omega | (simp; done) | (simp; omega))))
              have hz11 : w.heap.size ≤ w11.heap.size := HB11.out.size
              clear hb hbz
              go_wp2_with fail
              go_ret
              exact ⟨rfl, HB11.out⟩
            · have hb2 : (e2 != 0) = true := by rw [bne_iff_ne]; exact h2
              clear h2
              go_wp2_with fail
              refine (qawake_any _ (HX.out.below ((HB9.out).alloc (by first | exact Nat.le_refl _ | omega | (simp; done) | (simp; omega)) _))).mono ?_
              rintro e w10 ⟨rfl, hb⟩
              clear q_ba0 q_ba1 q_bb0 q_bb1 q_bc0 q_bc1 q_bd0 q_bd1 q_b1_0 q_b1_1 l_ba l_bb l_bc l_bd l_b1_
              have ba : Blk w10 (w.heap.size) 23 #[.int .i64 a1, .int .i64 a2] := ((ba).alloc _).on hb
              have bb : Blk w10 (w.heap.size + 1) 23 #[.int .i64 b1, .int .i64 b2] := ((bb).alloc _).on hb
              have bc : Blk w10 (w.heap.size + 2) 23 #[.int .i64 c1, .int .i64 c2] := ((bc).alloc _).on hb
              have bd : Blk w10 (w5.heap.size) 23 #[.int .i64 x, .int .i64 y] := ((bd).alloc _).on hb
              have b1_ : Blk w10 (w8.heap.size) 23 #[.int .i64 x1, .int .i64 y1] := ((b1_).alloc _).on hb
              have b2_ : Blk w10 (w9.heap.size) 23 #[.int .i64 x2, .int .i64 y2] := (Blk.new _ _ _).on hb
              have hbz := hb.size
              have HB10 := Lib.hid (((HB9.out).alloc (by first | exact Nat.le_refl _ | omega | (simp; done) | (simp; omega)) _).trans (hb.mono (by first | exact Nat.le_refl _ | omega | (simp; done) | (simp; omega))))
              have hz10 : w.heap.size ≤ w10.heap.size := HB10.out.size
              clear hb hbz
              go_wp2_with fail
              go_ret
              exact ⟨rfl, HB10.out⟩
          · have hb1 : (e1 != 0) = true := by rw [bne_iff_ne]; exact h1
            clear h1
            go_wp2_with fail
            refine (qawake_any _ (HX.out.below ((HB9.out).alloc (by first | exact Nat.le_refl _ | omega | (simp; done) | (simp; omega)) _))).mono ?_
            rintro e w10 ⟨rfl, hb⟩
            clear q_ba0 q_ba1 q_bb0 q_bb1 q_bc0 q_bc1 q_bd0 q_bd1 q_b1_0 q_b1_1 l_ba l_bb l_bc l_bd l_b1_
            have ba : Blk w10 (w.heap.size) 23 #[.int .i64 a1, .int .i64 a2] := ((ba).alloc _).on hb
            have bb : Blk w10 (w.heap.size + 1) 23 #[.int .i64 b1, .int .i64 b2] := ((bb).alloc _).on hb
            have bc : Blk w10 (w.heap.size + 2) 23 #[.int .i64 c1, .int .i64 c2] := ((bc).alloc _).on hb
            have bd : Blk w10 (w5.heap.size) 23 #[.int .i64 x, .int .i64 y] := ((bd).alloc _).on hb
            have b1_ : Blk w10 (w8.heap.size) 23 #[.int .i64 x1, .int .i64 y1] := ((b1_).alloc _).on hb
            have b2_ : Blk w10 (w9.heap.size) 23 #[.int .i64 x2, .int .i64 y2] := (Blk.new _ _ _).on hb
            have hbz := hb.size
            have HB10 := Lib.hid (((HB9.out).alloc (by first | exact Nat.le_refl _ | omega | (simp; done) | (simp; omega)) _).trans (hb.mono (by first | exact Nat.le_refl _ | omega | (simp; done) | (simp; omega))))
            have hz10 : w.heap.size ≤ w10.heap.size := HB10.out.size
            clear hb hbz
            go_wp2_with fail
            go_ret
            exact ⟨rfl, HB10.out⟩
      · clear hvc
        have dz : decide (z ≤ 0) = false := decide_eq_false hz0
        go_wp2_with fail
        refine (CA.out _).mono ?_
        rintro e w7 ⟨rfl, hb⟩
        clear q_ba0 q_ba1 q_bb0 q_bb1 q_bc0 q_bc1 q_bd0 q_bd1 l_ba l_bb l_bc l_bd
        have ba : Blk w7 (w.heap.size) 23 #[.int .i64 a1, .int .i64 a2] := (ba).on hb
        have bb : Blk w7 (w.heap.size + 1) 23 #[.int .i64 b1, .int .i64 b2] := (bb).on hb
        have bc : Blk w7 (w.heap.size + 2) 23 #[.int .i64 c1, .int .i64 c2] := (bc).on hb
        have bd : Blk w7 (w5.heap.size) 23 #[.int .i64 x, .int .i64 y] := (bd).on hb
        have hbz := hb.size
        have HB7 := Lib.hid ((HB6.out).trans (hb.mono (by first | exact Nat.le_refl _ | omega | (simp; done) | (simp; omega))))
        have hz7 : w.heap.size ≤ w7.heap.size := HB7.out.size
        clear hb hbz
        simp only [tupR, agg2]
        have q_ba0 : w7.cell? ⟨w.heap.size, 0, none⟩ = some (.int .i64 a1) := ba.cell 0
        have q_ba1 : w7.cell? ⟨w.heap.size, 1, none⟩ = some (.int .i64 a2) := ba.cell 1
        have q_bb0 : w7.cell? ⟨w.heap.size + 1, 0, none⟩ = some (.int .i64 b1) := bb.cell 0
        have q_bb1 : w7.cell? ⟨w.heap.size + 1, 1, none⟩ = some (.int .i64 b2) := bb.cell 1
        have q_bc0 : w7.cell? ⟨w.heap.size + 2, 0, none⟩ = some (.int .i64 c1) := bc.cell 0
        have q_bc1 : w7.cell? ⟨w.heap.size + 2, 1, none⟩ = some (.int .i64 c2) := bc.cell 1
        have q_bd0 : w7.cell? ⟨w5.heap.size, 0, none⟩ = some (.int .i64 x) := bd.cell 0
        have q_bd1 : w7.cell? ⟨w5.heap.size, 1, none⟩ = some (.int .i64 y) := bd.cell 1
        have l_ba : w.heap.size < w7.heap.size := ba.lt
        have l_bb : w.heap.size + 1 < w7.heap.size := bb.lt
        have l_bc : w.heap.size + 2 < w7.heap.size := bc.lt
        have l_bd : w5.heap.size < w7.heap.size := bd.lt
        go_wp2_with fail
        refine (CB.out _).mono ?_
        rintro e w8 ⟨rfl, hb⟩
        clear q_ba0 q_ba1 q_bb0 q_bb1 q_bc0 q_bc1 q_bd0 q_bd1 l_ba l_bb l_bc l_bd
        have ba : Blk w8 (w.heap.size) 23 #[.int .i64 a1, .int .i64 a2] := ((ba).alloc _).on hb
        have bb : Blk w8 (w.heap.size + 1) 23 #[.int .i64 b1, .int .i64 b2] := ((bb).alloc _).on hb
        have bc : Blk w8 (w.heap.size + 2) 23 #[.int .i64 c1, .int .i64 c2] := ((bc).alloc _).on hb
        have bd : Blk w8 (w5.heap.size) 23 #[.int .i64 x, .int .i64 y] := ((bd).alloc _).on hb
        have b1_ : Blk w8 (w7.heap.size) 23 #[.int .i64 x1, .int .i64 y1] := (Blk.new _ _ _).on hb
        have hbz := hb.size
        have HB8 := Lib.hid (((HB7.out).alloc (by first | exact Nat.le_refl _ | omega | (simp; done) | (simp; omega)) _).trans (hb.mono (by first | exact Nat.le_refl _ | omega | (simp; done) | (simp; omega))))
        have hz8 : w.heap.size ≤ w8.heap.size := HB8.out.size
        clear hb hbz
        simp only [tupR, agg2]
        have q_ba0 : w8.cell? ⟨w.heap.size, 0, none⟩ = some (.int .i64 a1) := ba.cell 0
        have q_ba1 : w8.cell? ⟨w.heap.size, 1, none⟩ = some (.int .i64 a2) := ba.cell 1
        have q_bb0 : w8.cell? ⟨w.heap.size + 1, 0, none⟩ = some (.int .i64 b1) := bb.cell 0
        have q_bb1 : w8.cell? ⟨w.heap.size + 1, 1, none⟩ = some (.int .i64 b2) := bb.cell 1
        have q_bc0 : w8.cell? ⟨w.heap.size + 2, 0, none⟩ = some (.int .i64 c1) := bc.cell 0
        have q_bc1 : w8.cell? ⟨w.heap.size + 2, 1, none⟩ = some (.int .i64 c2) := bc.cell 1
        have q_bd0 : w8.cell? ⟨w5.heap.size, 0, none⟩ = some (.int .i64 x) := bd.cell 0
        have q_bd1 : w8.cell? ⟨w5.heap.size, 1, none⟩ = some (.int .i64 y) := bd.cell 1
        have q_b1_0 : w8.cell? ⟨w7.heap.size, 0, none⟩ = some (.int .i64 x1) := b1_.cell 0
        have q_b1_1 : w8.cell? ⟨w7.heap.size, 1, none⟩ = some (.int .i64 y1) := b1_.cell 1
        have l_ba : w.heap.size < w8.heap.size := ba.lt
        have l_bb : w.heap.size + 1 < w8.heap.size := bb.lt
        have l_bc : w.heap.size + 2 < w8.heap.size := bc.lt
        have l_bd : w5.heap.size < w8.heap.size := bd.lt
        have l_b1_ : w7.heap.size < w8.heap.size := b1_.lt
        by_cases h1 : e1 = 0
        · subst h1
          by_cases h2 : e2 = 0
          · subst h2
            have HC := Lib.hid ((HA.out _ _ rfl rfl).trans HZ.out)
            go_wp2_with fail
            refine (qCmp_any _ _ _ _ _).mono ?_
            rintro e w9 ⟨rfl, hb⟩
            clear q_ba0 q_ba1 q_bb0 q_bb1 q_bc0 q_bc1 q_bd0 q_bd1 q_b1_0 q_b1_1 l_ba l_bb l_bc l_bd l_b1_
            have ba : Blk w9 (w.heap.size) 23 #[.int .i64 a1, .int .i64 a2] := ((ba).alloc _).on hb
            have bb : Blk w9 (w.heap.size + 1) 23 #[.int .i64 b1, .int .i64 b2] := ((bb).alloc _).on hb
            have bc : Blk w9 (w.heap.size + 2) 23 #[.int .i64 c1, .int .i64 c2] := ((bc).alloc _).on hb
            have bd : Blk w9 (w5.heap.size) 23 #[.int .i64 x, .int .i64 y] := ((bd).alloc _).on hb
            have b1_ : Blk w9 (w7.heap.size) 23 #[.int .i64 x1, .int .i64 y1] := ((b1_).alloc _).on hb
            have b2_ : Blk w9 (w8.heap.size) 23 #[.int .i64 x2, .int .i64 y2] := (Blk.new _ _ _).on hb
            have hbz := hb.size
            have HB9 := Lib.hid (((HB8.out).alloc (by first | exact Nat.le_refl _ | omega | (simp; done) | (simp; omega)) _).trans (hb.mono (by first | exact Nat.le_refl _ | omega | (simp; done) | (simp; omega))))
            have hz9 : w.heap.size ≤ w9.heap.size := HB9.out.size
            clear hb hbz
            rw [show cmR x1 y1 x2 y2 = z from HC.out]
            go_wp2_with fail
            refine (qawake_any _ (HX.out.below (HB9.out))).mono ?_
            rintro e w10 ⟨rfl, hb⟩
            have ba : Blk w10 (w.heap.size) 23 #[.int .i64 a1, .int .i64 a2] := (ba).on hb
            have bb : Blk w10 (w.heap.size + 1) 23 #[.int .i64 b1, .int .i64 b2] := (bb).on hb
            have bc : Blk w10 (w.heap.size + 2) 23 #[.int .i64 c1, .int .i64 c2] := (bc).on hb
            have bd : Blk w10 (w5.heap.size) 23 #[.int .i64 x, .int .i64 y] := (bd).on hb
            have b1_ : Blk w10 (w7.heap.size) 23 #[.int .i64 x1, .int .i64 y1] := (b1_).on hb
            have b2_ : Blk w10 (w8.heap.size) 23 #[.int .i64 x2, .int .i64 y2] := (b2_).on hb
            have hbz := hb.size
            have HB10 := Lib.hid ((HB9.out).trans (hb.mono (by first | exact Nat.le_refl _ | omega | (simp; done) | (simp; omega))))
            have hz10 : w.heap.size ≤ w10.heap.size := HB10.out.size
            clear hb hbz
            go_wp2_with fail
            go_ret
            exact ⟨rfl, HB10.out⟩
          · have hb2 : (e2 != 0) = true := by rw [bne_iff_ne]; exact h2
            clear h2
            go_wp2_with fail
            refine (qawake_any _ (HX.out.below ((HB8.out).alloc (by first | exact Nat.le_refl _ | omega | (simp; done) | (simp; omega)) _))).mono ?_
            rintro e w9 ⟨rfl, hb⟩
            clear q_ba0 q_ba1 q_bb0 q_bb1 q_bc0 q_bc1 q_bd0 q_bd1 q_b1_0 q_b1_1 l_ba l_bb l_bc l_bd l_b1_
            have ba : Blk w9 (w.heap.size) 23 #[.int .i64 a1, .int .i64 a2] := ((ba).alloc _).on hb
            have bb : Blk w9 (w.heap.size + 1) 23 #[.int .i64 b1, .int .i64 b2] := ((bb).alloc _).on hb
            have bc : Blk w9 (w.heap.size + 2) 23 #[.int .i64 c1, .int .i64 c2] := ((bc).alloc _).on hb
            have bd : Blk w9 (w5.heap.size) 23 #[.int .i64 x, .int .i64 y] := ((bd).alloc _).on hb
            have b1_ : Blk w9 (w7.heap.size) 23 #[.int .i64 x1, .int .i64 y1] := ((b1_).alloc _).on hb
            have b2_ : Blk w9 (w8.heap.size) 23 #[.int .i64 x2, .int .i64 y2] := (Blk.new _ _ _).on hb
            have hbz := hb.size
            have HB9 := Lib.hid (((HB8.out).alloc (by first | exact Nat.le_refl _ | omega | (simp; done) | (simp; omega)) _).trans (hb.mono (by first | exact Nat.le_refl _ | omega | (simp; done) | (simp; omega))))
            have hz9 : w.heap.size ≤ w9.heap.size := HB9.out.size
            clear hb hbz
            go_wp2_with fail
            go_ret
            exact ⟨rfl, HB9.out⟩
        · have hb1 : (e1 != 0) = true := by rw [bne_iff_ne]; exact h1
          clear h1
          go_wp2_with fail
          refine (qawake_any _ (HX.out.below ((HB8.out).alloc (by first | exact Nat.le_refl _ | omega | (simp; done) | (simp; omega)) _))).mono ?_
          rintro e w9 ⟨rfl, hb⟩
          clear q_ba0 q_ba1 q_bb0 q_bb1 q_bc0 q_bc1 q_bd0 q_bd1 q_b1_0 q_b1_1 l_ba l_bb l_bc l_bd l_b1_
          have ba : Blk w9 (w.heap.size) 23 #[.int .i64 a1, .int .i64 a2] := ((ba).alloc _).on hb
          have bb : Blk w9 (w.heap.size + 1) 23 #[.int .i64 b1, .int .i64 b2] := ((bb).alloc _).on hb
          have bc : Blk w9 (w.heap.size + 2) 23 #[.int .i64 c1, .int .i64 c2] := ((bc).alloc _).on hb
          have bd : Blk w9 (w5.heap.size) 23 #[.int .i64 x, .int .i64 y] := ((bd).alloc _).on hb
          have b1_ : Blk w9 (w7.heap.size) 23 #[.int .i64 x1, .int .i64 y1] := ((b1_).alloc _).on hb
          have b2_ : Blk w9 (w8.heap.size) 23 #[.int .i64 x2, .int .i64 y2] := (Blk.new _ _ _).on hb
          have hbz := hb.size
          have HB9 := Lib.hid (((HB8.out).alloc (by first | exact Nat.le_refl _ | omega | (simp; done) | (simp; omega)) _).trans (hb.mono (by first | exact Nat.le_refl _ | omega | (simp; done) | (simp; omega))))
          have hz9 : w.heap.size ≤ w9.heap.size := HB9.out.size
          clear hb hbz
          go_wp2_with fail
          go_ret
          exact ⟨rfl, HB9.out⟩
theorem fl_prod {p q : Int} (h : vR p q = true) : flR p q * q ≤ p ∧ p - q < flR p q * q := by
  have hq := vR_pos h
  have := fl_le (p := p) hq
  unfold flR
  rw [if_pos h]
  rw [Int.add_mul] at this
  omega
theorem ce_prod {p q : Int} (h : vR p q = true) : p ≤ ceR p q * q ∧ ceR p q * q < p + q := by
  have hq := vR_pos h
  have := ce_ge (p := p) hq
  unfold ceR
  rw [if_pos h]
  rw [Int.sub_mul] at this
  omega
theorem ce_fl_test {p q : Int} (h : vR p q = true) : (ceR p q == flR p q) = (q == 1) := by
  rw [Bool.eq_iff_iff, beq_iff_eq, beq_iff_eq]
  exact (ce_fl h).2
theorem ce_bd (p q : Int) : -1000000001 ≤ ceR p q ∧ ceR p q ≤ 1000000001 := by
  have := fl_bd (-p) q
  rw [ce_fl']
  omega
set_option maxHeartbeats 8000000 in
set_option maxRecDepth 100000 in
theorem law_inverse (a1 a2 b1 b2 : Int) (w : World) (hX : LaidW w) :
    Calls Tryd.prog 8 #[.agg #[.int .i64 a1, .int .i64 a2], .agg #[.int .i64 b1, .int .i64 b2]] w fun e w' => e = .returned (.bool true) ∧ Below w.heap.size w w' := by
  have HX := Lib.hid hX
  clear hX
  cases hva : vR a1 a2
  · have H1 := Lib.hid hva
    clear hva
    go_enter Tryd.func8, Tryd.ntmps8
    go_wp2_with fail
    refine (qValid_any _ _ _).mono ?_
    rintro e w1 ⟨rfl, hb⟩
    have ba : Blk w1 (w.heap.size) 23 #[.int .i64 a1, .int .i64 a2] := ((Blk.new _ _ _).alloc _).on hb
    have bb : Blk w1 (w.heap.size + 1) 23 #[.int .i64 b1, .int .i64 b2] := (Blk.new1 _ _ _ _).on hb
    have hbz := hb.size
    have HB1 := Lib.hid ((((Below.refl w.heap.size w).alloc (by first | exact Nat.le_refl _ | omega | (simp; done) | (simp; omega)) _).alloc (by first | exact Nat.le_refl _ | omega | (simp; done) | (simp; omega)) _).trans (hb.mono (by first | exact Nat.le_refl _ | omega | (simp; done) | (simp; omega))))
    have hz1 : w.heap.size ≤ w1.heap.size := HB1.out.size
    clear hb hbz
    rw [H1.out]
    go_wp2_with fail
    refine (qawake_any _ (HX.out.below (HB1.out))).mono ?_
    rintro e w2 ⟨rfl, hb⟩
    have ba : Blk w2 (w.heap.size) 23 #[.int .i64 a1, .int .i64 a2] := (ba).on hb
    have bb : Blk w2 (w.heap.size + 1) 23 #[.int .i64 b1, .int .i64 b2] := (bb).on hb
    have hbz := hb.size
    have HB2 := Lib.hid ((HB1.out).trans (hb.mono (by first | exact Nat.le_refl _ | omega | (simp; done) | (simp; omega))))
    have hz2 : w.heap.size ≤ w2.heap.size := HB2.out.size
    clear hb hbz
    go_wp2_with fail
    go_ret
    exact ⟨rfl, HB2.out⟩
  cases hvb : vR b1 b2
  · have H1 := Lib.hid hva
    have H2 := Lib.hid hvb
    clear hva hvb
    go_enter Tryd.func8, Tryd.ntmps8
    go_wp2_with fail
    refine (qValid_any _ _ _).mono ?_
    rintro e w1 ⟨rfl, hb⟩
    have ba : Blk w1 (w.heap.size) 23 #[.int .i64 a1, .int .i64 a2] := ((Blk.new _ _ _).alloc _).on hb
    have bb : Blk w1 (w.heap.size + 1) 23 #[.int .i64 b1, .int .i64 b2] := (Blk.new1 _ _ _ _).on hb
    have hbz := hb.size
    have HB1 := Lib.hid ((((Below.refl w.heap.size w).alloc (by first | exact Nat.le_refl _ | omega | (simp; done) | (simp; omega)) _).alloc (by first | exact Nat.le_refl _ | omega | (simp; done) | (simp; omega)) _).trans (hb.mono (by first | exact Nat.le_refl _ | omega | (simp; done) | (simp; omega))))
    have hz1 : w.heap.size ≤ w1.heap.size := HB1.out.size
    clear hb hbz
    rw [H1.out]
    have q_bb0 : w1.cell? ⟨w.heap.size + 1, 0, none⟩ = some (.int .i64 b1) := bb.cell 0
    have q_bb1 : w1.cell? ⟨w.heap.size + 1, 1, none⟩ = some (.int .i64 b2) := bb.cell 1
    go_wp2_with fail
    refine (qValid_any _ _ _).mono ?_
    rintro e w2 ⟨rfl, hb⟩
    clear q_bb0 q_bb1
    have ba : Blk w2 (w.heap.size) 23 #[.int .i64 a1, .int .i64 a2] := (ba).on hb
    have bb : Blk w2 (w.heap.size + 1) 23 #[.int .i64 b1, .int .i64 b2] := (bb).on hb
    have hbz := hb.size
    have HB2 := Lib.hid ((HB1.out).trans (hb.mono (by first | exact Nat.le_refl _ | omega | (simp; done) | (simp; omega))))
    have hz2 : w.heap.size ≤ w2.heap.size := HB2.out.size
    clear hb hbz
    rw [H2.out]
    go_wp2_with fail
    refine (qawake_any _ (HX.out.below (HB2.out))).mono ?_
    rintro e w3 ⟨rfl, hb⟩
    have ba : Blk w3 (w.heap.size) 23 #[.int .i64 a1, .int .i64 a2] := (ba).on hb
    have bb : Blk w3 (w.heap.size + 1) 23 #[.int .i64 b1, .int .i64 b2] := (bb).on hb
    have hbz := hb.size
    have HB3 := Lib.hid ((HB2.out).trans (hb.mono (by first | exact Nat.le_refl _ | omega | (simp; done) | (simp; omega))))
    have hz3 : w.heap.size ≤ w3.heap.size := HB3.out.size
    clear hb hbz
    go_wp2_with fail
    go_ret
    exact ⟨rfl, HB3.out⟩
  obtain ⟨d1, d2, d3, d4⟩ := vR_bd hva
  have HO := Lib.hid (om_one hva)
  obtain ⟨f1, f2⟩ := fl_prod hva
  obtain ⟨g1, g2⟩ := ce_prod hva
  obtain ⟨f3, f4⟩ := fl_bd a1 a2
  obtain ⟨g3, g4⟩ := ce_bd a1 a2
  have HT := Lib.hid (ce_fl_test hva)
  have hdf := (ce_fl hva).1
  have H1 := Lib.hid hva
  have H2 := Lib.hid hvb
  clear hva hvb
  have CA := Lib.hid (fun W => qAdd_any a1 a2 b1 b2 W)
  have CM := Lib.hid (fun W => qMul_any a1 a2 b1 b2 W)
  have CF := Lib.hid (fun W => qFloor_any a1 a2 W)
  have CC := Lib.hid (fun W => qCeil_any a1 a2 W)
  have CO := Lib.hid (fun W => qOf_any a1 a2 1 W)
  rw [HO.out] at CO
  have HS := Lib.hid (fun r (h : addR a1 a2 b1 b2 = (r, 0)) => add_sub h)
  have HM := Lib.hid (fun r (h : mulR a1 a2 b1 b2 = (r, 0)) h0 => mul_div h h0)
  clear HO
  generalize addR a1 a2 b1 b2 = R at *
  obtain ⟨⟨x, y⟩, e⟩ := R
  generalize mulR a1 a2 b1 b2 = R at *
  obtain ⟨⟨x1, y1⟩, e1⟩ := R
  generalize flR a1 a2 = lo at *
  generalize ceR a1 a2 = hi at *
  have dlo : decide (a1 < lo * a2) = false := decide_eq_false (by omega)
  have dhi : decide (hi * a2 < a1) = false := decide_eq_false (by omega)
  have ddf : decide (hi - lo ≤ 1) = true := decide_eq_true hdf
  go_enter Tryd.func8, Tryd.ntmps8
  go_wp2_with fail
  refine (qValid_any _ _ _).mono ?_
  rintro e w1 ⟨rfl, hb⟩
  have ba : Blk w1 (w.heap.size) 23 #[.int .i64 a1, .int .i64 a2] := ((Blk.new _ _ _).alloc _).on hb
  have bb : Blk w1 (w.heap.size + 1) 23 #[.int .i64 b1, .int .i64 b2] := (Blk.new1 _ _ _ _).on hb
  have hbz := hb.size
  have HB1 := Lib.hid ((((Below.refl w.heap.size w).alloc (by first | exact Nat.le_refl _ | omega | (simp; done) | (simp; omega)) _).alloc (by first | exact Nat.le_refl _ | omega | (simp; done) | (simp; omega)) _).trans (hb.mono (by first | exact Nat.le_refl _ | omega | (simp; done) | (simp; omega))))
  have hz1 : w.heap.size ≤ w1.heap.size := HB1.out.size
  clear hb hbz
  rw [H1.out]
  have q_ba0 : w1.cell? ⟨w.heap.size, 0, none⟩ = some (.int .i64 a1) := ba.cell 0
  have q_ba1 : w1.cell? ⟨w.heap.size, 1, none⟩ = some (.int .i64 a2) := ba.cell 1
  have q_bb0 : w1.cell? ⟨w.heap.size + 1, 0, none⟩ = some (.int .i64 b1) := bb.cell 0
  have q_bb1 : w1.cell? ⟨w.heap.size + 1, 1, none⟩ = some (.int .i64 b2) := bb.cell 1
  have l_ba : w.heap.size < w1.heap.size := ba.lt
  have l_bb : w.heap.size + 1 < w1.heap.size := bb.lt
  go_wp2_with fail
  refine (qValid_any _ _ _).mono ?_
  rintro e w2 ⟨rfl, hb⟩
  clear q_ba0 q_ba1 q_bb0 q_bb1 l_ba l_bb
  have ba : Blk w2 (w.heap.size) 23 #[.int .i64 a1, .int .i64 a2] := (ba).on hb
  have bb : Blk w2 (w.heap.size + 1) 23 #[.int .i64 b1, .int .i64 b2] := (bb).on hb
  have hbz := hb.size
  have HB2 := Lib.hid ((HB1.out).trans (hb.mono (by first | exact Nat.le_refl _ | omega | (simp; done) | (simp; omega))))
  have hz2 : w.heap.size ≤ w2.heap.size := HB2.out.size
  clear hb hbz
  rw [H2.out]
  have q_ba0 : w2.cell? ⟨w.heap.size, 0, none⟩ = some (.int .i64 a1) := ba.cell 0
  have q_ba1 : w2.cell? ⟨w.heap.size, 1, none⟩ = some (.int .i64 a2) := ba.cell 1
  have q_bb0 : w2.cell? ⟨w.heap.size + 1, 0, none⟩ = some (.int .i64 b1) := bb.cell 0
  have q_bb1 : w2.cell? ⟨w.heap.size + 1, 1, none⟩ = some (.int .i64 b2) := bb.cell 1
  have l_ba : w.heap.size < w2.heap.size := ba.lt
  have l_bb : w.heap.size + 1 < w2.heap.size := bb.lt
  go_wp2_with fail
  refine (CA.out _).mono ?_
  rintro e w3 ⟨rfl, hb⟩
  clear q_ba0 q_ba1 q_bb0 q_bb1 l_ba l_bb
  have ba : Blk w3 (w.heap.size) 23 #[.int .i64 a1, .int .i64 a2] := (ba).on hb
  have bb : Blk w3 (w.heap.size + 1) 23 #[.int .i64 b1, .int .i64 b2] := (bb).on hb
  have hbz := hb.size
  have HB3 := Lib.hid ((HB2.out).trans (hb.mono (by first | exact Nat.le_refl _ | omega | (simp; done) | (simp; omega))))
  have hz3 : w.heap.size ≤ w3.heap.size := HB3.out.size
  clear hb hbz
  simp only [tupR, agg2]
  have q_ba0 : w3.cell? ⟨w.heap.size, 0, none⟩ = some (.int .i64 a1) := ba.cell 0
  have q_ba1 : w3.cell? ⟨w.heap.size, 1, none⟩ = some (.int .i64 a2) := ba.cell 1
  have q_bb0 : w3.cell? ⟨w.heap.size + 1, 0, none⟩ = some (.int .i64 b1) := bb.cell 0
  have q_bb1 : w3.cell? ⟨w.heap.size + 1, 1, none⟩ = some (.int .i64 b2) := bb.cell 1
  have l_ba : w.heap.size < w3.heap.size := ba.lt
  have l_bb : w.heap.size + 1 < w3.heap.size := bb.lt
  by_cases he : e = 0
  · skip
    subst he
    have HC := Lib.hid (HS.out _ rfl)
    go_wp2_with fail
    refine (qSub_any _ _ _ _ _).mono ?_
    rintro e w4 ⟨rfl, hb⟩
    clear q_ba0 q_ba1 q_bb0 q_bb1 l_ba l_bb
    have ba : Blk w4 (w.heap.size) 23 #[.int .i64 a1, .int .i64 a2] := ((ba).alloc _).on hb
    have bb : Blk w4 (w.heap.size + 1) 23 #[.int .i64 b1, .int .i64 b2] := ((bb).alloc _).on hb
    have bs : Blk w4 (w3.heap.size) 23 #[.int .i64 x, .int .i64 y] := (Blk.new _ _ _).on hb
    have hbz := hb.size
    have HB4 := Lib.hid (((HB3.out).alloc (by first | exact Nat.le_refl _ | omega | (simp; done) | (simp; omega)) _).trans (hb.mono (by first | exact Nat.le_refl _ | omega | (simp; done) | (simp; omega))))
    have hz4 : w.heap.size ≤ w4.heap.size := HB4.out.size
    clear hb hbz
    rw [show subR x y b1 b2 = ((a1, a2), 0) from HC.out]
    simp only [tupR, agg2]
    have q_ba0 : w4.cell? ⟨w.heap.size, 0, none⟩ = some (.int .i64 a1) := ba.cell 0
    have q_ba1 : w4.cell? ⟨w.heap.size, 1, none⟩ = some (.int .i64 a2) := ba.cell 1
    have q_bb0 : w4.cell? ⟨w.heap.size + 1, 0, none⟩ = some (.int .i64 b1) := bb.cell 0
    have q_bb1 : w4.cell? ⟨w.heap.size + 1, 1, none⟩ = some (.int .i64 b2) := bb.cell 1
    have q_bs0 : w4.cell? ⟨w3.heap.size, 0, none⟩ = some (.int .i64 x) := bs.cell 0
    have q_bs1 : w4.cell? ⟨w3.heap.size, 1, none⟩ = some (.int .i64 y) := bs.cell 1
    have l_ba : w.heap.size < w4.heap.size := ba.lt
    have l_bb : w.heap.size + 1 < w4.heap.size := bb.lt
    have l_bs : w3.heap.size < w4.heap.size := bs.lt
    go_wp2_with fail
    refine (CM.out _).mono ?_
    rintro e w5 ⟨rfl, hb⟩
    clear q_ba0 q_ba1 q_bb0 q_bb1 q_bs0 q_bs1 l_ba l_bb l_bs
    have ba : Blk w5 (w.heap.size) 23 #[.int .i64 a1, .int .i64 a2] := ((ba).alloc _).on hb
    have bb : Blk w5 (w.heap.size + 1) 23 #[.int .i64 b1, .int .i64 b2] := ((bb).alloc _).on hb
    have bs : Blk w5 (w3.heap.size) 23 #[.int .i64 x, .int .i64 y] := ((bs).alloc _).on hb
    have bk : Blk w5 (w4.heap.size) 23 #[.int .i64 a1, .int .i64 a2] := (Blk.new _ _ _).on hb
    have hbz := hb.size
    have HB5 := Lib.hid (((HB4.out).alloc (by first | exact Nat.le_refl _ | omega | (simp; done) | (simp; omega)) _).trans (hb.mono (by first | exact Nat.le_refl _ | omega | (simp; done) | (simp; omega))))
    have hz5 : w.heap.size ≤ w5.heap.size := HB5.out.size
    clear hb hbz
    simp only [tupR, agg2]
    have q_ba0 : w5.cell? ⟨w.heap.size, 0, none⟩ = some (.int .i64 a1) := ba.cell 0
    have q_ba1 : w5.cell? ⟨w.heap.size, 1, none⟩ = some (.int .i64 a2) := ba.cell 1
    have q_bb0 : w5.cell? ⟨w.heap.size + 1, 0, none⟩ = some (.int .i64 b1) := bb.cell 0
    have q_bb1 : w5.cell? ⟨w.heap.size + 1, 1, none⟩ = some (.int .i64 b2) := bb.cell 1
    have q_bs0 : w5.cell? ⟨w3.heap.size, 0, none⟩ = some (.int .i64 x) := bs.cell 0
    have q_bs1 : w5.cell? ⟨w3.heap.size, 1, none⟩ = some (.int .i64 y) := bs.cell 1
    have q_bk0 : w5.cell? ⟨w4.heap.size, 0, none⟩ = some (.int .i64 a1) := bk.cell 0
    have q_bk1 : w5.cell? ⟨w4.heap.size, 1, none⟩ = some (.int .i64 a2) := bk.cell 1
    have l_ba : w.heap.size < w5.heap.size := ba.lt
    have l_bb : w.heap.size + 1 < w5.heap.size := bb.lt
    have l_bs : w3.heap.size < w5.heap.size := bs.lt
    have l_bk : w4.heap.size < w5.heap.size := bk.lt
    by_cases h1 : e1 = 0
    · subst h1
      by_cases h2 : b1 = 0
      · skip
        have hb2 : (b1 != 0) = false := by rw [h2]; rfl
        clear h2
        go_wp2_with fail
        refine (CF.out _).mono ?_
        rintro e w6 ⟨rfl, hb⟩
        clear q_ba0 q_ba1 q_bb0 q_bb1 q_bs0 q_bs1 q_bk0 q_bk1 l_ba l_bb l_bs l_bk
        have ba : Blk w6 (w.heap.size) 23 #[.int .i64 a1, .int .i64 a2] := ((ba).alloc _).on hb
        have bb : Blk w6 (w.heap.size + 1) 23 #[.int .i64 b1, .int .i64 b2] := ((bb).alloc _).on hb
        have bs : Blk w6 (w3.heap.size) 23 #[.int .i64 x, .int .i64 y] := ((bs).alloc _).on hb
        have bk : Blk w6 (w4.heap.size) 23 #[.int .i64 a1, .int .i64 a2] := ((bk).alloc _).on hb
        have bm : Blk w6 (w5.heap.size) 23 #[.int .i64 x1, .int .i64 y1] := (Blk.new _ _ _).on hb
        have hbz := hb.size
        have HB6 := Lib.hid (((HB5.out).alloc (by first | exact Nat.le_refl _ | omega | (simp; done) | (simp; omega)) _).trans (hb.mono (by first | exact Nat.le_refl _ | omega | (simp; done) | (simp; omega))))
        have hz6 : w.heap.size ≤ w6.heap.size := HB6.out.size
        clear hb hbz
        have q_ba0 : w6.cell? ⟨w.heap.size, 0, none⟩ = some (.int .i64 a1) := ba.cell 0
        have q_ba1 : w6.cell? ⟨w.heap.size, 1, none⟩ = some (.int .i64 a2) := ba.cell 1
        have q_bb0 : w6.cell? ⟨w.heap.size + 1, 0, none⟩ = some (.int .i64 b1) := bb.cell 0
        have q_bb1 : w6.cell? ⟨w.heap.size + 1, 1, none⟩ = some (.int .i64 b2) := bb.cell 1
        have q_bs0 : w6.cell? ⟨w3.heap.size, 0, none⟩ = some (.int .i64 x) := bs.cell 0
        have q_bs1 : w6.cell? ⟨w3.heap.size, 1, none⟩ = some (.int .i64 y) := bs.cell 1
        have q_bk0 : w6.cell? ⟨w4.heap.size, 0, none⟩ = some (.int .i64 a1) := bk.cell 0
        have q_bk1 : w6.cell? ⟨w4.heap.size, 1, none⟩ = some (.int .i64 a2) := bk.cell 1
        have q_bm0 : w6.cell? ⟨w5.heap.size, 0, none⟩ = some (.int .i64 x1) := bm.cell 0
        have q_bm1 : w6.cell? ⟨w5.heap.size, 1, none⟩ = some (.int .i64 y1) := bm.cell 1
        have l_ba : w.heap.size < w6.heap.size := ba.lt
        have l_bb : w.heap.size + 1 < w6.heap.size := bb.lt
        have l_bs : w3.heap.size < w6.heap.size := bs.lt
        have l_bk : w4.heap.size < w6.heap.size := bk.lt
        have l_bm : w5.heap.size < w6.heap.size := bm.lt
        go_wp2_with fail
        refine (CC.out _).mono ?_
        rintro e w7 ⟨rfl, hb⟩
        clear q_ba0 q_ba1 q_bb0 q_bb1 q_bs0 q_bs1 q_bk0 q_bk1 q_bm0 q_bm1 l_ba l_bb l_bs l_bk l_bm
        have ba : Blk w7 (w.heap.size) 23 #[.int .i64 a1, .int .i64 a2] := (ba).on hb
        have bb : Blk w7 (w.heap.size + 1) 23 #[.int .i64 b1, .int .i64 b2] := (bb).on hb
        have bs : Blk w7 (w3.heap.size) 23 #[.int .i64 x, .int .i64 y] := (bs).on hb
        have bk : Blk w7 (w4.heap.size) 23 #[.int .i64 a1, .int .i64 a2] := (bk).on hb
        have bm : Blk w7 (w5.heap.size) 23 #[.int .i64 x1, .int .i64 y1] := (bm).on hb
        have hbz := hb.size
        have HB7 := Lib.hid ((HB6.out).trans (hb.mono (by first | exact Nat.le_refl _ | omega | (simp; done) | (simp; omega))))
        have hz7 : w.heap.size ≤ w7.heap.size := HB7.out.size
        clear hb hbz
        have q_ba0 : w7.cell? ⟨w.heap.size, 0, none⟩ = some (.int .i64 a1) := ba.cell 0
        have q_ba1 : w7.cell? ⟨w.heap.size, 1, none⟩ = some (.int .i64 a2) := ba.cell 1
        have q_bb0 : w7.cell? ⟨w.heap.size + 1, 0, none⟩ = some (.int .i64 b1) := bb.cell 0
        have q_bb1 : w7.cell? ⟨w.heap.size + 1, 1, none⟩ = some (.int .i64 b2) := bb.cell 1
        have q_bs0 : w7.cell? ⟨w3.heap.size, 0, none⟩ = some (.int .i64 x) := bs.cell 0
        have q_bs1 : w7.cell? ⟨w3.heap.size, 1, none⟩ = some (.int .i64 y) := bs.cell 1
        have q_bk0 : w7.cell? ⟨w4.heap.size, 0, none⟩ = some (.int .i64 a1) := bk.cell 0
        have q_bk1 : w7.cell? ⟨w4.heap.size, 1, none⟩ = some (.int .i64 a2) := bk.cell 1
        have q_bm0 : w7.cell? ⟨w5.heap.size, 0, none⟩ = some (.int .i64 x1) := bm.cell 0
        have q_bm1 : w7.cell? ⟨w5.heap.size, 1, none⟩ = some (.int .i64 y1) := bm.cell 1
        have l_ba : w.heap.size < w7.heap.size := ba.lt
        have l_bb : w.heap.size + 1 < w7.heap.size := bb.lt
        have l_bs : w3.heap.size < w7.heap.size := bs.lt
        have l_bk : w4.heap.size < w7.heap.size := bk.lt
        have l_bm : w5.heap.size < w7.heap.size := bm.lt
        go_wp2_with fail
        refine (CO.out _).mono ?_
        rintro e w8 ⟨rfl, hb⟩
        clear q_ba0 q_ba1 q_bb0 q_bb1 q_bs0 q_bs1 q_bk0 q_bk1 q_bm0 q_bm1 l_ba l_bb l_bs l_bk l_bm
        have ba : Blk w8 (w.heap.size) 23 #[.int .i64 a1, .int .i64 a2] := (ba).on hb
        have bb : Blk w8 (w.heap.size + 1) 23 #[.int .i64 b1, .int .i64 b2] := (bb).on hb
        have bs : Blk w8 (w3.heap.size) 23 #[.int .i64 x, .int .i64 y] := (bs).on hb
        have bk : Blk w8 (w4.heap.size) 23 #[.int .i64 a1, .int .i64 a2] := (bk).on hb
        have bm : Blk w8 (w5.heap.size) 23 #[.int .i64 x1, .int .i64 y1] := (bm).on hb
        have hbz := hb.size
        have HB8 := Lib.hid ((HB7.out).trans (hb.mono (by first | exact Nat.le_refl _ | omega | (simp; done) | (simp; omega))))
        have hz8 : w.heap.size ≤ w8.heap.size := HB8.out.size
        clear hb hbz
        simp only [tup2]
        have q_ba0 : w8.cell? ⟨w.heap.size, 0, none⟩ = some (.int .i64 a1) := ba.cell 0
        have q_ba1 : w8.cell? ⟨w.heap.size, 1, none⟩ = some (.int .i64 a2) := ba.cell 1
        have q_bb0 : w8.cell? ⟨w.heap.size + 1, 0, none⟩ = some (.int .i64 b1) := bb.cell 0
        have q_bb1 : w8.cell? ⟨w.heap.size + 1, 1, none⟩ = some (.int .i64 b2) := bb.cell 1
        have q_bs0 : w8.cell? ⟨w3.heap.size, 0, none⟩ = some (.int .i64 x) := bs.cell 0
        have q_bs1 : w8.cell? ⟨w3.heap.size, 1, none⟩ = some (.int .i64 y) := bs.cell 1
        have q_bk0 : w8.cell? ⟨w4.heap.size, 0, none⟩ = some (.int .i64 a1) := bk.cell 0
        have q_bk1 : w8.cell? ⟨w4.heap.size, 1, none⟩ = some (.int .i64 a2) := bk.cell 1
        have q_bm0 : w8.cell? ⟨w5.heap.size, 0, none⟩ = some (.int .i64 x1) := bm.cell 0
        have q_bm1 : w8.cell? ⟨w5.heap.size, 1, none⟩ = some (.int .i64 y1) := bm.cell 1
        have l_ba : w.heap.size < w8.heap.size := ba.lt
        have l_bb : w.heap.size + 1 < w8.heap.size := bb.lt
        have l_bs : w3.heap.size < w8.heap.size := bs.lt
        have l_bk : w4.heap.size < w8.heap.size := bk.lt
        have l_bm : w5.heap.size < w8.heap.size := bm.lt
        have hT := HT.out
        go_wp2_with fail
        refine (qawake_any _ (HX.out.below (HB8.out))).mono ?_
        rintro e w9 ⟨rfl, hb⟩
        clear q_ba0 q_ba1 q_bb0 q_bb1 q_bs0 q_bs1 q_bk0 q_bk1 q_bm0 q_bm1 l_ba l_bb l_bs l_bk l_bm
        have ba : Blk w9 (w.heap.size) 23 #[.int .i64 a1, .int .i64 a2] := (ba).on hb
        have bb : Blk w9 (w.heap.size + 1) 23 #[.int .i64 b1, .int .i64 b2] := (bb).on hb
        have bs : Blk w9 (w3.heap.size) 23 #[.int .i64 x, .int .i64 y] := (bs).on hb
        have bk : Blk w9 (w4.heap.size) 23 #[.int .i64 a1, .int .i64 a2] := (bk).on hb
        have bm : Blk w9 (w5.heap.size) 23 #[.int .i64 x1, .int .i64 y1] := (bm).on hb
        have hbz := hb.size
        have HB9 := Lib.hid ((HB8.out).trans (hb.mono (by first | exact Nat.le_refl _ | omega | (simp; done) | (simp; omega))))
        have hz9 : w.heap.size ≤ w9.heap.size := HB9.out.size
        clear hb hbz
        go_wp2_with fail
        go_ret
        exact ⟨rfl, HB9.out⟩
      · skip
        have hb2 : (b1 != 0) = true := by rw [bne_iff_ne]; exact h2
        have HC := Lib.hid (HM.out _ rfl h2)
        clear h2
        go_wp2_with fail
        refine (qDiv_any _ _ _ _ _).mono ?_
        rintro e w6 ⟨rfl, hb⟩
        clear q_ba0 q_ba1 q_bb0 q_bb1 q_bs0 q_bs1 q_bk0 q_bk1 l_ba l_bb l_bs l_bk
        have ba : Blk w6 (w.heap.size) 23 #[.int .i64 a1, .int .i64 a2] := ((ba).alloc _).on hb
        have bb : Blk w6 (w.heap.size + 1) 23 #[.int .i64 b1, .int .i64 b2] := ((bb).alloc _).on hb
        have bs : Blk w6 (w3.heap.size) 23 #[.int .i64 x, .int .i64 y] := ((bs).alloc _).on hb
        have bk : Blk w6 (w4.heap.size) 23 #[.int .i64 a1, .int .i64 a2] := ((bk).alloc _).on hb
        have bm : Blk w6 (w5.heap.size) 23 #[.int .i64 x1, .int .i64 y1] := (Blk.new _ _ _).on hb
        have hbz := hb.size
        have HB6 := Lib.hid (((HB5.out).alloc (by first | exact Nat.le_refl _ | omega | (simp; done) | (simp; omega)) _).trans (hb.mono (by first | exact Nat.le_refl _ | omega | (simp; done) | (simp; omega))))
        have hz6 : w.heap.size ≤ w6.heap.size := HB6.out.size
        clear hb hbz
        rw [show divR x1 y1 b1 b2 = ((a1, a2), 0) from HC.out]
        simp only [tupR, agg2]
        have q_ba0 : w6.cell? ⟨w.heap.size, 0, none⟩ = some (.int .i64 a1) := ba.cell 0
        have q_ba1 : w6.cell? ⟨w.heap.size, 1, none⟩ = some (.int .i64 a2) := ba.cell 1
        have q_bb0 : w6.cell? ⟨w.heap.size + 1, 0, none⟩ = some (.int .i64 b1) := bb.cell 0
        have q_bb1 : w6.cell? ⟨w.heap.size + 1, 1, none⟩ = some (.int .i64 b2) := bb.cell 1
        have q_bs0 : w6.cell? ⟨w3.heap.size, 0, none⟩ = some (.int .i64 x) := bs.cell 0
        have q_bs1 : w6.cell? ⟨w3.heap.size, 1, none⟩ = some (.int .i64 y) := bs.cell 1
        have q_bk0 : w6.cell? ⟨w4.heap.size, 0, none⟩ = some (.int .i64 a1) := bk.cell 0
        have q_bk1 : w6.cell? ⟨w4.heap.size, 1, none⟩ = some (.int .i64 a2) := bk.cell 1
        have q_bm0 : w6.cell? ⟨w5.heap.size, 0, none⟩ = some (.int .i64 x1) := bm.cell 0
        have q_bm1 : w6.cell? ⟨w5.heap.size, 1, none⟩ = some (.int .i64 y1) := bm.cell 1
        have l_ba : w.heap.size < w6.heap.size := ba.lt
        have l_bb : w.heap.size + 1 < w6.heap.size := bb.lt
        have l_bs : w3.heap.size < w6.heap.size := bs.lt
        have l_bk : w4.heap.size < w6.heap.size := bk.lt
        have l_bm : w5.heap.size < w6.heap.size := bm.lt
        go_wp2_with fail
        refine (CF.out _).mono ?_
        rintro e w7 ⟨rfl, hb⟩
        clear q_ba0 q_ba1 q_bb0 q_bb1 q_bs0 q_bs1 q_bk0 q_bk1 q_bm0 q_bm1 l_ba l_bb l_bs l_bk l_bm
        have ba : Blk w7 (w.heap.size) 23 #[.int .i64 a1, .int .i64 a2] := ((ba).alloc _).on hb
        have bb : Blk w7 (w.heap.size + 1) 23 #[.int .i64 b1, .int .i64 b2] := ((bb).alloc _).on hb
        have bs : Blk w7 (w3.heap.size) 23 #[.int .i64 x, .int .i64 y] := ((bs).alloc _).on hb
        have bk : Blk w7 (w4.heap.size) 23 #[.int .i64 a1, .int .i64 a2] := ((bk).alloc _).on hb
        have bm : Blk w7 (w5.heap.size) 23 #[.int .i64 x1, .int .i64 y1] := ((bm).alloc _).on hb
        have bk2 : Blk w7 (w6.heap.size) 23 #[.int .i64 a1, .int .i64 a2] := (Blk.new _ _ _).on hb
        have hbz := hb.size
        have HB7 := Lib.hid (((HB6.out).alloc (by first | exact Nat.le_refl _ | omega | (simp; done) | (simp; omega)) _).trans (hb.mono (by first | exact Nat.le_refl _ | omega | (simp; done) | (simp; omega))))
        have hz7 : w.heap.size ≤ w7.heap.size := HB7.out.size
        clear hb hbz
        have q_ba0 : w7.cell? ⟨w.heap.size, 0, none⟩ = some (.int .i64 a1) := ba.cell 0
        have q_ba1 : w7.cell? ⟨w.heap.size, 1, none⟩ = some (.int .i64 a2) := ba.cell 1
        have q_bb0 : w7.cell? ⟨w.heap.size + 1, 0, none⟩ = some (.int .i64 b1) := bb.cell 0
        have q_bb1 : w7.cell? ⟨w.heap.size + 1, 1, none⟩ = some (.int .i64 b2) := bb.cell 1
        have q_bs0 : w7.cell? ⟨w3.heap.size, 0, none⟩ = some (.int .i64 x) := bs.cell 0
        have q_bs1 : w7.cell? ⟨w3.heap.size, 1, none⟩ = some (.int .i64 y) := bs.cell 1
        have q_bk0 : w7.cell? ⟨w4.heap.size, 0, none⟩ = some (.int .i64 a1) := bk.cell 0
        have q_bk1 : w7.cell? ⟨w4.heap.size, 1, none⟩ = some (.int .i64 a2) := bk.cell 1
        have q_bm0 : w7.cell? ⟨w5.heap.size, 0, none⟩ = some (.int .i64 x1) := bm.cell 0
        have q_bm1 : w7.cell? ⟨w5.heap.size, 1, none⟩ = some (.int .i64 y1) := bm.cell 1
        have q_bk20 : w7.cell? ⟨w6.heap.size, 0, none⟩ = some (.int .i64 a1) := bk2.cell 0
        have q_bk21 : w7.cell? ⟨w6.heap.size, 1, none⟩ = some (.int .i64 a2) := bk2.cell 1
        have l_ba : w.heap.size < w7.heap.size := ba.lt
        have l_bb : w.heap.size + 1 < w7.heap.size := bb.lt
        have l_bs : w3.heap.size < w7.heap.size := bs.lt
        have l_bk : w4.heap.size < w7.heap.size := bk.lt
        have l_bm : w5.heap.size < w7.heap.size := bm.lt
        have l_bk2 : w6.heap.size < w7.heap.size := bk2.lt
        go_wp2_with fail
        refine (CC.out _).mono ?_
        rintro e w8 ⟨rfl, hb⟩
        clear q_ba0 q_ba1 q_bb0 q_bb1 q_bs0 q_bs1 q_bk0 q_bk1 q_bm0 q_bm1 q_bk20 q_bk21 l_ba l_bb l_bs l_bk l_bm l_bk2
        have ba : Blk w8 (w.heap.size) 23 #[.int .i64 a1, .int .i64 a2] := (ba).on hb
        have bb : Blk w8 (w.heap.size + 1) 23 #[.int .i64 b1, .int .i64 b2] := (bb).on hb
        have bs : Blk w8 (w3.heap.size) 23 #[.int .i64 x, .int .i64 y] := (bs).on hb
        have bk : Blk w8 (w4.heap.size) 23 #[.int .i64 a1, .int .i64 a2] := (bk).on hb
        have bm : Blk w8 (w5.heap.size) 23 #[.int .i64 x1, .int .i64 y1] := (bm).on hb
        have bk2 : Blk w8 (w6.heap.size) 23 #[.int .i64 a1, .int .i64 a2] := (bk2).on hb
        have hbz := hb.size
        have HB8 := Lib.hid ((HB7.out).trans (hb.mono (by first | exact Nat.le_refl _ | omega | (simp; done) | (simp; omega))))
        have hz8 : w.heap.size ≤ w8.heap.size := HB8.out.size
        clear hb hbz
        have q_ba0 : w8.cell? ⟨w.heap.size, 0, none⟩ = some (.int .i64 a1) := ba.cell 0
        have q_ba1 : w8.cell? ⟨w.heap.size, 1, none⟩ = some (.int .i64 a2) := ba.cell 1
        have q_bb0 : w8.cell? ⟨w.heap.size + 1, 0, none⟩ = some (.int .i64 b1) := bb.cell 0
        have q_bb1 : w8.cell? ⟨w.heap.size + 1, 1, none⟩ = some (.int .i64 b2) := bb.cell 1
        have q_bs0 : w8.cell? ⟨w3.heap.size, 0, none⟩ = some (.int .i64 x) := bs.cell 0
        have q_bs1 : w8.cell? ⟨w3.heap.size, 1, none⟩ = some (.int .i64 y) := bs.cell 1
        have q_bk0 : w8.cell? ⟨w4.heap.size, 0, none⟩ = some (.int .i64 a1) := bk.cell 0
        have q_bk1 : w8.cell? ⟨w4.heap.size, 1, none⟩ = some (.int .i64 a2) := bk.cell 1
        have q_bm0 : w8.cell? ⟨w5.heap.size, 0, none⟩ = some (.int .i64 x1) := bm.cell 0
        have q_bm1 : w8.cell? ⟨w5.heap.size, 1, none⟩ = some (.int .i64 y1) := bm.cell 1
        have q_bk20 : w8.cell? ⟨w6.heap.size, 0, none⟩ = some (.int .i64 a1) := bk2.cell 0
        have q_bk21 : w8.cell? ⟨w6.heap.size, 1, none⟩ = some (.int .i64 a2) := bk2.cell 1
        have l_ba : w.heap.size < w8.heap.size := ba.lt
        have l_bb : w.heap.size + 1 < w8.heap.size := bb.lt
        have l_bs : w3.heap.size < w8.heap.size := bs.lt
        have l_bk : w4.heap.size < w8.heap.size := bk.lt
        have l_bm : w5.heap.size < w8.heap.size := bm.lt
        have l_bk2 : w6.heap.size < w8.heap.size := bk2.lt
        go_wp2_with fail
        refine (CO.out _).mono ?_
        rintro e w9 ⟨rfl, hb⟩
        clear q_ba0 q_ba1 q_bb0 q_bb1 q_bs0 q_bs1 q_bk0 q_bk1 q_bm0 q_bm1 q_bk20 q_bk21 l_ba l_bb l_bs l_bk l_bm l_bk2
        have ba : Blk w9 (w.heap.size) 23 #[.int .i64 a1, .int .i64 a2] := (ba).on hb
        have bb : Blk w9 (w.heap.size + 1) 23 #[.int .i64 b1, .int .i64 b2] := (bb).on hb
        have bs : Blk w9 (w3.heap.size) 23 #[.int .i64 x, .int .i64 y] := (bs).on hb
        have bk : Blk w9 (w4.heap.size) 23 #[.int .i64 a1, .int .i64 a2] := (bk).on hb
        have bm : Blk w9 (w5.heap.size) 23 #[.int .i64 x1, .int .i64 y1] := (bm).on hb
        have bk2 : Blk w9 (w6.heap.size) 23 #[.int .i64 a1, .int .i64 a2] := (bk2).on hb
        have hbz := hb.size
        have HB9 := Lib.hid ((HB8.out).trans (hb.mono (by first | exact Nat.le_refl _ | omega | (simp; done) | (simp; omega))))
        have hz9 : w.heap.size ≤ w9.heap.size := HB9.out.size
        clear hb hbz
        simp only [tup2]
        have q_ba0 : w9.cell? ⟨w.heap.size, 0, none⟩ = some (.int .i64 a1) := ba.cell 0
        have q_ba1 : w9.cell? ⟨w.heap.size, 1, none⟩ = some (.int .i64 a2) := ba.cell 1
        have q_bb0 : w9.cell? ⟨w.heap.size + 1, 0, none⟩ = some (.int .i64 b1) := bb.cell 0
        have q_bb1 : w9.cell? ⟨w.heap.size + 1, 1, none⟩ = some (.int .i64 b2) := bb.cell 1
        have q_bs0 : w9.cell? ⟨w3.heap.size, 0, none⟩ = some (.int .i64 x) := bs.cell 0
        have q_bs1 : w9.cell? ⟨w3.heap.size, 1, none⟩ = some (.int .i64 y) := bs.cell 1
        have q_bk0 : w9.cell? ⟨w4.heap.size, 0, none⟩ = some (.int .i64 a1) := bk.cell 0
        have q_bk1 : w9.cell? ⟨w4.heap.size, 1, none⟩ = some (.int .i64 a2) := bk.cell 1
        have q_bm0 : w9.cell? ⟨w5.heap.size, 0, none⟩ = some (.int .i64 x1) := bm.cell 0
        have q_bm1 : w9.cell? ⟨w5.heap.size, 1, none⟩ = some (.int .i64 y1) := bm.cell 1
        have q_bk20 : w9.cell? ⟨w6.heap.size, 0, none⟩ = some (.int .i64 a1) := bk2.cell 0
        have q_bk21 : w9.cell? ⟨w6.heap.size, 1, none⟩ = some (.int .i64 a2) := bk2.cell 1
        have l_ba : w.heap.size < w9.heap.size := ba.lt
        have l_bb : w.heap.size + 1 < w9.heap.size := bb.lt
        have l_bs : w3.heap.size < w9.heap.size := bs.lt
        have l_bk : w4.heap.size < w9.heap.size := bk.lt
        have l_bm : w5.heap.size < w9.heap.size := bm.lt
        have l_bk2 : w6.heap.size < w9.heap.size := bk2.lt
        have hT := HT.out
        go_wp2_with fail
        refine (qawake_any _ (HX.out.below (HB9.out))).mono ?_
        rintro e w10 ⟨rfl, hb⟩
        clear q_ba0 q_ba1 q_bb0 q_bb1 q_bs0 q_bs1 q_bk0 q_bk1 q_bm0 q_bm1 q_bk20 q_bk21 l_ba l_bb l_bs l_bk l_bm l_bk2
        have ba : Blk w10 (w.heap.size) 23 #[.int .i64 a1, .int .i64 a2] := (ba).on hb
        have bb : Blk w10 (w.heap.size + 1) 23 #[.int .i64 b1, .int .i64 b2] := (bb).on hb
        have bs : Blk w10 (w3.heap.size) 23 #[.int .i64 x, .int .i64 y] := (bs).on hb
        have bk : Blk w10 (w4.heap.size) 23 #[.int .i64 a1, .int .i64 a2] := (bk).on hb
        have bm : Blk w10 (w5.heap.size) 23 #[.int .i64 x1, .int .i64 y1] := (bm).on hb
        have bk2 : Blk w10 (w6.heap.size) 23 #[.int .i64 a1, .int .i64 a2] := (bk2).on hb
        have hbz := hb.size
        have HB10 := Lib.hid ((HB9.out).trans (hb.mono (by first | exact Nat.le_refl _ | omega | (simp; done) | (simp; omega))))
        have hz10 : w.heap.size ≤ w10.heap.size := HB10.out.size
        clear hb hbz
        go_wp2_with fail
        go_ret
        exact ⟨rfl, HB10.out⟩
    · skip
      have hb1 : (e1 == 0) = false := beq_eq_false_iff_ne.2 h1
      clear h1
      go_wp2_with fail
      refine (CF.out _).mono ?_
      rintro e w6 ⟨rfl, hb⟩
      clear q_ba0 q_ba1 q_bb0 q_bb1 q_bs0 q_bs1 q_bk0 q_bk1 l_ba l_bb l_bs l_bk
      have ba : Blk w6 (w.heap.size) 23 #[.int .i64 a1, .int .i64 a2] := ((ba).alloc _).on hb
      have bb : Blk w6 (w.heap.size + 1) 23 #[.int .i64 b1, .int .i64 b2] := ((bb).alloc _).on hb
      have bs : Blk w6 (w3.heap.size) 23 #[.int .i64 x, .int .i64 y] := ((bs).alloc _).on hb
      have bk : Blk w6 (w4.heap.size) 23 #[.int .i64 a1, .int .i64 a2] := ((bk).alloc _).on hb
      have bm : Blk w6 (w5.heap.size) 23 #[.int .i64 x1, .int .i64 y1] := (Blk.new _ _ _).on hb
      have hbz := hb.size
      have HB6 := Lib.hid (((HB5.out).alloc (by first | exact Nat.le_refl _ | omega | (simp; done) | (simp; omega)) _).trans (hb.mono (by first | exact Nat.le_refl _ | omega | (simp; done) | (simp; omega))))
      have hz6 : w.heap.size ≤ w6.heap.size := HB6.out.size
      clear hb hbz
      have q_ba0 : w6.cell? ⟨w.heap.size, 0, none⟩ = some (.int .i64 a1) := ba.cell 0
      have q_ba1 : w6.cell? ⟨w.heap.size, 1, none⟩ = some (.int .i64 a2) := ba.cell 1
      have q_bb0 : w6.cell? ⟨w.heap.size + 1, 0, none⟩ = some (.int .i64 b1) := bb.cell 0
      have q_bb1 : w6.cell? ⟨w.heap.size + 1, 1, none⟩ = some (.int .i64 b2) := bb.cell 1
      have q_bs0 : w6.cell? ⟨w3.heap.size, 0, none⟩ = some (.int .i64 x) := bs.cell 0
      have q_bs1 : w6.cell? ⟨w3.heap.size, 1, none⟩ = some (.int .i64 y) := bs.cell 1
      have q_bk0 : w6.cell? ⟨w4.heap.size, 0, none⟩ = some (.int .i64 a1) := bk.cell 0
      have q_bk1 : w6.cell? ⟨w4.heap.size, 1, none⟩ = some (.int .i64 a2) := bk.cell 1
      have q_bm0 : w6.cell? ⟨w5.heap.size, 0, none⟩ = some (.int .i64 x1) := bm.cell 0
      have q_bm1 : w6.cell? ⟨w5.heap.size, 1, none⟩ = some (.int .i64 y1) := bm.cell 1
      have l_ba : w.heap.size < w6.heap.size := ba.lt
      have l_bb : w.heap.size + 1 < w6.heap.size := bb.lt
      have l_bs : w3.heap.size < w6.heap.size := bs.lt
      have l_bk : w4.heap.size < w6.heap.size := bk.lt
      have l_bm : w5.heap.size < w6.heap.size := bm.lt
      go_wp2_with fail
      refine (CC.out _).mono ?_
      rintro e w7 ⟨rfl, hb⟩
      clear q_ba0 q_ba1 q_bb0 q_bb1 q_bs0 q_bs1 q_bk0 q_bk1 q_bm0 q_bm1 l_ba l_bb l_bs l_bk l_bm
      have ba : Blk w7 (w.heap.size) 23 #[.int .i64 a1, .int .i64 a2] := (ba).on hb
      have bb : Blk w7 (w.heap.size + 1) 23 #[.int .i64 b1, .int .i64 b2] := (bb).on hb
      have bs : Blk w7 (w3.heap.size) 23 #[.int .i64 x, .int .i64 y] := (bs).on hb
      have bk : Blk w7 (w4.heap.size) 23 #[.int .i64 a1, .int .i64 a2] := (bk).on hb
      have bm : Blk w7 (w5.heap.size) 23 #[.int .i64 x1, .int .i64 y1] := (bm).on hb
      have hbz := hb.size
      have HB7 := Lib.hid ((HB6.out).trans (hb.mono (by first | exact Nat.le_refl _ | omega | (simp; done) | (simp; omega))))
      have hz7 : w.heap.size ≤ w7.heap.size := HB7.out.size
      clear hb hbz
      have q_ba0 : w7.cell? ⟨w.heap.size, 0, none⟩ = some (.int .i64 a1) := ba.cell 0
      have q_ba1 : w7.cell? ⟨w.heap.size, 1, none⟩ = some (.int .i64 a2) := ba.cell 1
      have q_bb0 : w7.cell? ⟨w.heap.size + 1, 0, none⟩ = some (.int .i64 b1) := bb.cell 0
      have q_bb1 : w7.cell? ⟨w.heap.size + 1, 1, none⟩ = some (.int .i64 b2) := bb.cell 1
      have q_bs0 : w7.cell? ⟨w3.heap.size, 0, none⟩ = some (.int .i64 x) := bs.cell 0
      have q_bs1 : w7.cell? ⟨w3.heap.size, 1, none⟩ = some (.int .i64 y) := bs.cell 1
      have q_bk0 : w7.cell? ⟨w4.heap.size, 0, none⟩ = some (.int .i64 a1) := bk.cell 0
      have q_bk1 : w7.cell? ⟨w4.heap.size, 1, none⟩ = some (.int .i64 a2) := bk.cell 1
      have q_bm0 : w7.cell? ⟨w5.heap.size, 0, none⟩ = some (.int .i64 x1) := bm.cell 0
      have q_bm1 : w7.cell? ⟨w5.heap.size, 1, none⟩ = some (.int .i64 y1) := bm.cell 1
      have l_ba : w.heap.size < w7.heap.size := ba.lt
      have l_bb : w.heap.size + 1 < w7.heap.size := bb.lt
      have l_bs : w3.heap.size < w7.heap.size := bs.lt
      have l_bk : w4.heap.size < w7.heap.size := bk.lt
      have l_bm : w5.heap.size < w7.heap.size := bm.lt
      go_wp2_with fail
      refine (CO.out _).mono ?_
      rintro e w8 ⟨rfl, hb⟩
      clear q_ba0 q_ba1 q_bb0 q_bb1 q_bs0 q_bs1 q_bk0 q_bk1 q_bm0 q_bm1 l_ba l_bb l_bs l_bk l_bm
      have ba : Blk w8 (w.heap.size) 23 #[.int .i64 a1, .int .i64 a2] := (ba).on hb
      have bb : Blk w8 (w.heap.size + 1) 23 #[.int .i64 b1, .int .i64 b2] := (bb).on hb
      have bs : Blk w8 (w3.heap.size) 23 #[.int .i64 x, .int .i64 y] := (bs).on hb
      have bk : Blk w8 (w4.heap.size) 23 #[.int .i64 a1, .int .i64 a2] := (bk).on hb
      have bm : Blk w8 (w5.heap.size) 23 #[.int .i64 x1, .int .i64 y1] := (bm).on hb
      have hbz := hb.size
      have HB8 := Lib.hid ((HB7.out).trans (hb.mono (by first | exact Nat.le_refl _ | omega | (simp; done) | (simp; omega))))
      have hz8 : w.heap.size ≤ w8.heap.size := HB8.out.size
      clear hb hbz
      simp only [tup2]
      have q_ba0 : w8.cell? ⟨w.heap.size, 0, none⟩ = some (.int .i64 a1) := ba.cell 0
      have q_ba1 : w8.cell? ⟨w.heap.size, 1, none⟩ = some (.int .i64 a2) := ba.cell 1
      have q_bb0 : w8.cell? ⟨w.heap.size + 1, 0, none⟩ = some (.int .i64 b1) := bb.cell 0
      have q_bb1 : w8.cell? ⟨w.heap.size + 1, 1, none⟩ = some (.int .i64 b2) := bb.cell 1
      have q_bs0 : w8.cell? ⟨w3.heap.size, 0, none⟩ = some (.int .i64 x) := bs.cell 0
      have q_bs1 : w8.cell? ⟨w3.heap.size, 1, none⟩ = some (.int .i64 y) := bs.cell 1
      have q_bk0 : w8.cell? ⟨w4.heap.size, 0, none⟩ = some (.int .i64 a1) := bk.cell 0
      have q_bk1 : w8.cell? ⟨w4.heap.size, 1, none⟩ = some (.int .i64 a2) := bk.cell 1
      have q_bm0 : w8.cell? ⟨w5.heap.size, 0, none⟩ = some (.int .i64 x1) := bm.cell 0
      have q_bm1 : w8.cell? ⟨w5.heap.size, 1, none⟩ = some (.int .i64 y1) := bm.cell 1
      have l_ba : w.heap.size < w8.heap.size := ba.lt
      have l_bb : w.heap.size + 1 < w8.heap.size := bb.lt
      have l_bs : w3.heap.size < w8.heap.size := bs.lt
      have l_bk : w4.heap.size < w8.heap.size := bk.lt
      have l_bm : w5.heap.size < w8.heap.size := bm.lt
      have hT := HT.out
      go_wp2_with fail
      refine (qawake_any _ (HX.out.below (HB8.out))).mono ?_
      rintro e w9 ⟨rfl, hb⟩
      clear q_ba0 q_ba1 q_bb0 q_bb1 q_bs0 q_bs1 q_bk0 q_bk1 q_bm0 q_bm1 l_ba l_bb l_bs l_bk l_bm
      have ba : Blk w9 (w.heap.size) 23 #[.int .i64 a1, .int .i64 a2] := (ba).on hb
      have bb : Blk w9 (w.heap.size + 1) 23 #[.int .i64 b1, .int .i64 b2] := (bb).on hb
      have bs : Blk w9 (w3.heap.size) 23 #[.int .i64 x, .int .i64 y] := (bs).on hb
      have bk : Blk w9 (w4.heap.size) 23 #[.int .i64 a1, .int .i64 a2] := (bk).on hb
      have bm : Blk w9 (w5.heap.size) 23 #[.int .i64 x1, .int .i64 y1] := (bm).on hb
      have hbz := hb.size
      have HB9 := Lib.hid ((HB8.out).trans (hb.mono (by first | exact Nat.le_refl _ | omega | (simp; done) | (simp; omega))))
      have hz9 : w.heap.size ≤ w9.heap.size := HB9.out.size
      clear hb hbz
      go_wp2_with fail
      go_ret
      exact ⟨rfl, HB9.out⟩
  · skip
    have hb : (e == 0) = false := beq_eq_false_iff_ne.2 he
    clear he
    go_wp2_with fail
    refine (CM.out _).mono ?_
    rintro e w4 ⟨rfl, hb⟩
    clear q_ba0 q_ba1 q_bb0 q_bb1 l_ba l_bb
    have ba : Blk w4 (w.heap.size) 23 #[.int .i64 a1, .int .i64 a2] := ((ba).alloc _).on hb
    have bb : Blk w4 (w.heap.size + 1) 23 #[.int .i64 b1, .int .i64 b2] := ((bb).alloc _).on hb
    have bs : Blk w4 (w3.heap.size) 23 #[.int .i64 x, .int .i64 y] := (Blk.new _ _ _).on hb
    have hbz := hb.size
    have HB4 := Lib.hid (((HB3.out).alloc (by first | exact Nat.le_refl _ | omega | (simp; done) | (simp; omega)) _).trans (hb.mono (by first | exact Nat.le_refl _ | omega | (simp; done) | (simp; omega))))
    have hz4 : w.heap.size ≤ w4.heap.size := HB4.out.size
    clear hb hbz
    simp only [tupR, agg2]
    have q_ba0 : w4.cell? ⟨w.heap.size, 0, none⟩ = some (.int .i64 a1) := ba.cell 0
    have q_ba1 : w4.cell? ⟨w.heap.size, 1, none⟩ = some (.int .i64 a2) := ba.cell 1
    have q_bb0 : w4.cell? ⟨w.heap.size + 1, 0, none⟩ = some (.int .i64 b1) := bb.cell 0
    have q_bb1 : w4.cell? ⟨w.heap.size + 1, 1, none⟩ = some (.int .i64 b2) := bb.cell 1
    have q_bs0 : w4.cell? ⟨w3.heap.size, 0, none⟩ = some (.int .i64 x) := bs.cell 0
    have q_bs1 : w4.cell? ⟨w3.heap.size, 1, none⟩ = some (.int .i64 y) := bs.cell 1
    have l_ba : w.heap.size < w4.heap.size := ba.lt
    have l_bb : w.heap.size + 1 < w4.heap.size := bb.lt
    have l_bs : w3.heap.size < w4.heap.size := bs.lt
    by_cases h1 : e1 = 0
    · subst h1
      by_cases h2 : b1 = 0
      · skip
        have hb2 : (b1 != 0) = false := by rw [h2]; rfl
        clear h2
        go_wp2_with fail
        refine (CF.out _).mono ?_
        rintro e w5 ⟨rfl, hb⟩
        clear q_ba0 q_ba1 q_bb0 q_bb1 q_bs0 q_bs1 l_ba l_bb l_bs
        have ba : Blk w5 (w.heap.size) 23 #[.int .i64 a1, .int .i64 a2] := ((ba).alloc _).on hb
        have bb : Blk w5 (w.heap.size + 1) 23 #[.int .i64 b1, .int .i64 b2] := ((bb).alloc _).on hb
        have bs : Blk w5 (w3.heap.size) 23 #[.int .i64 x, .int .i64 y] := ((bs).alloc _).on hb
        have bm : Blk w5 (w4.heap.size) 23 #[.int .i64 x1, .int .i64 y1] := (Blk.new _ _ _).on hb
        have hbz := hb.size
        have HB5 := Lib.hid (((HB4.out).alloc (by first | exact Nat.le_refl _ | omega | (simp; done) | (simp; omega)) _).trans (hb.mono (by first | exact Nat.le_refl _ | omega | (simp; done) | (simp; omega))))
        have hz5 : w.heap.size ≤ w5.heap.size := HB5.out.size
        clear hb hbz
        have q_ba0 : w5.cell? ⟨w.heap.size, 0, none⟩ = some (.int .i64 a1) := ba.cell 0
        have q_ba1 : w5.cell? ⟨w.heap.size, 1, none⟩ = some (.int .i64 a2) := ba.cell 1
        have q_bb0 : w5.cell? ⟨w.heap.size + 1, 0, none⟩ = some (.int .i64 b1) := bb.cell 0
        have q_bb1 : w5.cell? ⟨w.heap.size + 1, 1, none⟩ = some (.int .i64 b2) := bb.cell 1
        have q_bs0 : w5.cell? ⟨w3.heap.size, 0, none⟩ = some (.int .i64 x) := bs.cell 0
        have q_bs1 : w5.cell? ⟨w3.heap.size, 1, none⟩ = some (.int .i64 y) := bs.cell 1
        have q_bm0 : w5.cell? ⟨w4.heap.size, 0, none⟩ = some (.int .i64 x1) := bm.cell 0
        have q_bm1 : w5.cell? ⟨w4.heap.size, 1, none⟩ = some (.int .i64 y1) := bm.cell 1
        have l_ba : w.heap.size < w5.heap.size := ba.lt
        have l_bb : w.heap.size + 1 < w5.heap.size := bb.lt
        have l_bs : w3.heap.size < w5.heap.size := bs.lt
        have l_bm : w4.heap.size < w5.heap.size := bm.lt
        go_wp2_with fail
        refine (CC.out _).mono ?_
        rintro e w6 ⟨rfl, hb⟩
        clear q_ba0 q_ba1 q_bb0 q_bb1 q_bs0 q_bs1 q_bm0 q_bm1 l_ba l_bb l_bs l_bm
        have ba : Blk w6 (w.heap.size) 23 #[.int .i64 a1, .int .i64 a2] := (ba).on hb
        have bb : Blk w6 (w.heap.size + 1) 23 #[.int .i64 b1, .int .i64 b2] := (bb).on hb
        have bs : Blk w6 (w3.heap.size) 23 #[.int .i64 x, .int .i64 y] := (bs).on hb
        have bm : Blk w6 (w4.heap.size) 23 #[.int .i64 x1, .int .i64 y1] := (bm).on hb
        have hbz := hb.size
        have HB6 := Lib.hid ((HB5.out).trans (hb.mono (by first | exact Nat.le_refl _ | omega | (simp; done) | (simp; omega))))
        have hz6 : w.heap.size ≤ w6.heap.size := HB6.out.size
        clear hb hbz
        have q_ba0 : w6.cell? ⟨w.heap.size, 0, none⟩ = some (.int .i64 a1) := ba.cell 0
        have q_ba1 : w6.cell? ⟨w.heap.size, 1, none⟩ = some (.int .i64 a2) := ba.cell 1
        have q_bb0 : w6.cell? ⟨w.heap.size + 1, 0, none⟩ = some (.int .i64 b1) := bb.cell 0
        have q_bb1 : w6.cell? ⟨w.heap.size + 1, 1, none⟩ = some (.int .i64 b2) := bb.cell 1
        have q_bs0 : w6.cell? ⟨w3.heap.size, 0, none⟩ = some (.int .i64 x) := bs.cell 0
        have q_bs1 : w6.cell? ⟨w3.heap.size, 1, none⟩ = some (.int .i64 y) := bs.cell 1
        have q_bm0 : w6.cell? ⟨w4.heap.size, 0, none⟩ = some (.int .i64 x1) := bm.cell 0
        have q_bm1 : w6.cell? ⟨w4.heap.size, 1, none⟩ = some (.int .i64 y1) := bm.cell 1
        have l_ba : w.heap.size < w6.heap.size := ba.lt
        have l_bb : w.heap.size + 1 < w6.heap.size := bb.lt
        have l_bs : w3.heap.size < w6.heap.size := bs.lt
        have l_bm : w4.heap.size < w6.heap.size := bm.lt
        go_wp2_with fail
        refine (CO.out _).mono ?_
        rintro e w7 ⟨rfl, hb⟩
        clear q_ba0 q_ba1 q_bb0 q_bb1 q_bs0 q_bs1 q_bm0 q_bm1 l_ba l_bb l_bs l_bm
        have ba : Blk w7 (w.heap.size) 23 #[.int .i64 a1, .int .i64 a2] := (ba).on hb
        have bb : Blk w7 (w.heap.size + 1) 23 #[.int .i64 b1, .int .i64 b2] := (bb).on hb
        have bs : Blk w7 (w3.heap.size) 23 #[.int .i64 x, .int .i64 y] := (bs).on hb
        have bm : Blk w7 (w4.heap.size) 23 #[.int .i64 x1, .int .i64 y1] := (bm).on hb
        have hbz := hb.size
        have HB7 := Lib.hid ((HB6.out).trans (hb.mono (by first | exact Nat.le_refl _ | omega | (simp; done) | (simp; omega))))
        have hz7 : w.heap.size ≤ w7.heap.size := HB7.out.size
        clear hb hbz
        simp only [tup2]
        have q_ba0 : w7.cell? ⟨w.heap.size, 0, none⟩ = some (.int .i64 a1) := ba.cell 0
        have q_ba1 : w7.cell? ⟨w.heap.size, 1, none⟩ = some (.int .i64 a2) := ba.cell 1
        have q_bb0 : w7.cell? ⟨w.heap.size + 1, 0, none⟩ = some (.int .i64 b1) := bb.cell 0
        have q_bb1 : w7.cell? ⟨w.heap.size + 1, 1, none⟩ = some (.int .i64 b2) := bb.cell 1
        have q_bs0 : w7.cell? ⟨w3.heap.size, 0, none⟩ = some (.int .i64 x) := bs.cell 0
        have q_bs1 : w7.cell? ⟨w3.heap.size, 1, none⟩ = some (.int .i64 y) := bs.cell 1
        have q_bm0 : w7.cell? ⟨w4.heap.size, 0, none⟩ = some (.int .i64 x1) := bm.cell 0
        have q_bm1 : w7.cell? ⟨w4.heap.size, 1, none⟩ = some (.int .i64 y1) := bm.cell 1
        have l_ba : w.heap.size < w7.heap.size := ba.lt
        have l_bb : w.heap.size + 1 < w7.heap.size := bb.lt
        have l_bs : w3.heap.size < w7.heap.size := bs.lt
        have l_bm : w4.heap.size < w7.heap.size := bm.lt
        have hT := HT.out
        go_wp2_with fail
        refine (qawake_any _ (HX.out.below (HB7.out))).mono ?_
        rintro e w8 ⟨rfl, hb⟩
        clear q_ba0 q_ba1 q_bb0 q_bb1 q_bs0 q_bs1 q_bm0 q_bm1 l_ba l_bb l_bs l_bm
        have ba : Blk w8 (w.heap.size) 23 #[.int .i64 a1, .int .i64 a2] := (ba).on hb
        have bb : Blk w8 (w.heap.size + 1) 23 #[.int .i64 b1, .int .i64 b2] := (bb).on hb
        have bs : Blk w8 (w3.heap.size) 23 #[.int .i64 x, .int .i64 y] := (bs).on hb
        have bm : Blk w8 (w4.heap.size) 23 #[.int .i64 x1, .int .i64 y1] := (bm).on hb
        have hbz := hb.size
        have HB8 := Lib.hid ((HB7.out).trans (hb.mono (by first | exact Nat.le_refl _ | omega | (simp; done) | (simp; omega))))
        have hz8 : w.heap.size ≤ w8.heap.size := HB8.out.size
        clear hb hbz
        go_wp2_with fail
        go_ret
        exact ⟨rfl, HB8.out⟩
      · skip
        have hb2 : (b1 != 0) = true := by rw [bne_iff_ne]; exact h2
        have HC := Lib.hid (HM.out _ rfl h2)
        clear h2
        go_wp2_with fail
        refine (qDiv_any _ _ _ _ _).mono ?_
        rintro e w5 ⟨rfl, hb⟩
        clear q_ba0 q_ba1 q_bb0 q_bb1 q_bs0 q_bs1 l_ba l_bb l_bs
        have ba : Blk w5 (w.heap.size) 23 #[.int .i64 a1, .int .i64 a2] := ((ba).alloc _).on hb
        have bb : Blk w5 (w.heap.size + 1) 23 #[.int .i64 b1, .int .i64 b2] := ((bb).alloc _).on hb
        have bs : Blk w5 (w3.heap.size) 23 #[.int .i64 x, .int .i64 y] := ((bs).alloc _).on hb
        have bm : Blk w5 (w4.heap.size) 23 #[.int .i64 x1, .int .i64 y1] := (Blk.new _ _ _).on hb
        have hbz := hb.size
        have HB5 := Lib.hid (((HB4.out).alloc (by first | exact Nat.le_refl _ | omega | (simp; done) | (simp; omega)) _).trans (hb.mono (by first | exact Nat.le_refl _ | omega | (simp; done) | (simp; omega))))
        have hz5 : w.heap.size ≤ w5.heap.size := HB5.out.size
        clear hb hbz
        rw [show divR x1 y1 b1 b2 = ((a1, a2), 0) from HC.out]
        simp only [tupR, agg2]
        have q_ba0 : w5.cell? ⟨w.heap.size, 0, none⟩ = some (.int .i64 a1) := ba.cell 0
        have q_ba1 : w5.cell? ⟨w.heap.size, 1, none⟩ = some (.int .i64 a2) := ba.cell 1
        have q_bb0 : w5.cell? ⟨w.heap.size + 1, 0, none⟩ = some (.int .i64 b1) := bb.cell 0
        have q_bb1 : w5.cell? ⟨w.heap.size + 1, 1, none⟩ = some (.int .i64 b2) := bb.cell 1
        have q_bs0 : w5.cell? ⟨w3.heap.size, 0, none⟩ = some (.int .i64 x) := bs.cell 0
        have q_bs1 : w5.cell? ⟨w3.heap.size, 1, none⟩ = some (.int .i64 y) := bs.cell 1
        have q_bm0 : w5.cell? ⟨w4.heap.size, 0, none⟩ = some (.int .i64 x1) := bm.cell 0
        have q_bm1 : w5.cell? ⟨w4.heap.size, 1, none⟩ = some (.int .i64 y1) := bm.cell 1
        have l_ba : w.heap.size < w5.heap.size := ba.lt
        have l_bb : w.heap.size + 1 < w5.heap.size := bb.lt
        have l_bs : w3.heap.size < w5.heap.size := bs.lt
        have l_bm : w4.heap.size < w5.heap.size := bm.lt
        go_wp2_with fail
        refine (CF.out _).mono ?_
        rintro e w6 ⟨rfl, hb⟩
        clear q_ba0 q_ba1 q_bb0 q_bb1 q_bs0 q_bs1 q_bm0 q_bm1 l_ba l_bb l_bs l_bm
        have ba : Blk w6 (w.heap.size) 23 #[.int .i64 a1, .int .i64 a2] := ((ba).alloc _).on hb
        have bb : Blk w6 (w.heap.size + 1) 23 #[.int .i64 b1, .int .i64 b2] := ((bb).alloc _).on hb
        have bs : Blk w6 (w3.heap.size) 23 #[.int .i64 x, .int .i64 y] := ((bs).alloc _).on hb
        have bm : Blk w6 (w4.heap.size) 23 #[.int .i64 x1, .int .i64 y1] := ((bm).alloc _).on hb
        have bk2 : Blk w6 (w5.heap.size) 23 #[.int .i64 a1, .int .i64 a2] := (Blk.new _ _ _).on hb
        have hbz := hb.size
        have HB6 := Lib.hid (((HB5.out).alloc (by first | exact Nat.le_refl _ | omega | (simp; done) | (simp; omega)) _).trans (hb.mono (by first | exact Nat.le_refl _ | omega | (simp; done) | (simp; omega))))
        have hz6 : w.heap.size ≤ w6.heap.size := HB6.out.size
        clear hb hbz
        have q_ba0 : w6.cell? ⟨w.heap.size, 0, none⟩ = some (.int .i64 a1) := ba.cell 0
        have q_ba1 : w6.cell? ⟨w.heap.size, 1, none⟩ = some (.int .i64 a2) := ba.cell 1
        have q_bb0 : w6.cell? ⟨w.heap.size + 1, 0, none⟩ = some (.int .i64 b1) := bb.cell 0
        have q_bb1 : w6.cell? ⟨w.heap.size + 1, 1, none⟩ = some (.int .i64 b2) := bb.cell 1
        have q_bs0 : w6.cell? ⟨w3.heap.size, 0, none⟩ = some (.int .i64 x) := bs.cell 0
        have q_bs1 : w6.cell? ⟨w3.heap.size, 1, none⟩ = some (.int .i64 y) := bs.cell 1
        have q_bm0 : w6.cell? ⟨w4.heap.size, 0, none⟩ = some (.int .i64 x1) := bm.cell 0
        have q_bm1 : w6.cell? ⟨w4.heap.size, 1, none⟩ = some (.int .i64 y1) := bm.cell 1
        have q_bk20 : w6.cell? ⟨w5.heap.size, 0, none⟩ = some (.int .i64 a1) := bk2.cell 0
        have q_bk21 : w6.cell? ⟨w5.heap.size, 1, none⟩ = some (.int .i64 a2) := bk2.cell 1
        have l_ba : w.heap.size < w6.heap.size := ba.lt
        have l_bb : w.heap.size + 1 < w6.heap.size := bb.lt
        have l_bs : w3.heap.size < w6.heap.size := bs.lt
        have l_bm : w4.heap.size < w6.heap.size := bm.lt
        have l_bk2 : w5.heap.size < w6.heap.size := bk2.lt
        go_wp2_with fail
        refine (CC.out _).mono ?_
        rintro e w7 ⟨rfl, hb⟩
        clear q_ba0 q_ba1 q_bb0 q_bb1 q_bs0 q_bs1 q_bm0 q_bm1 q_bk20 q_bk21 l_ba l_bb l_bs l_bm l_bk2
        have ba : Blk w7 (w.heap.size) 23 #[.int .i64 a1, .int .i64 a2] := (ba).on hb
        have bb : Blk w7 (w.heap.size + 1) 23 #[.int .i64 b1, .int .i64 b2] := (bb).on hb
        have bs : Blk w7 (w3.heap.size) 23 #[.int .i64 x, .int .i64 y] := (bs).on hb
        have bm : Blk w7 (w4.heap.size) 23 #[.int .i64 x1, .int .i64 y1] := (bm).on hb
        have bk2 : Blk w7 (w5.heap.size) 23 #[.int .i64 a1, .int .i64 a2] := (bk2).on hb
        have hbz := hb.size
        have HB7 := Lib.hid ((HB6.out).trans (hb.mono (by first | exact Nat.le_refl _ | omega | (simp; done) | (simp; omega))))
        have hz7 : w.heap.size ≤ w7.heap.size := HB7.out.size
        clear hb hbz
        have q_ba0 : w7.cell? ⟨w.heap.size, 0, none⟩ = some (.int .i64 a1) := ba.cell 0
        have q_ba1 : w7.cell? ⟨w.heap.size, 1, none⟩ = some (.int .i64 a2) := ba.cell 1
        have q_bb0 : w7.cell? ⟨w.heap.size + 1, 0, none⟩ = some (.int .i64 b1) := bb.cell 0
        have q_bb1 : w7.cell? ⟨w.heap.size + 1, 1, none⟩ = some (.int .i64 b2) := bb.cell 1
        have q_bs0 : w7.cell? ⟨w3.heap.size, 0, none⟩ = some (.int .i64 x) := bs.cell 0
        have q_bs1 : w7.cell? ⟨w3.heap.size, 1, none⟩ = some (.int .i64 y) := bs.cell 1
        have q_bm0 : w7.cell? ⟨w4.heap.size, 0, none⟩ = some (.int .i64 x1) := bm.cell 0
        have q_bm1 : w7.cell? ⟨w4.heap.size, 1, none⟩ = some (.int .i64 y1) := bm.cell 1
        have q_bk20 : w7.cell? ⟨w5.heap.size, 0, none⟩ = some (.int .i64 a1) := bk2.cell 0
        have q_bk21 : w7.cell? ⟨w5.heap.size, 1, none⟩ = some (.int .i64 a2) := bk2.cell 1
        have l_ba : w.heap.size < w7.heap.size := ba.lt
        have l_bb : w.heap.size + 1 < w7.heap.size := bb.lt
        have l_bs : w3.heap.size < w7.heap.size := bs.lt
        have l_bm : w4.heap.size < w7.heap.size := bm.lt
        have l_bk2 : w5.heap.size < w7.heap.size := bk2.lt
        go_wp2_with fail
        refine (CO.out _).mono ?_
        rintro e w8 ⟨rfl, hb⟩
        clear q_ba0 q_ba1 q_bb0 q_bb1 q_bs0 q_bs1 q_bm0 q_bm1 q_bk20 q_bk21 l_ba l_bb l_bs l_bm l_bk2
        have ba : Blk w8 (w.heap.size) 23 #[.int .i64 a1, .int .i64 a2] := (ba).on hb
        have bb : Blk w8 (w.heap.size + 1) 23 #[.int .i64 b1, .int .i64 b2] := (bb).on hb
        have bs : Blk w8 (w3.heap.size) 23 #[.int .i64 x, .int .i64 y] := (bs).on hb
        have bm : Blk w8 (w4.heap.size) 23 #[.int .i64 x1, .int .i64 y1] := (bm).on hb
        have bk2 : Blk w8 (w5.heap.size) 23 #[.int .i64 a1, .int .i64 a2] := (bk2).on hb
        have hbz := hb.size
        have HB8 := Lib.hid ((HB7.out).trans (hb.mono (by first | exact Nat.le_refl _ | omega | (simp; done) | (simp; omega))))
        have hz8 : w.heap.size ≤ w8.heap.size := HB8.out.size
        clear hb hbz
        simp only [tup2]
        have q_ba0 : w8.cell? ⟨w.heap.size, 0, none⟩ = some (.int .i64 a1) := ba.cell 0
        have q_ba1 : w8.cell? ⟨w.heap.size, 1, none⟩ = some (.int .i64 a2) := ba.cell 1
        have q_bb0 : w8.cell? ⟨w.heap.size + 1, 0, none⟩ = some (.int .i64 b1) := bb.cell 0
        have q_bb1 : w8.cell? ⟨w.heap.size + 1, 1, none⟩ = some (.int .i64 b2) := bb.cell 1
        have q_bs0 : w8.cell? ⟨w3.heap.size, 0, none⟩ = some (.int .i64 x) := bs.cell 0
        have q_bs1 : w8.cell? ⟨w3.heap.size, 1, none⟩ = some (.int .i64 y) := bs.cell 1
        have q_bm0 : w8.cell? ⟨w4.heap.size, 0, none⟩ = some (.int .i64 x1) := bm.cell 0
        have q_bm1 : w8.cell? ⟨w4.heap.size, 1, none⟩ = some (.int .i64 y1) := bm.cell 1
        have q_bk20 : w8.cell? ⟨w5.heap.size, 0, none⟩ = some (.int .i64 a1) := bk2.cell 0
        have q_bk21 : w8.cell? ⟨w5.heap.size, 1, none⟩ = some (.int .i64 a2) := bk2.cell 1
        have l_ba : w.heap.size < w8.heap.size := ba.lt
        have l_bb : w.heap.size + 1 < w8.heap.size := bb.lt
        have l_bs : w3.heap.size < w8.heap.size := bs.lt
        have l_bm : w4.heap.size < w8.heap.size := bm.lt
        have l_bk2 : w5.heap.size < w8.heap.size := bk2.lt
        have hT := HT.out
        go_wp2_with fail
        refine (qawake_any _ (HX.out.below (HB8.out))).mono ?_
        rintro e w9 ⟨rfl, hb⟩
        clear q_ba0 q_ba1 q_bb0 q_bb1 q_bs0 q_bs1 q_bm0 q_bm1 q_bk20 q_bk21 l_ba l_bb l_bs l_bm l_bk2
        have ba : Blk w9 (w.heap.size) 23 #[.int .i64 a1, .int .i64 a2] := (ba).on hb
        have bb : Blk w9 (w.heap.size + 1) 23 #[.int .i64 b1, .int .i64 b2] := (bb).on hb
        have bs : Blk w9 (w3.heap.size) 23 #[.int .i64 x, .int .i64 y] := (bs).on hb
        have bm : Blk w9 (w4.heap.size) 23 #[.int .i64 x1, .int .i64 y1] := (bm).on hb
        have bk2 : Blk w9 (w5.heap.size) 23 #[.int .i64 a1, .int .i64 a2] := (bk2).on hb
        have hbz := hb.size
        have HB9 := Lib.hid ((HB8.out).trans (hb.mono (by first | exact Nat.le_refl _ | omega | (simp; done) | (simp; omega))))
        have hz9 : w.heap.size ≤ w9.heap.size := HB9.out.size
        clear hb hbz
        go_wp2_with fail
        go_ret
        exact ⟨rfl, HB9.out⟩
    · skip
      have hb1 : (e1 == 0) = false := beq_eq_false_iff_ne.2 h1
      clear h1
      go_wp2_with fail
      refine (CF.out _).mono ?_
      rintro e w5 ⟨rfl, hb⟩
      clear q_ba0 q_ba1 q_bb0 q_bb1 q_bs0 q_bs1 l_ba l_bb l_bs
      have ba : Blk w5 (w.heap.size) 23 #[.int .i64 a1, .int .i64 a2] := ((ba).alloc _).on hb
      have bb : Blk w5 (w.heap.size + 1) 23 #[.int .i64 b1, .int .i64 b2] := ((bb).alloc _).on hb
      have bs : Blk w5 (w3.heap.size) 23 #[.int .i64 x, .int .i64 y] := ((bs).alloc _).on hb
      have bm : Blk w5 (w4.heap.size) 23 #[.int .i64 x1, .int .i64 y1] := (Blk.new _ _ _).on hb
      have hbz := hb.size
      have HB5 := Lib.hid (((HB4.out).alloc (by first | exact Nat.le_refl _ | omega | (simp; done) | (simp; omega)) _).trans (hb.mono (by first | exact Nat.le_refl _ | omega | (simp; done) | (simp; omega))))
      have hz5 : w.heap.size ≤ w5.heap.size := HB5.out.size
      clear hb hbz
      have q_ba0 : w5.cell? ⟨w.heap.size, 0, none⟩ = some (.int .i64 a1) := ba.cell 0
      have q_ba1 : w5.cell? ⟨w.heap.size, 1, none⟩ = some (.int .i64 a2) := ba.cell 1
      have q_bb0 : w5.cell? ⟨w.heap.size + 1, 0, none⟩ = some (.int .i64 b1) := bb.cell 0
      have q_bb1 : w5.cell? ⟨w.heap.size + 1, 1, none⟩ = some (.int .i64 b2) := bb.cell 1
      have q_bs0 : w5.cell? ⟨w3.heap.size, 0, none⟩ = some (.int .i64 x) := bs.cell 0
      have q_bs1 : w5.cell? ⟨w3.heap.size, 1, none⟩ = some (.int .i64 y) := bs.cell 1
      have q_bm0 : w5.cell? ⟨w4.heap.size, 0, none⟩ = some (.int .i64 x1) := bm.cell 0
      have q_bm1 : w5.cell? ⟨w4.heap.size, 1, none⟩ = some (.int .i64 y1) := bm.cell 1
      have l_ba : w.heap.size < w5.heap.size := ba.lt
      have l_bb : w.heap.size + 1 < w5.heap.size := bb.lt
      have l_bs : w3.heap.size < w5.heap.size := bs.lt
      have l_bm : w4.heap.size < w5.heap.size := bm.lt
      go_wp2_with fail
      refine (CC.out _).mono ?_
      rintro e w6 ⟨rfl, hb⟩
      clear q_ba0 q_ba1 q_bb0 q_bb1 q_bs0 q_bs1 q_bm0 q_bm1 l_ba l_bb l_bs l_bm
      have ba : Blk w6 (w.heap.size) 23 #[.int .i64 a1, .int .i64 a2] := (ba).on hb
      have bb : Blk w6 (w.heap.size + 1) 23 #[.int .i64 b1, .int .i64 b2] := (bb).on hb
      have bs : Blk w6 (w3.heap.size) 23 #[.int .i64 x, .int .i64 y] := (bs).on hb
      have bm : Blk w6 (w4.heap.size) 23 #[.int .i64 x1, .int .i64 y1] := (bm).on hb
      have hbz := hb.size
      have HB6 := Lib.hid ((HB5.out).trans (hb.mono (by first | exact Nat.le_refl _ | omega | (simp; done) | (simp; omega))))
      have hz6 : w.heap.size ≤ w6.heap.size := HB6.out.size
      clear hb hbz
      have q_ba0 : w6.cell? ⟨w.heap.size, 0, none⟩ = some (.int .i64 a1) := ba.cell 0
      have q_ba1 : w6.cell? ⟨w.heap.size, 1, none⟩ = some (.int .i64 a2) := ba.cell 1
      have q_bb0 : w6.cell? ⟨w.heap.size + 1, 0, none⟩ = some (.int .i64 b1) := bb.cell 0
      have q_bb1 : w6.cell? ⟨w.heap.size + 1, 1, none⟩ = some (.int .i64 b2) := bb.cell 1
      have q_bs0 : w6.cell? ⟨w3.heap.size, 0, none⟩ = some (.int .i64 x) := bs.cell 0
      have q_bs1 : w6.cell? ⟨w3.heap.size, 1, none⟩ = some (.int .i64 y) := bs.cell 1
      have q_bm0 : w6.cell? ⟨w4.heap.size, 0, none⟩ = some (.int .i64 x1) := bm.cell 0
      have q_bm1 : w6.cell? ⟨w4.heap.size, 1, none⟩ = some (.int .i64 y1) := bm.cell 1
      have l_ba : w.heap.size < w6.heap.size := ba.lt
      have l_bb : w.heap.size + 1 < w6.heap.size := bb.lt
      have l_bs : w3.heap.size < w6.heap.size := bs.lt
      have l_bm : w4.heap.size < w6.heap.size := bm.lt
      go_wp2_with fail
      refine (CO.out _).mono ?_
      rintro e w7 ⟨rfl, hb⟩
      clear q_ba0 q_ba1 q_bb0 q_bb1 q_bs0 q_bs1 q_bm0 q_bm1 l_ba l_bb l_bs l_bm
      have ba : Blk w7 (w.heap.size) 23 #[.int .i64 a1, .int .i64 a2] := (ba).on hb
      have bb : Blk w7 (w.heap.size + 1) 23 #[.int .i64 b1, .int .i64 b2] := (bb).on hb
      have bs : Blk w7 (w3.heap.size) 23 #[.int .i64 x, .int .i64 y] := (bs).on hb
      have bm : Blk w7 (w4.heap.size) 23 #[.int .i64 x1, .int .i64 y1] := (bm).on hb
      have hbz := hb.size
      have HB7 := Lib.hid ((HB6.out).trans (hb.mono (by first | exact Nat.le_refl _ | omega | (simp; done) | (simp; omega))))
      have hz7 : w.heap.size ≤ w7.heap.size := HB7.out.size
      clear hb hbz
      simp only [tup2]
      have q_ba0 : w7.cell? ⟨w.heap.size, 0, none⟩ = some (.int .i64 a1) := ba.cell 0
      have q_ba1 : w7.cell? ⟨w.heap.size, 1, none⟩ = some (.int .i64 a2) := ba.cell 1
      have q_bb0 : w7.cell? ⟨w.heap.size + 1, 0, none⟩ = some (.int .i64 b1) := bb.cell 0
      have q_bb1 : w7.cell? ⟨w.heap.size + 1, 1, none⟩ = some (.int .i64 b2) := bb.cell 1
      have q_bs0 : w7.cell? ⟨w3.heap.size, 0, none⟩ = some (.int .i64 x) := bs.cell 0
      have q_bs1 : w7.cell? ⟨w3.heap.size, 1, none⟩ = some (.int .i64 y) := bs.cell 1
      have q_bm0 : w7.cell? ⟨w4.heap.size, 0, none⟩ = some (.int .i64 x1) := bm.cell 0
      have q_bm1 : w7.cell? ⟨w4.heap.size, 1, none⟩ = some (.int .i64 y1) := bm.cell 1
      have l_ba : w.heap.size < w7.heap.size := ba.lt
      have l_bb : w.heap.size + 1 < w7.heap.size := bb.lt
      have l_bs : w3.heap.size < w7.heap.size := bs.lt
      have l_bm : w4.heap.size < w7.heap.size := bm.lt
      have hT := HT.out
      go_wp2_with fail
      refine (qawake_any _ (HX.out.below (HB7.out))).mono ?_
      rintro e w8 ⟨rfl, hb⟩
      clear q_ba0 q_ba1 q_bb0 q_bb1 q_bs0 q_bs1 q_bm0 q_bm1 l_ba l_bb l_bs l_bm
      have ba : Blk w8 (w.heap.size) 23 #[.int .i64 a1, .int .i64 a2] := (ba).on hb
      have bb : Blk w8 (w.heap.size + 1) 23 #[.int .i64 b1, .int .i64 b2] := (bb).on hb
      have bs : Blk w8 (w3.heap.size) 23 #[.int .i64 x, .int .i64 y] := (bs).on hb
      have bm : Blk w8 (w4.heap.size) 23 #[.int .i64 x1, .int .i64 y1] := (bm).on hb
      have hbz := hb.size
      have HB8 := Lib.hid ((HB7.out).trans (hb.mono (by first | exact Nat.le_refl _ | omega | (simp; done) | (simp; omega))))
      have hz8 : w.heap.size ≤ w8.heap.size := HB8.out.size
      clear hb hbz
      go_wp2_with fail
      go_ret
      exact ⟨rfl, HB8.out⟩
end Go.Proofs.YtpkekfhnpcjgkaaDoor
