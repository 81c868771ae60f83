/- The examples of the chapter of fractions. -/
import Derived.Test.YtpkekfhnpcjgkaaDoorR9
import Derived.Test.YtpkekfhnpcjgkaaDoorRC
namespace Go.Proofs.YtpkekfhnpcjgkaaDoor
open Go.RowKit
open Rt

theorem qa1 : mkI 6 (-4) = ((-3, 2), 0) := by decide +kernel
theorem qa2 : addR 1 2 1 3 = ((5, 6), 0) := by decide +kernel
theorem qa3 : cmR 1 3 1 2 = -1 := by decide +kernel
theorem qa4 : flR (-3) 2 = -2 := by decide +kernel
theorem qa5 : ceR (-3) 2 = -1 := by decide +kernel
theorem qa6 : omR (-2) 3 10 = (-7, 0) := by decide +kernel
theorem qa7 : omR 1000000000 1 1000000000000 = (0, 8) := by decide +kernel
theorem qa8 : fmB (-3) 2 = ⟨#[45, 51, 47, 50]⟩ := by decide +kernel
theorem qa9 : prS ⟨#[45, 51, 47, 50]⟩ = ((-3, 2), 0) := by decide +kernel
theorem qa10 : prS ⟨#[50, 47, 52]⟩ = ((0, 0), 1) := by decide +kernel
theorem qa11 : mkI 1 0 = ((0, 0), 9) := by decide +kernel
theorem qa12 : vR 0 1 = true := by decide +kernel
theorem qa13 : vR 0 2 = false := by decide +kernel
set_option maxHeartbeats 4000000 in
set_option maxRecDepth 100000 in
theorem qawake_any (w : World) (hX : LaidW w) : Calls Tryd.prog 19 #[] w fun e w' => e = .returned (.bool true) ∧ Below w.heap.size w w' := by
  have HX := Lib.hid hX
  clear hX
  go_enter Tryd.func19, Tryd.ntmps19
  go_wp2_with fail
  refine (qMake_any _ _ _).mono ?_
  rintro e w1 ⟨rfl, hb⟩
  have bh : Blk w1 (w.heap.size) 23 #[.int .i64 1, .int .i64 2] := ((Blk.new _ _ _).alloc _).on hb
  have bt : Blk w1 (w.heap.size + 1) 23 #[.int .i64 1, .int .i64 3] := (Blk.new1 _ _ _ _).on hb
  have hbz := hb.size
  have HB1 := Lib.hid ((((Below.refl w.heap.size w).alloc (by first | exact Nat.le_refl _ | omega | (simp; done) | (simp; omega)) _).alloc (by first | exact Nat.le_refl _ | omega | (simp; done) | (simp; omega)) _).trans (hb.mono (by first | exact Nat.le_refl _ | omega | (simp; done) | (simp; omega))))
  have hz1 : w.heap.size ≤ w1.heap.size := HB1.out.size
  clear hb hbz
  rw [qa1]
  simp only [tupR, agg2]
  have q_bh0 : w1.cell? ⟨w.heap.size, 0, none⟩ = some (.int .i64 1) := bh.cell 0
  have q_bh1 : w1.cell? ⟨w.heap.size, 1, none⟩ = some (.int .i64 2) := bh.cell 1
  have q_bt0 : w1.cell? ⟨w.heap.size + 1, 0, none⟩ = some (.int .i64 1) := bt.cell 0
  have q_bt1 : w1.cell? ⟨w.heap.size + 1, 1, none⟩ = some (.int .i64 3) := bt.cell 1
  have l_bh : w.heap.size < w1.heap.size := bh.lt
  have l_bt : w.heap.size + 1 < w1.heap.size := bt.lt
  go_wp2_with fail
  refine (qAdd_any _ _ _ _ _).mono ?_
  rintro e w2 ⟨rfl, hb⟩
  clear q_bh0 q_bh1 q_bt0 q_bt1 l_bh l_bt
  have bh : Blk w2 (w.heap.size) 23 #[.int .i64 1, .int .i64 2] := ((bh).alloc _).on hb
  have bt : Blk w2 (w.heap.size + 1) 23 #[.int .i64 1, .int .i64 3] := ((bt).alloc _).on hb
  have bm : Blk w2 (w1.heap.size) 23 #[.int .i64 (-3), .int .i64 2] := (Blk.new _ _ _).on hb
  have hbz := hb.size
  have HB2 := Lib.hid (((HB1.out).alloc (by first | exact Nat.le_refl _ | omega | (simp; done) | (simp; omega)) _).trans (hb.mono (by first | exact Nat.le_refl _ | omega | (simp; done) | (simp; omega))))
  have hz2 : w.heap.size ≤ w2.heap.size := HB2.out.size
  clear hb hbz
  rw [qa2]
  simp only [tupR, agg2]
  have q_bh0 : w2.cell? ⟨w.heap.size, 0, none⟩ = some (.int .i64 1) := bh.cell 0
  have q_bh1 : w2.cell? ⟨w.heap.size, 1, none⟩ = some (.int .i64 2) := bh.cell 1
  have q_bt0 : w2.cell? ⟨w.heap.size + 1, 0, none⟩ = some (.int .i64 1) := bt.cell 0
  have q_bt1 : w2.cell? ⟨w.heap.size + 1, 1, none⟩ = some (.int .i64 3) := bt.cell 1
  have q_bm0 : w2.cell? ⟨w1.heap.size, 0, none⟩ = some (.int .i64 (-3)) := bm.cell 0
  have q_bm1 : w2.cell? ⟨w1.heap.size, 1, none⟩ = some (.int .i64 2) := bm.cell 1
  have l_bh : w.heap.size < w2.heap.size := bh.lt
  have l_bt : w.heap.size + 1 < w2.heap.size := bt.lt
  have l_bm : w1.heap.size < w2.heap.size := bm.lt
  go_wp2_with fail
  refine (qCmp_any _ _ _ _ _).mono ?_
  rintro e w3 ⟨rfl, hb⟩
  clear q_bh0 q_bh1 q_bt0 q_bt1 q_bm0 q_bm1 l_bh l_bt l_bm
  have bh : Blk w3 (w.heap.size) 23 #[.int .i64 1, .int .i64 2] := ((bh).alloc _).on hb
  have bt : Blk w3 (w.heap.size + 1) 23 #[.int .i64 1, .int .i64 3] := ((bt).alloc _).on hb
  have bm : Blk w3 (w1.heap.size) 23 #[.int .i64 (-3), .int .i64 2] := ((bm).alloc _).on hb
  have bs : Blk w3 (w2.heap.size) 23 #[.int .i64 5, .int .i64 6] := (Blk.new _ _ _).on hb
  have hbz := hb.size
  have HB3 := Lib.hid (((HB2.out).alloc (by first | exact Nat.le_refl _ | omega | (simp; done) | (simp; omega)) _).trans (hb.mono (by first | exact Nat.le_refl _ | omega | (simp; done) | (simp; omega))))
  have hz3 : w.heap.size ≤ w3.heap.size := HB3.out.size
  clear hb hbz
  rw [qa3]
  have q_bh0 : w3.cell? ⟨w.heap.size, 0, none⟩ = some (.int .i64 1) := bh.cell 0
  have q_bh1 : w3.cell? ⟨w.heap.size, 1, none⟩ = some (.int .i64 2) := bh.cell 1
  have q_bt0 : w3.cell? ⟨w.heap.size + 1, 0, none⟩ = some (.int .i64 1) := bt.cell 0
  have q_bt1 : w3.cell? ⟨w.heap.size + 1, 1, none⟩ = some (.int .i64 3) := bt.cell 1
  have q_bm0 : w3.cell? ⟨w1.heap.size, 0, none⟩ = some (.int .i64 (-3)) := bm.cell 0
  have q_bm1 : w3.cell? ⟨w1.heap.size, 1, none⟩ = some (.int .i64 2) := bm.cell 1
  have q_bs0 : w3.cell? ⟨w2.heap.size, 0, none⟩ = some (.int .i64 5) := bs.cell 0
  have q_bs1 : w3.cell? ⟨w2.heap.size, 1, none⟩ = some (.int .i64 6) := bs.cell 1
  have l_bh : w.heap.size < w3.heap.size := bh.lt
  have l_bt : w.heap.size + 1 < w3.heap.size := bt.lt
  have l_bm : w1.heap.size < w3.heap.size := bm.lt
  have l_bs : w2.heap.size < w3.heap.size := bs.lt
  go_wp2_with fail
  refine (qFloor_any _ _ _).mono ?_
  rintro e w4 ⟨rfl, hb⟩
  clear q_bh0 q_bh1 q_bt0 q_bt1 q_bm0 q_bm1 q_bs0 q_bs1 l_bh l_bt l_bm l_bs
  have bh : Blk w4 (w.heap.size) 23 #[.int .i64 1, .int .i64 2] := (bh).on hb
  have bt : Blk w4 (w.heap.size + 1) 23 #[.int .i64 1, .int .i64 3] := (bt).on hb
  have bm : Blk w4 (w1.heap.size) 23 #[.int .i64 (-3), .int .i64 2] := (bm).on hb
  have bs : Blk w4 (w2.heap.size) 23 #[.int .i64 5, .int .i64 6] := (bs).on hb
  have hbz := hb.size
  have HB4 := Lib.hid ((HB3.out).trans (hb.mono (by first | exact Nat.le_refl _ | omega | (simp; done) | (simp; omega))))
  have hz4 : w.heap.size ≤ w4.heap.size := HB4.out.size
  clear hb hbz
  rw [qa4]
  have q_bh0 : w4.cell? ⟨w.heap.size, 0, none⟩ = some (.int .i64 1) := bh.cell 0
  have q_bh1 : w4.cell? ⟨w.heap.size, 1, none⟩ = some (.int .i64 2) := bh.cell 1
  have q_bt0 : w4.cell? ⟨w.heap.size + 1, 0, none⟩ = some (.int .i64 1) := bt.cell 0
  have q_bt1 : w4.cell? ⟨w.heap.size + 1, 1, none⟩ = some (.int .i64 3) := bt.cell 1
  have q_bm0 : w4.cell? ⟨w1.heap.size, 0, none⟩ = some (.int .i64 (-3)) := bm.cell 0
  have q_bm1 : w4.cell? ⟨w1.heap.size, 1, none⟩ = some (.int .i64 2) := bm.cell 1
  have q_bs0 : w4.cell? ⟨w2.heap.size, 0, none⟩ = some (.int .i64 5) := bs.cell 0
  have q_bs1 : w4.cell? ⟨w2.heap.size, 1, none⟩ = some (.int .i64 6) := bs.cell 1
  have l_bh : w.heap.size < w4.heap.size := bh.lt
  have l_bt : w.heap.size + 1 < w4.heap.size := bt.lt
  have l_bm : w1.heap.size < w4.heap.size := bm.lt
  have l_bs : w2.heap.size < w4.heap.size := bs.lt
  go_wp2_with fail
  refine (qCeil_any _ _ _).mono ?_
  rintro e w5 ⟨rfl, hb⟩
  clear q_bh0 q_bh1 q_bt0 q_bt1 q_bm0 q_bm1 q_bs0 q_bs1 l_bh l_bt l_bm l_bs
  have bh : Blk w5 (w.heap.size) 23 #[.int .i64 1, .int .i64 2] := (bh).on hb
  have bt : Blk w5 (w.heap.size + 1) 23 #[.int .i64 1, .int .i64 3] := (bt).on hb
  have bm : Blk w5 (w1.heap.size) 23 #[.int .i64 (-3), .int .i64 2] := (bm).on hb
  have bs : Blk w5 (w2.heap.size) 23 #[.int .i64 5, .int .i64 6] := (bs).on hb
  have hbz := hb.size
  have HB5 := Lib.hid ((HB4.out).trans (hb.mono (by first | exact Nat.le_refl _ | omega | (simp; done) | (simp; omega))))
  have hz5 : w.heap.size ≤ w5.heap.size := HB5.out.size
  clear hb hbz
  rw [qa5]
  have q_bh0 : w5.cell? ⟨w.heap.size, 0, none⟩ = some (.int .i64 1) := bh.cell 0
  have q_bh1 : w5.cell? ⟨w.heap.size, 1, none⟩ = some (.int .i64 2) := bh.cell 1
  have q_bt0 : w5.cell? ⟨w.heap.size + 1, 0, none⟩ = some (.int .i64 1) := bt.cell 0
  have q_bt1 : w5.cell? ⟨w.heap.size + 1, 1, none⟩ = some (.int .i64 3) := bt.cell 1
  have q_bm0 : w5.cell? ⟨w1.heap.size, 0, none⟩ = some (.int .i64 (-3)) := bm.cell 0
  have q_bm1 : w5.cell? ⟨w1.heap.size, 1, none⟩ = some (.int .i64 2) := bm.cell 1
  have q_bs0 : w5.cell? ⟨w2.heap.size, 0, none⟩ = some (.int .i64 5) := bs.cell 0
  have q_bs1 : w5.cell? ⟨w2.heap.size, 1, none⟩ = some (.int .i64 6) := bs.cell 1
  have l_bh : w.heap.size < w5.heap.size := bh.lt
  have l_bt : w.heap.size + 1 < w5.heap.size := bt.lt
  have l_bm : w1.heap.size < w5.heap.size := bm.lt
  have l_bs : w2.heap.size < w5.heap.size := bs.lt
  go_wp2_with fail
  refine (qOf_any _ _ _ _).mono ?_
  rintro e w6 ⟨rfl, hb⟩
  clear q_bh0 q_bh1 q_bt0 q_bt1 q_bm0 q_bm1 q_bs0 q_bs1 l_bh l_bt l_bm l_bs
  have bh : Blk w6 (w.heap.size) 23 #[.int .i64 1, .int .i64 2] := (bh).on hb
  have bt : Blk w6 (w.heap.size + 1) 23 #[.int .i64 1, .int .i64 3] := (bt).on hb
  have bm : Blk w6 (w1.heap.size) 23 #[.int .i64 (-3), .int .i64 2] := (bm).on hb
  have bs : Blk w6 (w2.heap.size) 23 #[.int .i64 5, .int .i64 6] := (bs).on hb
  have hbz := hb.size
  have HB6 := Lib.hid ((HB5.out).trans (hb.mono (by first | exact Nat.le_refl _ | omega | (simp; done) | (simp; omega))))
  have hz6 : w.heap.size ≤ w6.heap.size := HB6.out.size
  clear hb hbz
  rw [qa6]
  simp only [tup2]
  have q_bh0 : w6.cell? ⟨w.heap.size, 0, none⟩ = some (.int .i64 1) := bh.cell 0
  have q_bh1 : w6.cell? ⟨w.heap.size, 1, none⟩ = some (.int .i64 2) := bh.cell 1
  have q_bt0 : w6.cell? ⟨w.heap.size + 1, 0, none⟩ = some (.int .i64 1) := bt.cell 0
  have q_bt1 : w6.cell? ⟨w.heap.size + 1, 1, none⟩ = some (.int .i64 3) := bt.cell 1
  have q_bm0 : w6.cell? ⟨w1.heap.size, 0, none⟩ = some (.int .i64 (-3)) := bm.cell 0
  have q_bm1 : w6.cell? ⟨w1.heap.size, 1, none⟩ = some (.int .i64 2) := bm.cell 1
  have q_bs0 : w6.cell? ⟨w2.heap.size, 0, none⟩ = some (.int .i64 5) := bs.cell 0
  have q_bs1 : w6.cell? ⟨w2.heap.size, 1, none⟩ = some (.int .i64 6) := bs.cell 1
  have l_bh : w.heap.size < w6.heap.size := bh.lt
  have l_bt : w.heap.size + 1 < w6.heap.size := bt.lt
  have l_bm : w1.heap.size < w6.heap.size := bm.lt
  have l_bs : w2.heap.size < w6.heap.size := bs.lt
  go_wp2_with fail
  refine (qOf_any _ _ _ _).mono ?_
  rintro e w7 ⟨rfl, hb⟩
  clear q_bh0 q_bh1 q_bt0 q_bt1 q_bm0 q_bm1 q_bs0 q_bs1 l_bh l_bt l_bm l_bs
  have bh : Blk w7 (w.heap.size) 23 #[.int .i64 1, .int .i64 2] := (bh).on hb
  have bt : Blk w7 (w.heap.size + 1) 23 #[.int .i64 1, .int .i64 3] := (bt).on hb
  have bm : Blk w7 (w1.heap.size) 23 #[.int .i64 (-3), .int .i64 2] := (bm).on hb
  have bs : Blk w7 (w2.heap.size) 23 #[.int .i64 5, .int .i64 6] := (bs).on hb
  have hbz := hb.size
  have HB7 := Lib.hid ((HB6.out).trans (hb.mono (by first | exact Nat.le_refl _ | omega | (simp; done) | (simp; omega))))
  have hz7 : w.heap.size ≤ w7.heap.size := HB7.out.size
  clear hb hbz
  rw [qa7]
  simp only [tup2]
  have q_bh0 : w7.cell? ⟨w.heap.size, 0, none⟩ = some (.int .i64 1) := bh.cell 0
  have q_bh1 : w7.cell? ⟨w.heap.size, 1, none⟩ = some (.int .i64 2) := bh.cell 1
  have q_bt0 : w7.cell? ⟨w.heap.size + 1, 0, none⟩ = some (.int .i64 1) := bt.cell 0
  have q_bt1 : w7.cell? ⟨w.heap.size + 1, 1, none⟩ = some (.int .i64 3) := bt.cell 1
  have q_bm0 : w7.cell? ⟨w1.heap.size, 0, none⟩ = some (.int .i64 (-3)) := bm.cell 0
  have q_bm1 : w7.cell? ⟨w1.heap.size, 1, none⟩ = some (.int .i64 2) := bm.cell 1
  have q_bs0 : w7.cell? ⟨w2.heap.size, 0, none⟩ = some (.int .i64 5) := bs.cell 0
  have q_bs1 : w7.cell? ⟨w2.heap.size, 1, none⟩ = some (.int .i64 6) := bs.cell 1
  have l_bh : w.heap.size < w7.heap.size := bh.lt
  have l_bt : w.heap.size + 1 < w7.heap.size := bt.lt
  have l_bm : w1.heap.size < w7.heap.size := bm.lt
  have l_bs : w2.heap.size < w7.heap.size := bs.lt
  go_wp2_with fail
  refine (qFormat_any _ _ _ (HX.out.below HB7.out)).mono ?_
  rintro e w8 ⟨rfl, hb⟩
  clear q_bh0 q_bh1 q_bt0 q_bt1 q_bm0 q_bm1 q_bs0 q_bs1 l_bh l_bt l_bm l_bs
  have bh : Blk w8 (w.heap.size) 23 #[.int .i64 1, .int .i64 2] := (bh).on hb
  have bt : Blk w8 (w.heap.size + 1) 23 #[.int .i64 1, .int .i64 3] := (bt).on hb
  have bm : Blk w8 (w1.heap.size) 23 #[.int .i64 (-3), .int .i64 2] := (bm).on hb
  have bs : Blk w8 (w2.heap.size) 23 #[.int .i64 5, .int .i64 6] := (bs).on hb
  have hbz := hb.size
  have HB8 := Lib.hid ((HB7.out).trans (hb.mono (by first | exact Nat.le_refl _ | omega | (simp; done) | (simp; omega))))
  have hz8 : w.heap.size ≤ w8.heap.size := HB8.out.size
  clear hb hbz
  rw [qa8]
  have q_bh0 : w8.cell? ⟨w.heap.size, 0, none⟩ = some (.int .i64 1) := bh.cell 0
  have q_bh1 : w8.cell? ⟨w.heap.size, 1, none⟩ = some (.int .i64 2) := bh.cell 1
  have q_bt0 : w8.cell? ⟨w.heap.size + 1, 0, none⟩ = some (.int .i64 1) := bt.cell 0
  have q_bt1 : w8.cell? ⟨w.heap.size + 1, 1, none⟩ = some (.int .i64 3) := bt.cell 1
  have q_bm0 : w8.cell? ⟨w1.heap.size, 0, none⟩ = some (.int .i64 (-3)) := bm.cell 0
  have q_bm1 : w8.cell? ⟨w1.heap.size, 1, none⟩ = some (.int .i64 2) := bm.cell 1
  have q_bs0 : w8.cell? ⟨w2.heap.size, 0, none⟩ = some (.int .i64 5) := bs.cell 0
  have q_bs1 : w8.cell? ⟨w2.heap.size, 1, none⟩ = some (.int .i64 6) := bs.cell 1
  have l_bh : w.heap.size < w8.heap.size := bh.lt
  have l_bt : w.heap.size + 1 < w8.heap.size := bt.lt
  have l_bm : w1.heap.size < w8.heap.size := bm.lt
  have l_bs : w2.heap.size < w8.heap.size := bs.lt
  go_wp2_with fail
  refine (qParse_any _ _ (by decide) (HX.out.below HB8.out)).mono ?_
  rintro e w9 ⟨rfl, hb⟩
  clear q_bh0 q_bh1 q_bt0 q_bt1 q_bm0 q_bm1 q_bs0 q_bs1 l_bh l_bt l_bm l_bs
  have bh : Blk w9 (w.heap.size) 23 #[.int .i64 1, .int .i64 2] := (bh).on hb
  have bt : Blk w9 (w.heap.size + 1) 23 #[.int .i64 1, .int .i64 3] := (bt).on hb
  have bm : Blk w9 (w1.heap.size) 23 #[.int .i64 (-3), .int .i64 2] := (bm).on hb
  have bs : Blk w9 (w2.heap.size) 23 #[.int .i64 5, .int .i64 6] := (bs).on hb
  have hbz := hb.size
  have HB9 := Lib.hid ((HB8.out).trans (hb.mono (by first | exact Nat.le_refl _ | omega | (simp; done) | (simp; omega))))
  have hz9 : w.heap.size ≤ w9.heap.size := HB9.out.size
  clear hb hbz
  rw [qa9]
  simp only [tupR, agg2]
  have q_bh0 : w9.cell? ⟨w.heap.size, 0, none⟩ = some (.int .i64 1) := bh.cell 0
  have q_bh1 : w9.cell? ⟨w.heap.size, 1, none⟩ = some (.int .i64 2) := bh.cell 1
  have q_bt0 : w9.cell? ⟨w.heap.size + 1, 0, none⟩ = some (.int .i64 1) := bt.cell 0
  have q_bt1 : w9.cell? ⟨w.heap.size + 1, 1, none⟩ = some (.int .i64 3) := bt.cell 1
  have q_bm0 : w9.cell? ⟨w1.heap.size, 0, none⟩ = some (.int .i64 (-3)) := bm.cell 0
  have q_bm1 : w9.cell? ⟨w1.heap.size, 1, none⟩ = some (.int .i64 2) := bm.cell 1
  have q_bs0 : w9.cell? ⟨w2.heap.size, 0, none⟩ = some (.int .i64 5) := bs.cell 0
  have q_bs1 : w9.cell? ⟨w2.heap.size, 1, none⟩ = some (.int .i64 6) := bs.cell 1
  have l_bh : w.heap.size < w9.heap.size := bh.lt
  have l_bt : w.heap.size + 1 < w9.heap.size := bt.lt
  have l_bm : w1.heap.size < w9.heap.size := bm.lt
  have l_bs : w2.heap.size < w9.heap.size := bs.lt
  go_wp2_with fail
  refine (qParse_any _ _ (by decide) (HX.out.below ((HB9.out).alloc (by first | exact Nat.le_refl _ | omega | (simp; done) | (simp; omega)) _))).mono ?_
  rintro e w10 ⟨rfl, hb⟩
  clear q_bh0 q_bh1 q_bt0 q_bt1 q_bm0 q_bm1 q_bs0 q_bs1 l_bh l_bt l_bm l_bs
  have bh : Blk w10 (w.heap.size) 23 #[.int .i64 1, .int .i64 2] := ((bh).alloc _).on hb
  have bt : Blk w10 (w.heap.size + 1) 23 #[.int .i64 1, .int .i64 3] := ((bt).alloc _).on hb
  have bm : Blk w10 (w1.heap.size) 23 #[.int .i64 (-3), .int .i64 2] := ((bm).alloc _).on hb
  have bs : Blk w10 (w2.heap.size) 23 #[.int .i64 5, .int .i64 6] := ((bs).alloc _).on hb
  have bq : Blk w10 (w9.heap.size) 23 #[.int .i64 (-3), .int .i64 2] := (Blk.new _ _ _).on hb
  have hbz := hb.size
  have HB10 := Lib.hid (((HB9.out).alloc (by first | exact Nat.le_refl _ | omega | (simp; done) | (simp; omega)) _).trans (hb.mono (by first | exact Nat.le_refl _ | omega | (simp; done) | (simp; omega))))
  have hz10 : w.heap.size ≤ w10.heap.size := HB10.out.size
  clear hb hbz
  rw [qa10]
  simp only [tupR, agg2]
  have q_bh0 : w10.cell? ⟨w.heap.size, 0, none⟩ = some (.int .i64 1) := bh.cell 0
  have q_bh1 : w10.cell? ⟨w.heap.size, 1, none⟩ = some (.int .i64 2) := bh.cell 1
  have q_bt0 : w10.cell? ⟨w.heap.size + 1, 0, none⟩ = some (.int .i64 1) := bt.cell 0
  have q_bt1 : w10.cell? ⟨w.heap.size + 1, 1, none⟩ = some (.int .i64 3) := bt.cell 1
  have q_bm0 : w10.cell? ⟨w1.heap.size, 0, none⟩ = some (.int .i64 (-3)) := bm.cell 0
  have q_bm1 : w10.cell? ⟨w1.heap.size, 1, none⟩ = some (.int .i64 2) := bm.cell 1
  have q_bs0 : w10.cell? ⟨w2.heap.size, 0, none⟩ = some (.int .i64 5) := bs.cell 0
  have q_bs1 : w10.cell? ⟨w2.heap.size, 1, none⟩ = some (.int .i64 6) := bs.cell 1
  have q_bq0 : w10.cell? ⟨w9.heap.size, 0, none⟩ = some (.int .i64 (-3)) := bq.cell 0
  have q_bq1 : w10.cell? ⟨w9.heap.size, 1, none⟩ = some (.int .i64 2) := bq.cell 1
  have l_bh : w.heap.size < w10.heap.size := bh.lt
  have l_bt : w.heap.size + 1 < w10.heap.size := bt.lt
  have l_bm : w1.heap.size < w10.heap.size := bm.lt
  have l_bs : w2.heap.size < w10.heap.size := bs.lt
  have l_bq : w9.heap.size < w10.heap.size := bq.lt
  go_wp2_with fail
  refine (qMake_any _ _ _).mono ?_
  rintro e w11 ⟨rfl, hb⟩
  clear q_bh0 q_bh1 q_bt0 q_bt1 q_bm0 q_bm1 q_bs0 q_bs1 q_bq0 q_bq1 l_bh l_bt l_bm l_bs l_bq
  have bh : Blk w11 (w.heap.size) 23 #[.int .i64 1, .int .i64 2] := (bh).on hb
  have bt : Blk w11 (w.heap.size + 1) 23 #[.int .i64 1, .int .i64 3] := (bt).on hb
  have bm : Blk w11 (w1.heap.size) 23 #[.int .i64 (-3), .int .i64 2] := (bm).on hb
  have bs : Blk w11 (w2.heap.size) 23 #[.int .i64 5, .int .i64 6] := (bs).on hb
  have bq : Blk w11 (w9.heap.size) 23 #[.int .i64 (-3), .int .i64 2] := (bq).on hb
  have hbz := hb.size
  have HB11 := Lib.hid ((HB10.out).trans (hb.mono (by first | exact Nat.le_refl _ | omega | (simp; done) | (simp; omega))))
  have hz11 : w.heap.size ≤ w11.heap.size := HB11.out.size
  clear hb hbz
  rw [qa11]
  simp only [tupR, agg2]
  have q_bh0 : w11.cell? ⟨w.heap.size, 0, none⟩ = some (.int .i64 1) := bh.cell 0
  have q_bh1 : w11.cell? ⟨w.heap.size, 1, none⟩ = some (.int .i64 2) := bh.cell 1
  have q_bt0 : w11.cell? ⟨w.heap.size + 1, 0, none⟩ = some (.int .i64 1) := bt.cell 0
  have q_bt1 : w11.cell? ⟨w.heap.size + 1, 1, none⟩ = some (.int .i64 3) := bt.cell 1
  have q_bm0 : w11.cell? ⟨w1.heap.size, 0, none⟩ = some (.int .i64 (-3)) := bm.cell 0
  have q_bm1 : w11.cell? ⟨w1.heap.size, 1, none⟩ = some (.int .i64 2) := bm.cell 1
  have q_bs0 : w11.cell? ⟨w2.heap.size, 0, none⟩ = some (.int .i64 5) := bs.cell 0
  have q_bs1 : w11.cell? ⟨w2.heap.size, 1, none⟩ = some (.int .i64 6) := bs.cell 1
  have q_bq0 : w11.cell? ⟨w9.heap.size, 0, none⟩ = some (.int .i64 (-3)) := bq.cell 0
  have q_bq1 : w11.cell? ⟨w9.heap.size, 1, none⟩ = some (.int .i64 2) := bq.cell 1
  have l_bh : w.heap.size < w11.heap.size := bh.lt
  have l_bt : w.heap.size + 1 < w11.heap.size := bt.lt
  have l_bm : w1.heap.size < w11.heap.size := bm.lt
  have l_bs : w2.heap.size < w11.heap.size := bs.lt
  have l_bq : w9.heap.size < w11.heap.size := bq.lt
  go_wp2_with fail
  refine (qValid_any _ _ _).mono ?_
  rintro e w12 ⟨rfl, hb⟩
  clear q_bh0 q_bh1 q_bt0 q_bt1 q_bm0 q_bm1 q_bs0 q_bs1 q_bq0 q_bq1 l_bh l_bt l_bm l_bs l_bq
  have bh : Blk w12 (w.heap.size) 23 #[.int .i64 1, .int .i64 2] := ((bh).alloc _).on hb
  have bt : Blk w12 (w.heap.size + 1) 23 #[.int .i64 1, .int .i64 3] := ((bt).alloc _).on hb
  have bm : Blk w12 (w1.heap.size) 23 #[.int .i64 (-3), .int .i64 2] := ((bm).alloc _).on hb
  have bs : Blk w12 (w2.heap.size) 23 #[.int .i64 5, .int .i64 6] := ((bs).alloc _).on hb
  have bq : Blk w12 (w9.heap.size) 23 #[.int .i64 (-3), .int .i64 2] := ((bq).alloc _).on hb
  have bz : Blk w12 (w11.heap.size) 23 #[.int .i64 0, .int .i64 0] := (Blk.new _ _ _).on hb
  have hbz := hb.size
  have HB12 := Lib.hid (((HB11.out).alloc (by first | exact Nat.le_refl _ | omega | (simp; done) | (simp; omega)) _).trans (hb.mono (by first | exact Nat.le_refl _ | omega | (simp; done) | (simp; omega))))
  have hz12 : w.heap.size ≤ w12.heap.size := HB12.out.size
  clear hb hbz
  rw [qa12]
  go_wp2_with fail
  refine (qValid_any _ _ _).mono ?_
  rintro e w13 ⟨rfl, hb⟩
  have bh : Blk w13 (w.heap.size) 23 #[.int .i64 1, .int .i64 2] := (bh).on hb
  have bt : Blk w13 (w.heap.size + 1) 23 #[.int .i64 1, .int .i64 3] := (bt).on hb
  have bm : Blk w13 (w1.heap.size) 23 #[.int .i64 (-3), .int .i64 2] := (bm).on hb
  have bs : Blk w13 (w2.heap.size) 23 #[.int .i64 5, .int .i64 6] := (bs).on hb
  have bq : Blk w13 (w9.heap.size) 23 #[.int .i64 (-3), .int .i64 2] := (bq).on hb
  have bz : Blk w13 (w11.heap.size) 23 #[.int .i64 0, .int .i64 0] := (bz).on hb
  have hbz := hb.size
  have HB13 := Lib.hid ((HB12.out).trans (hb.mono (by first | exact Nat.le_refl _ | omega | (simp; done) | (simp; omega))))
  have hz13 : w.heap.size ≤ w13.heap.size := HB13.out.size
  clear hb hbz
  rw [qa13]
  go_wp2_with fail
  go_ret
  exact ⟨rfl, HB13.out⟩
end Go.Proofs.YtpkekfhnpcjgkaaDoor
