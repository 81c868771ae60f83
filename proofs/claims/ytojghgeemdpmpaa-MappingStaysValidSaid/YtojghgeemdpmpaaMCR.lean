/- MappingEnds: walked. -/
import Derived.Test.YtojghgeemdpmpaaMCQ
import Derived.Laws.StructEq
namespace Go.Proofs.Ytojghgeemdpmpaa
open Go.RowKit
open Go.Sort (grow)
open BO (RP)

theorem fieldsM : Try.prog.underlying 23 = some (.struct (Try.prog.fieldsOf 23)) := by kernel_rfl
theorem stoodM : Try.prog.stoodInHeld 23 = false := by kernel_rfl
theorem run_eql_M (W : World) (x0 x1 x2 x3 x4 x5 x6 : Int) : (binOp .eql 23 (.agg #[.int .i64 x0, .int .i64 x1, .int .i64 x2, .int .i64 x3, .int .i64 x4, .int .i64 x5, .int .i64 x6]) (.agg #[.int .i64 x0, .int .i64 x1, .int .i64 x2, .int .i64 x3, .int .i64 x4, .int .i64 x5, .int .i64 x6])).run Try.prog W = .ok (.bool true) W := by
  rw [run_eql_struct, run_equalIn_struct _ _ _ _ _ fieldsM stoodM]
  simp [go_sem]
theorem run_neq_M (W : World) (x0 x1 x2 x3 x4 x5 x6 : Int) : (binOp .neq 23 (.agg #[.int .i64 x0, .int .i64 x1, .int .i64 x2, .int .i64 x3, .int .i64 x4, .int .i64 x5, .int .i64 x6]) (.agg #[.int .i64 x0, .int .i64 x1, .int .i64 x2, .int .i64 x3, .int .i64 x4, .int .i64 x5, .int .i64 x6])).run Try.prog W = .ok (.bool false) W := by
  rw [run_neq_struct, run_equalIn_struct _ _ _ _ _ fieldsM stoodM]
  simp [go_sem]
attribute [go_sem ↓] run_eql_M run_neq_M
set_option maxHeartbeats 8000000 in
set_option maxRecDepth 100000 in
theorem law_ends (sh nx fl ac fi wa li p0 p1 p2 a b f c m now n : Int) (A : Option Addr) (k ca : Nat) (w : World) : Calls Try.prog 4 #[.agg #[.int .i64 sh, .int .i64 nx, .int .i64 fl, .int .i64 ac, .int .i64 fi, .int .i64 wa, .int .i64 li, .int .i64 p0, .int .i64 p1, .int .i64 p2, .int .i64 a, .int .i64 b, .int .i64 f, .int .i64 c, .int .i64 m, .slice A k ca, .int .i64 now, .int .i64 n]] w fun e w' => e = .returned (.bool true) ∧ Below w.heap.size w w' := by
  have hn0 := Nat.le_refl w.heap.size
  go_enter Try.func4, Try.ntmps4
  go_wp2_with fail
  refine (Start_any sh nx _).mono ?_
  rintro e w1 ⟨rfl, hb⟩
  have bx : Blk w1 (w.heap.size) 30 #[.int .i64 sh, .int .i64 nx, .int .i64 fl, .int .i64 ac, .int .i64 fi, .int .i64 wa, .int .i64 li, .int .i64 p0, .int .i64 p1, .int .i64 p2, .int .i64 a, .int .i64 b, .int .i64 f, .int .i64 c, .int .i64 m, .slice A k ca, .int .i64 now, .int .i64 n] := (Blk.new _ _ _).on hb
  have hbz := hb.size
  have HB1 := Lib.hid (((Below.refl w.heap.size w).alloc (by first | exact Nat.le_refl _ | omega | (simp; done) | (simp; omega)) _).trans (hb.mono (by first | exact Nat.le_refl _ | omega | (simp; done) | (simp; omega))))
  have hz1 : w.heap.size ≤ w1.heap.size := HB1.out.size
  clear hb hbz
  have o1 : w.heap.size < w1.heap.size := bx.lt
  generalize hR : ckS ⟨sh, nx, 0, 0, 0, 0, 0⟩ = R
  obtain ⟨⟨x0, x1, x2, x3, x4, x5, x6⟩, e0⟩ := R
  have HR0 := Lib.hid hR
  clear hR
  simp only [MR, MS.cs]
  have q_bx0 : w1.cell? ⟨w.heap.size, 0, none⟩ = some (.int .i64 sh) := bx.cell 0
  have q_bx1 : w1.cell? ⟨w.heap.size, 1, none⟩ = some (.int .i64 nx) := bx.cell 1
  have q_bx2 : w1.cell? ⟨w.heap.size, 2, none⟩ = some (.int .i64 fl) := bx.cell 2
  have q_bx3 : w1.cell? ⟨w.heap.size, 3, none⟩ = some (.int .i64 ac) := bx.cell 3
  have q_bx4 : w1.cell? ⟨w.heap.size, 4, none⟩ = some (.int .i64 fi) := bx.cell 4
  have q_bx5 : w1.cell? ⟨w.heap.size, 5, none⟩ = some (.int .i64 wa) := bx.cell 5
  have q_bx6 : w1.cell? ⟨w.heap.size, 6, none⟩ = some (.int .i64 li) := bx.cell 6
  have q_bx7 : w1.cell? ⟨w.heap.size, 7, none⟩ = some (.int .i64 p0) := bx.cell 7
  have q_bx8 : w1.cell? ⟨w.heap.size, 8, none⟩ = some (.int .i64 p1) := bx.cell 8
  have q_bx9 : w1.cell? ⟨w.heap.size, 9, none⟩ = some (.int .i64 p2) := bx.cell 9
  have q_bx10 : w1.cell? ⟨w.heap.size, 10, none⟩ = some (.int .i64 a) := bx.cell 10
  have q_bx11 : w1.cell? ⟨w.heap.size, 11, none⟩ = some (.int .i64 b) := bx.cell 11
  have q_bx12 : w1.cell? ⟨w.heap.size, 12, none⟩ = some (.int .i64 f) := bx.cell 12
  have q_bx13 : w1.cell? ⟨w.heap.size, 13, none⟩ = some (.int .i64 c) := bx.cell 13
  have q_bx14 : w1.cell? ⟨w.heap.size, 14, none⟩ = some (.int .i64 m) := bx.cell 14
  have q_bx15 : w1.cell? ⟨w.heap.size, 15, none⟩ = some (.slice A k ca) := bx.cell 15
  have q_bx16 : w1.cell? ⟨w.heap.size, 16, none⟩ = some (.int .i64 now) := bx.cell 16
  have q_bx17 : w1.cell? ⟨w.heap.size, 17, none⟩ = some (.int .i64 n) := bx.cell 17
  have l_bx : w.heap.size < w1.heap.size := bx.lt
  go_wp2_with fail
  refine (rStart_any sh nx _).mono ?_
  rintro e w2 ⟨rfl, hb⟩
  clear q_bx0 q_bx1 q_bx2 q_bx3 q_bx4 q_bx5 q_bx6 q_bx7 q_bx8 q_bx9 q_bx10 q_bx11 q_bx12 q_bx13 q_bx14 q_bx15 q_bx16 q_bx17 l_bx
  have bx : Blk w2 (w.heap.size) 30 #[.int .i64 sh, .int .i64 nx, .int .i64 fl, .int .i64 ac, .int .i64 fi, .int .i64 wa, .int .i64 li, .int .i64 p0, .int .i64 p1, .int .i64 p2, .int .i64 a, .int .i64 b, .int .i64 f, .int .i64 c, .int .i64 m, .slice A k ca, .int .i64 now, .int .i64 n] := ((bx).alloc _).on hb
  have b3 : Blk w2 (w1.heap.size) 23 #[.int .i64 x0, .int .i64 x1, .int .i64 x2, .int .i64 x3, .int .i64 x4, .int .i64 x5, .int .i64 x6] := (Blk.new _ _ _).on hb
  have hbz := hb.size
  have HB2 := Lib.hid (((HB1.out).alloc (by first | exact Nat.le_refl _ | omega | (simp; done) | (simp; omega)) _).trans (hb.mono (by first | exact Nat.le_refl _ | omega | (simp; done) | (simp; omega))))
  have hz2 : w.heap.size ≤ w2.heap.size := HB2.out.size
  clear hb hbz
  rw [HR0.out]
  simp only [MR, MS.cs]
  have o2 : w1.heap.size < w2.heap.size := b3.lt
  have q_bx0 : w2.cell? ⟨w.heap.size, 0, none⟩ = some (.int .i64 sh) := bx.cell 0
  have q_bx1 : w2.cell? ⟨w.heap.size, 1, none⟩ = some (.int .i64 nx) := bx.cell 1
  have q_bx2 : w2.cell? ⟨w.heap.size, 2, none⟩ = some (.int .i64 fl) := bx.cell 2
  have q_bx3 : w2.cell? ⟨w.heap.size, 3, none⟩ = some (.int .i64 ac) := bx.cell 3
  have q_bx4 : w2.cell? ⟨w.heap.size, 4, none⟩ = some (.int .i64 fi) := bx.cell 4
  have q_bx5 : w2.cell? ⟨w.heap.size, 5, none⟩ = some (.int .i64 wa) := bx.cell 5
  have q_bx6 : w2.cell? ⟨w.heap.size, 6, none⟩ = some (.int .i64 li) := bx.cell 6
  have q_bx7 : w2.cell? ⟨w.heap.size, 7, none⟩ = some (.int .i64 p0) := bx.cell 7
  have q_bx8 : w2.cell? ⟨w.heap.size, 8, none⟩ = some (.int .i64 p1) := bx.cell 8
  have q_bx9 : w2.cell? ⟨w.heap.size, 9, none⟩ = some (.int .i64 p2) := bx.cell 9
  have q_bx10 : w2.cell? ⟨w.heap.size, 10, none⟩ = some (.int .i64 a) := bx.cell 10
  have q_bx11 : w2.cell? ⟨w.heap.size, 11, none⟩ = some (.int .i64 b) := bx.cell 11
  have q_bx12 : w2.cell? ⟨w.heap.size, 12, none⟩ = some (.int .i64 f) := bx.cell 12
  have q_bx13 : w2.cell? ⟨w.heap.size, 13, none⟩ = some (.int .i64 c) := bx.cell 13
  have q_bx14 : w2.cell? ⟨w.heap.size, 14, none⟩ = some (.int .i64 m) := bx.cell 14
  have q_bx15 : w2.cell? ⟨w.heap.size, 15, none⟩ = some (.slice A k ca) := bx.cell 15
  have q_bx16 : w2.cell? ⟨w.heap.size, 16, none⟩ = some (.int .i64 now) := bx.cell 16
  have q_bx17 : w2.cell? ⟨w.heap.size, 17, none⟩ = some (.int .i64 n) := bx.cell 17
  have q_b30 : w2.cell? ⟨w1.heap.size, 0, none⟩ = some (.int .i64 x0) := b3.cell 0
  have q_b31 : w2.cell? ⟨w1.heap.size, 1, none⟩ = some (.int .i64 x1) := b3.cell 1
  have q_b32 : w2.cell? ⟨w1.heap.size, 2, none⟩ = some (.int .i64 x2) := b3.cell 2
  have q_b33 : w2.cell? ⟨w1.heap.size, 3, none⟩ = some (.int .i64 x3) := b3.cell 3
  have q_b34 : w2.cell? ⟨w1.heap.size, 4, none⟩ = some (.int .i64 x4) := b3.cell 4
  have q_b35 : w2.cell? ⟨w1.heap.size, 5, none⟩ = some (.int .i64 x5) := b3.cell 5
  have q_b36 : w2.cell? ⟨w1.heap.size, 6, none⟩ = some (.int .i64 x6) := b3.cell 6
  have l_bx : w.heap.size < w2.heap.size := bx.lt
  have l_b3 : w1.heap.size < w2.heap.size := b3.lt
  have f_b30 : w2.frozen? ⟨w1.heap.size, 0, none⟩ = false := b3.frozen 0
  have f_b31 : w2.frozen? ⟨w1.heap.size, 1, none⟩ = false := b3.frozen 1
  have f_b32 : w2.frozen? ⟨w1.heap.size, 2, none⟩ = false := b3.frozen 2
  have f_b33 : w2.frozen? ⟨w1.heap.size, 3, none⟩ = false := b3.frozen 3
  have f_b34 : w2.frozen? ⟨w1.heap.size, 4, none⟩ = false := b3.frozen 4
  have f_b35 : w2.frozen? ⟨w1.heap.size, 5, none⟩ = false := b3.frozen 5
  have f_b36 : w2.frozen? ⟨w1.heap.size, 6, none⟩ = false := b3.frozen 6
  go_wp2_with fail
  refine (Succeed_any sh nx fl ac fi wa li _).mono ?_
  rintro e w3 ⟨rfl, hb⟩
  clear q_bx0 q_bx1 q_bx2 q_bx3 q_bx4 q_bx5 q_bx6 q_bx7 q_bx8 q_bx9 q_bx10 q_bx11 q_bx12 q_bx13 q_bx14 q_bx15 q_bx16 q_bx17 q_b30 q_b31 q_b32 q_b33 q_b34 q_b35 q_b36 l_bx l_b3 f_b30 f_b31 f_b32 f_b33 f_b34 f_b35 f_b36
  have bx : Blk w3 (w.heap.size) 30 #[.int .i64 sh, .int .i64 nx, .int .i64 fl, .int .i64 ac, .int .i64 fi, .int .i64 wa, .int .i64 li, .int .i64 p0, .int .i64 p1, .int .i64 p2, .int .i64 a, .int .i64 b, .int .i64 f, .int .i64 c, .int .i64 m, .slice A k ca, .int .i64 now, .int .i64 n] := ((bx).alloc _).on hb
  have b3 : Blk w3 (w1.heap.size) 23 #[.int .i64 x0, .int .i64 x1, .int .i64 x2, .int .i64 x3, .int .i64 x4, .int .i64 x5, .int .i64 x6] := ((b3).alloc _).on hb
  have b5 : Blk w3 (w2.heap.size) 23 #[.int .i64 x0, .int .i64 x1, .int .i64 x2, .int .i64 x3, .int .i64 x4, .int .i64 x5, .int .i64 x6] := (Blk.new _ _ _).on hb
  have hbz := hb.size
  have HB3 := Lib.hid (((HB2.out).alloc (by first | exact Nat.le_refl _ | omega | (simp; done) | (simp; omega)) _).trans (hb.mono (by first | exact Nat.le_refl _ | omega | (simp; done) | (simp; omega))))
  have hz3 : w.heap.size ≤ w3.heap.size := HB3.out.size
  clear hb hbz
  generalize hR : sucS ⟨sh, nx, fl, ac, fi, wa, li⟩ = R
  obtain ⟨⟨y0, y1, y2, y3, y4, y5, y6⟩, e1⟩ := R
  have HR1 := Lib.hid hR
  clear hR
  simp only [MR, MS.cs]
  have q_bx0 : w3.cell? ⟨w.heap.size, 0, none⟩ = some (.int .i64 sh) := bx.cell 0
  have q_bx1 : w3.cell? ⟨w.heap.size, 1, none⟩ = some (.int .i64 nx) := bx.cell 1
  have q_bx2 : w3.cell? ⟨w.heap.size, 2, none⟩ = some (.int .i64 fl) := bx.cell 2
  have q_bx3 : w3.cell? ⟨w.heap.size, 3, none⟩ = some (.int .i64 ac) := bx.cell 3
  have q_bx4 : w3.cell? ⟨w.heap.size, 4, none⟩ = some (.int .i64 fi) := bx.cell 4
  have q_bx5 : w3.cell? ⟨w.heap.size, 5, none⟩ = some (.int .i64 wa) := bx.cell 5
  have q_bx6 : w3.cell? ⟨w.heap.size, 6, none⟩ = some (.int .i64 li) := bx.cell 6
  have q_bx7 : w3.cell? ⟨w.heap.size, 7, none⟩ = some (.int .i64 p0) := bx.cell 7
  have q_bx8 : w3.cell? ⟨w.heap.size, 8, none⟩ = some (.int .i64 p1) := bx.cell 8
  have q_bx9 : w3.cell? ⟨w.heap.size, 9, none⟩ = some (.int .i64 p2) := bx.cell 9
  have q_bx10 : w3.cell? ⟨w.heap.size, 10, none⟩ = some (.int .i64 a) := bx.cell 10
  have q_bx11 : w3.cell? ⟨w.heap.size, 11, none⟩ = some (.int .i64 b) := bx.cell 11
  have q_bx12 : w3.cell? ⟨w.heap.size, 12, none⟩ = some (.int .i64 f) := bx.cell 12
  have q_bx13 : w3.cell? ⟨w.heap.size, 13, none⟩ = some (.int .i64 c) := bx.cell 13
  have q_bx14 : w3.cell? ⟨w.heap.size, 14, none⟩ = some (.int .i64 m) := bx.cell 14
  have q_bx15 : w3.cell? ⟨w.heap.size, 15, none⟩ = some (.slice A k ca) := bx.cell 15
  have q_bx16 : w3.cell? ⟨w.heap.size, 16, none⟩ = some (.int .i64 now) := bx.cell 16
  have q_bx17 : w3.cell? ⟨w.heap.size, 17, none⟩ = some (.int .i64 n) := bx.cell 17
  have q_b30 : w3.cell? ⟨w1.heap.size, 0, none⟩ = some (.int .i64 x0) := b3.cell 0
  have q_b31 : w3.cell? ⟨w1.heap.size, 1, none⟩ = some (.int .i64 x1) := b3.cell 1
  have q_b32 : w3.cell? ⟨w1.heap.size, 2, none⟩ = some (.int .i64 x2) := b3.cell 2
  have q_b33 : w3.cell? ⟨w1.heap.size, 3, none⟩ = some (.int .i64 x3) := b3.cell 3
  have q_b34 : w3.cell? ⟨w1.heap.size, 4, none⟩ = some (.int .i64 x4) := b3.cell 4
  have q_b35 : w3.cell? ⟨w1.heap.size, 5, none⟩ = some (.int .i64 x5) := b3.cell 5
  have q_b36 : w3.cell? ⟨w1.heap.size, 6, none⟩ = some (.int .i64 x6) := b3.cell 6
  have q_b50 : w3.cell? ⟨w2.heap.size, 0, none⟩ = some (.int .i64 x0) := b5.cell 0
  have q_b51 : w3.cell? ⟨w2.heap.size, 1, none⟩ = some (.int .i64 x1) := b5.cell 1
  have q_b52 : w3.cell? ⟨w2.heap.size, 2, none⟩ = some (.int .i64 x2) := b5.cell 2
  have q_b53 : w3.cell? ⟨w2.heap.size, 3, none⟩ = some (.int .i64 x3) := b5.cell 3
  have q_b54 : w3.cell? ⟨w2.heap.size, 4, none⟩ = some (.int .i64 x4) := b5.cell 4
  have q_b55 : w3.cell? ⟨w2.heap.size, 5, none⟩ = some (.int .i64 x5) := b5.cell 5
  have q_b56 : w3.cell? ⟨w2.heap.size, 6, none⟩ = some (.int .i64 x6) := b5.cell 6
  have l_bx : w.heap.size < w3.heap.size := bx.lt
  have l_b3 : w1.heap.size < w3.heap.size := b3.lt
  have l_b5 : w2.heap.size < w3.heap.size := b5.lt
  have f_b30 : w3.frozen? ⟨w1.heap.size, 0, none⟩ = false := b3.frozen 0
  have f_b31 : w3.frozen? ⟨w1.heap.size, 1, none⟩ = false := b3.frozen 1
  have f_b32 : w3.frozen? ⟨w1.heap.size, 2, none⟩ = false := b3.frozen 2
  have f_b33 : w3.frozen? ⟨w1.heap.size, 3, none⟩ = false := b3.frozen 3
  have f_b34 : w3.frozen? ⟨w1.heap.size, 4, none⟩ = false := b3.frozen 4
  have f_b35 : w3.frozen? ⟨w1.heap.size, 5, none⟩ = false := b3.frozen 5
  have f_b36 : w3.frozen? ⟨w1.heap.size, 6, none⟩ = false := b3.frozen 6
  have f_b50 : w3.frozen? ⟨w2.heap.size, 0, none⟩ = false := b5.frozen 0
  have f_b51 : w3.frozen? ⟨w2.heap.size, 1, none⟩ = false := b5.frozen 1
  have f_b52 : w3.frozen? ⟨w2.heap.size, 2, none⟩ = false := b5.frozen 2
  have f_b53 : w3.frozen? ⟨w2.heap.size, 3, none⟩ = false := b5.frozen 3
  have f_b54 : w3.frozen? ⟨w2.heap.size, 4, none⟩ = false := b5.frozen 4
  have f_b55 : w3.frozen? ⟨w2.heap.size, 5, none⟩ = false := b5.frozen 5
  have f_b56 : w3.frozen? ⟨w2.heap.size, 6, none⟩ = false := b5.frozen 6
  go_wp2_with fail
  refine (rSucceed_any sh nx fl ac fi wa li _).mono ?_
  rintro e w4 ⟨rfl, hb⟩
  clear q_bx0 q_bx1 q_bx2 q_bx3 q_bx4 q_bx5 q_bx6 q_bx7 q_bx8 q_bx9 q_bx10 q_bx11 q_bx12 q_bx13 q_bx14 q_bx15 q_bx16 q_bx17 q_b30 q_b31 q_b32 q_b33 q_b34 q_b35 q_b36 q_b50 q_b51 q_b52 q_b53 q_b54 q_b55 q_b56 l_bx l_b3 l_b5 f_b30 f_b31 f_b32 f_b33 f_b34 f_b35 f_b36 f_b50 f_b51 f_b52 f_b53 f_b54 f_b55 f_b56
  have bx : Blk w4 (w.heap.size) 30 #[.int .i64 sh, .int .i64 nx, .int .i64 fl, .int .i64 ac, .int .i64 fi, .int .i64 wa, .int .i64 li, .int .i64 p0, .int .i64 p1, .int .i64 p2, .int .i64 a, .int .i64 b, .int .i64 f, .int .i64 c, .int .i64 m, .slice A k ca, .int .i64 now, .int .i64 n] := (Blk.far7 (bx) (g' := w1.heap.size) (by omega) _ _ _ _ _ _ _).on hb
  have b3 : Blk w4 (w1.heap.size) 23 #[.int .i64 y0, .int .i64 y1, .int .i64 y2, .int .i64 y3, .int .i64 y4, .int .i64 y5, .int .i64 y6] := (Blk.set7 (b3) _ _ _ _ _ _ _).on hb
  have b5 : Blk w4 (w2.heap.size) 23 #[.int .i64 x0, .int .i64 x1, .int .i64 x2, .int .i64 x3, .int .i64 x4, .int .i64 x5, .int .i64 x6] := (Blk.far7 (b5) (g' := w1.heap.size) (by omega) _ _ _ _ _ _ _).on hb
  have hbz := hb.size
  have hbv : Below w.heap.size w ((((((((w3).setCell ⟨w1.heap.size, 0, none⟩ (.int .i64 y0)).setCell ⟨w1.heap.size, 1, none⟩ (.int .i64 y1)).setCell ⟨w1.heap.size, 2, none⟩ (.int .i64 y2)).setCell ⟨w1.heap.size, 3, none⟩ (.int .i64 y3)).setCell ⟨w1.heap.size, 4, none⟩ (.int .i64 y4)).setCell ⟨w1.heap.size, 5, none⟩ (.int .i64 y5)).setCell ⟨w1.heap.size, 6, none⟩ (.int .i64 y6)) := below_set7 (HB3.out) (H := w1.heap.size) (by first | exact Nat.le_refl _ | omega) _ _ _ _ _ _ _
  have HB4 := Lib.hid (hbv.trans (hb.mono hbv.size))
  clear hbv
  have hz4 : w.heap.size ≤ w4.heap.size := HB4.out.size
  clear hb hbz
  rw [HR1.out]
  simp only [MR, MS.cs]
  have q_bx0 : w4.cell? ⟨w.heap.size, 0, none⟩ = some (.int .i64 sh) := bx.cell 0
  have q_bx1 : w4.cell? ⟨w.heap.size, 1, none⟩ = some (.int .i64 nx) := bx.cell 1
  have q_bx2 : w4.cell? ⟨w.heap.size, 2, none⟩ = some (.int .i64 fl) := bx.cell 2
  have q_bx3 : w4.cell? ⟨w.heap.size, 3, none⟩ = some (.int .i64 ac) := bx.cell 3
  have q_bx4 : w4.cell? ⟨w.heap.size, 4, none⟩ = some (.int .i64 fi) := bx.cell 4
  have q_bx5 : w4.cell? ⟨w.heap.size, 5, none⟩ = some (.int .i64 wa) := bx.cell 5
  have q_bx6 : w4.cell? ⟨w.heap.size, 6, none⟩ = some (.int .i64 li) := bx.cell 6
  have q_bx7 : w4.cell? ⟨w.heap.size, 7, none⟩ = some (.int .i64 p0) := bx.cell 7
  have q_bx8 : w4.cell? ⟨w.heap.size, 8, none⟩ = some (.int .i64 p1) := bx.cell 8
  have q_bx9 : w4.cell? ⟨w.heap.size, 9, none⟩ = some (.int .i64 p2) := bx.cell 9
  have q_bx10 : w4.cell? ⟨w.heap.size, 10, none⟩ = some (.int .i64 a) := bx.cell 10
  have q_bx11 : w4.cell? ⟨w.heap.size, 11, none⟩ = some (.int .i64 b) := bx.cell 11
  have q_bx12 : w4.cell? ⟨w.heap.size, 12, none⟩ = some (.int .i64 f) := bx.cell 12
  have q_bx13 : w4.cell? ⟨w.heap.size, 13, none⟩ = some (.int .i64 c) := bx.cell 13
  have q_bx14 : w4.cell? ⟨w.heap.size, 14, none⟩ = some (.int .i64 m) := bx.cell 14
  have q_bx15 : w4.cell? ⟨w.heap.size, 15, none⟩ = some (.slice A k ca) := bx.cell 15
  have q_bx16 : w4.cell? ⟨w.heap.size, 16, none⟩ = some (.int .i64 now) := bx.cell 16
  have q_bx17 : w4.cell? ⟨w.heap.size, 17, none⟩ = some (.int .i64 n) := bx.cell 17
  have q_b30 : w4.cell? ⟨w1.heap.size, 0, none⟩ = some (.int .i64 y0) := b3.cell 0
  have q_b31 : w4.cell? ⟨w1.heap.size, 1, none⟩ = some (.int .i64 y1) := b3.cell 1
  have q_b32 : w4.cell? ⟨w1.heap.size, 2, none⟩ = some (.int .i64 y2) := b3.cell 2
  have q_b33 : w4.cell? ⟨w1.heap.size, 3, none⟩ = some (.int .i64 y3) := b3.cell 3
  have q_b34 : w4.cell? ⟨w1.heap.size, 4, none⟩ = some (.int .i64 y4) := b3.cell 4
  have q_b35 : w4.cell? ⟨w1.heap.size, 5, none⟩ = some (.int .i64 y5) := b3.cell 5
  have q_b36 : w4.cell? ⟨w1.heap.size, 6, none⟩ = some (.int .i64 y6) := b3.cell 6
  have q_b50 : w4.cell? ⟨w2.heap.size, 0, none⟩ = some (.int .i64 x0) := b5.cell 0
  have q_b51 : w4.cell? ⟨w2.heap.size, 1, none⟩ = some (.int .i64 x1) := b5.cell 1
  have q_b52 : w4.cell? ⟨w2.heap.size, 2, none⟩ = some (.int .i64 x2) := b5.cell 2
  have q_b53 : w4.cell? ⟨w2.heap.size, 3, none⟩ = some (.int .i64 x3) := b5.cell 3
  have q_b54 : w4.cell? ⟨w2.heap.size, 4, none⟩ = some (.int .i64 x4) := b5.cell 4
  have q_b55 : w4.cell? ⟨w2.heap.size, 5, none⟩ = some (.int .i64 x5) := b5.cell 5
  have q_b56 : w4.cell? ⟨w2.heap.size, 6, none⟩ = some (.int .i64 x6) := b5.cell 6
  have l_bx : w.heap.size < w4.heap.size := bx.lt
  have l_b3 : w1.heap.size < w4.heap.size := b3.lt
  have l_b5 : w2.heap.size < w4.heap.size := b5.lt
  have f_b30 : w4.frozen? ⟨w1.heap.size, 0, none⟩ = false := b3.frozen 0
  have f_b31 : w4.frozen? ⟨w1.heap.size, 1, none⟩ = false := b3.frozen 1
  have f_b32 : w4.frozen? ⟨w1.heap.size, 2, none⟩ = false := b3.frozen 2
  have f_b33 : w4.frozen? ⟨w1.heap.size, 3, none⟩ = false := b3.frozen 3
  have f_b34 : w4.frozen? ⟨w1.heap.size, 4, none⟩ = false := b3.frozen 4
  have f_b35 : w4.frozen? ⟨w1.heap.size, 5, none⟩ = false := b3.frozen 5
  have f_b36 : w4.frozen? ⟨w1.heap.size, 6, none⟩ = false := b3.frozen 6
  have f_b50 : w4.frozen? ⟨w2.heap.size, 0, none⟩ = false := b5.frozen 0
  have f_b51 : w4.frozen? ⟨w2.heap.size, 1, none⟩ = false := b5.frozen 1
  have f_b52 : w4.frozen? ⟨w2.heap.size, 2, none⟩ = false := b5.frozen 2
  have f_b53 : w4.frozen? ⟨w2.heap.size, 3, none⟩ = false := b5.frozen 3
  have f_b54 : w4.frozen? ⟨w2.heap.size, 4, none⟩ = false := b5.frozen 4
  have f_b55 : w4.frozen? ⟨w2.heap.size, 5, none⟩ = false := b5.frozen 5
  have f_b56 : w4.frozen? ⟨w2.heap.size, 6, none⟩ = false := b5.frozen 6
  go_wp2_with fail
  refine (Partial_any sh nx fl ac fi wa li n _).mono ?_
  rintro e w5 ⟨rfl, hb⟩
  clear q_bx0 q_bx1 q_bx2 q_bx3 q_bx4 q_bx5 q_bx6 q_bx7 q_bx8 q_bx9 q_bx10 q_bx11 q_bx12 q_bx13 q_bx14 q_bx15 q_bx16 q_bx17 q_b30 q_b31 q_b32 q_b33 q_b34 q_b35 q_b36 q_b50 q_b51 q_b52 q_b53 q_b54 q_b55 q_b56 l_bx l_b3 l_b5 f_b30 f_b31 f_b32 f_b33 f_b34 f_b35 f_b36 f_b50 f_b51 f_b52 f_b53 f_b54 f_b55 f_b56
  have bx : Blk w5 (w.heap.size) 30 #[.int .i64 sh, .int .i64 nx, .int .i64 fl, .int .i64 ac, .int .i64 fi, .int .i64 wa, .int .i64 li, .int .i64 p0, .int .i64 p1, .int .i64 p2, .int .i64 a, .int .i64 b, .int .i64 f, .int .i64 c, .int .i64 m, .slice A k ca, .int .i64 now, .int .i64 n] := (Blk.far7 (bx) (g' := w2.heap.size) (by omega) _ _ _ _ _ _ _).on hb
  have b3 : Blk w5 (w1.heap.size) 23 #[.int .i64 y0, .int .i64 y1, .int .i64 y2, .int .i64 y3, .int .i64 y4, .int .i64 y5, .int .i64 y6] := (Blk.far7 (b3) (g' := w2.heap.size) (by omega) _ _ _ _ _ _ _).on hb
  have b5 : Blk w5 (w2.heap.size) 23 #[.int .i64 y0, .int .i64 y1, .int .i64 y2, .int .i64 y3, .int .i64 y4, .int .i64 y5, .int .i64 y6] := (Blk.set7 (b5) _ _ _ _ _ _ _).on hb
  have hbz := hb.size
  have hbv : Below w.heap.size w ((((((((w4).setCell ⟨w2.heap.size, 0, none⟩ (.int .i64 y0)).setCell ⟨w2.heap.size, 1, none⟩ (.int .i64 y1)).setCell ⟨w2.heap.size, 2, none⟩ (.int .i64 y2)).setCell ⟨w2.heap.size, 3, none⟩ (.int .i64 y3)).setCell ⟨w2.heap.size, 4, none⟩ (.int .i64 y4)).setCell ⟨w2.heap.size, 5, none⟩ (.int .i64 y5)).setCell ⟨w2.heap.size, 6, none⟩ (.int .i64 y6)) := below_set7 (HB4.out) (H := w2.heap.size) (by first | exact Nat.le_refl _ | omega) _ _ _ _ _ _ _
  have HB5 := Lib.hid (hbv.trans (hb.mono hbv.size))
  clear hbv
  have hz5 : w.heap.size ≤ w5.heap.size := HB5.out.size
  clear hb hbz
  generalize hR : parS ⟨sh, nx, fl, ac, fi, wa, li⟩ n = R
  obtain ⟨⟨z0, z1, z2, z3, z4, z5, z6⟩, e2⟩ := R
  have HR2 := Lib.hid hR
  clear hR
  simp only [MR, MS.cs]
  have q_bx0 : w5.cell? ⟨w.heap.size, 0, none⟩ = some (.int .i64 sh) := bx.cell 0
  have q_bx1 : w5.cell? ⟨w.heap.size, 1, none⟩ = some (.int .i64 nx) := bx.cell 1
  have q_bx2 : w5.cell? ⟨w.heap.size, 2, none⟩ = some (.int .i64 fl) := bx.cell 2
  have q_bx3 : w5.cell? ⟨w.heap.size, 3, none⟩ = some (.int .i64 ac) := bx.cell 3
  have q_bx4 : w5.cell? ⟨w.heap.size, 4, none⟩ = some (.int .i64 fi) := bx.cell 4
  have q_bx5 : w5.cell? ⟨w.heap.size, 5, none⟩ = some (.int .i64 wa) := bx.cell 5
  have q_bx6 : w5.cell? ⟨w.heap.size, 6, none⟩ = some (.int .i64 li) := bx.cell 6
  have q_bx7 : w5.cell? ⟨w.heap.size, 7, none⟩ = some (.int .i64 p0) := bx.cell 7
  have q_bx8 : w5.cell? ⟨w.heap.size, 8, none⟩ = some (.int .i64 p1) := bx.cell 8
  have q_bx9 : w5.cell? ⟨w.heap.size, 9, none⟩ = some (.int .i64 p2) := bx.cell 9
  have q_bx10 : w5.cell? ⟨w.heap.size, 10, none⟩ = some (.int .i64 a) := bx.cell 10
  have q_bx11 : w5.cell? ⟨w.heap.size, 11, none⟩ = some (.int .i64 b) := bx.cell 11
  have q_bx12 : w5.cell? ⟨w.heap.size, 12, none⟩ = some (.int .i64 f) := bx.cell 12
  have q_bx13 : w5.cell? ⟨w.heap.size, 13, none⟩ = some (.int .i64 c) := bx.cell 13
  have q_bx14 : w5.cell? ⟨w.heap.size, 14, none⟩ = some (.int .i64 m) := bx.cell 14
  have q_bx15 : w5.cell? ⟨w.heap.size, 15, none⟩ = some (.slice A k ca) := bx.cell 15
  have q_bx16 : w5.cell? ⟨w.heap.size, 16, none⟩ = some (.int .i64 now) := bx.cell 16
  have q_bx17 : w5.cell? ⟨w.heap.size, 17, none⟩ = some (.int .i64 n) := bx.cell 17
  have q_b30 : w5.cell? ⟨w1.heap.size, 0, none⟩ = some (.int .i64 y0) := b3.cell 0
  have q_b31 : w5.cell? ⟨w1.heap.size, 1, none⟩ = some (.int .i64 y1) := b3.cell 1
  have q_b32 : w5.cell? ⟨w1.heap.size, 2, none⟩ = some (.int .i64 y2) := b3.cell 2
  have q_b33 : w5.cell? ⟨w1.heap.size, 3, none⟩ = some (.int .i64 y3) := b3.cell 3
  have q_b34 : w5.cell? ⟨w1.heap.size, 4, none⟩ = some (.int .i64 y4) := b3.cell 4
  have q_b35 : w5.cell? ⟨w1.heap.size, 5, none⟩ = some (.int .i64 y5) := b3.cell 5
  have q_b36 : w5.cell? ⟨w1.heap.size, 6, none⟩ = some (.int .i64 y6) := b3.cell 6
  have q_b50 : w5.cell? ⟨w2.heap.size, 0, none⟩ = some (.int .i64 y0) := b5.cell 0
  have q_b51 : w5.cell? ⟨w2.heap.size, 1, none⟩ = some (.int .i64 y1) := b5.cell 1
  have q_b52 : w5.cell? ⟨w2.heap.size, 2, none⟩ = some (.int .i64 y2) := b5.cell 2
  have q_b53 : w5.cell? ⟨w2.heap.size, 3, none⟩ = some (.int .i64 y3) := b5.cell 3
  have q_b54 : w5.cell? ⟨w2.heap.size, 4, none⟩ = some (.int .i64 y4) := b5.cell 4
  have q_b55 : w5.cell? ⟨w2.heap.size, 5, none⟩ = some (.int .i64 y5) := b5.cell 5
  have q_b56 : w5.cell? ⟨w2.heap.size, 6, none⟩ = some (.int .i64 y6) := b5.cell 6
  have l_bx : w.heap.size < w5.heap.size := bx.lt
  have l_b3 : w1.heap.size < w5.heap.size := b3.lt
  have l_b5 : w2.heap.size < w5.heap.size := b5.lt
  have f_b30 : w5.frozen? ⟨w1.heap.size, 0, none⟩ = false := b3.frozen 0
  have f_b31 : w5.frozen? ⟨w1.heap.size, 1, none⟩ = false := b3.frozen 1
  have f_b32 : w5.frozen? ⟨w1.heap.size, 2, none⟩ = false := b3.frozen 2
  have f_b33 : w5.frozen? ⟨w1.heap.size, 3, none⟩ = false := b3.frozen 3
  have f_b34 : w5.frozen? ⟨w1.heap.size, 4, none⟩ = false := b3.frozen 4
  have f_b35 : w5.frozen? ⟨w1.heap.size, 5, none⟩ = false := b3.frozen 5
  have f_b36 : w5.frozen? ⟨w1.heap.size, 6, none⟩ = false := b3.frozen 6
  have f_b50 : w5.frozen? ⟨w2.heap.size, 0, none⟩ = false := b5.frozen 0
  have f_b51 : w5.frozen? ⟨w2.heap.size, 1, none⟩ = false := b5.frozen 1
  have f_b52 : w5.frozen? ⟨w2.heap.size, 2, none⟩ = false := b5.frozen 2
  have f_b53 : w5.frozen? ⟨w2.heap.size, 3, none⟩ = false := b5.frozen 3
  have f_b54 : w5.frozen? ⟨w2.heap.size, 4, none⟩ = false := b5.frozen 4
  have f_b55 : w5.frozen? ⟨w2.heap.size, 5, none⟩ = false := b5.frozen 5
  have f_b56 : w5.frozen? ⟨w2.heap.size, 6, none⟩ = false := b5.frozen 6
  go_wp2_with fail
  refine (rPartial_any sh nx fl ac fi wa li n _).mono ?_
  rintro e w6 ⟨rfl, hb⟩
  clear q_bx0 q_bx1 q_bx2 q_bx3 q_bx4 q_bx5 q_bx6 q_bx7 q_bx8 q_bx9 q_bx10 q_bx11 q_bx12 q_bx13 q_bx14 q_bx15 q_bx16 q_bx17 q_b30 q_b31 q_b32 q_b33 q_b34 q_b35 q_b36 q_b50 q_b51 q_b52 q_b53 q_b54 q_b55 q_b56 l_bx l_b3 l_b5 f_b30 f_b31 f_b32 f_b33 f_b34 f_b35 f_b36 f_b50 f_b51 f_b52 f_b53 f_b54 f_b55 f_b56
  have bx : Blk w6 (w.heap.size) 30 #[.int .i64 sh, .int .i64 nx, .int .i64 fl, .int .i64 ac, .int .i64 fi, .int .i64 wa, .int .i64 li, .int .i64 p0, .int .i64 p1, .int .i64 p2, .int .i64 a, .int .i64 b, .int .i64 f, .int .i64 c, .int .i64 m, .slice A k ca, .int .i64 now, .int .i64 n] := (Blk.far7 (bx) (g' := w1.heap.size) (by omega) _ _ _ _ _ _ _).on hb
  have b3 : Blk w6 (w1.heap.size) 23 #[.int .i64 z0, .int .i64 z1, .int .i64 z2, .int .i64 z3, .int .i64 z4, .int .i64 z5, .int .i64 z6] := (Blk.set7 (b3) _ _ _ _ _ _ _).on hb
  have b5 : Blk w6 (w2.heap.size) 23 #[.int .i64 y0, .int .i64 y1, .int .i64 y2, .int .i64 y3, .int .i64 y4, .int .i64 y5, .int .i64 y6] := (Blk.far7 (b5) (g' := w1.heap.size) (by omega) _ _ _ _ _ _ _).on hb
  have hbz := hb.size
  have hbv : Below w.heap.size w ((((((((w5).setCell ⟨w1.heap.size, 0, none⟩ (.int .i64 z0)).setCell ⟨w1.heap.size, 1, none⟩ (.int .i64 z1)).setCell ⟨w1.heap.size, 2, none⟩ (.int .i64 z2)).setCell ⟨w1.heap.size, 3, none⟩ (.int .i64 z3)).setCell ⟨w1.heap.size, 4, none⟩ (.int .i64 z4)).setCell ⟨w1.heap.size, 5, none⟩ (.int .i64 z5)).setCell ⟨w1.heap.size, 6, none⟩ (.int .i64 z6)) := below_set7 (HB5.out) (H := w1.heap.size) (by first | exact Nat.le_refl _ | omega) _ _ _ _ _ _ _
  have HB6 := Lib.hid (hbv.trans (hb.mono hbv.size))
  clear hbv
  have hz6 : w.heap.size ≤ w6.heap.size := HB6.out.size
  clear hb hbz
  rw [HR2.out]
  simp only [MR, MS.cs]
  have q_bx0 : w6.cell? ⟨w.heap.size, 0, none⟩ = some (.int .i64 sh) := bx.cell 0
  have q_bx1 : w6.cell? ⟨w.heap.size, 1, none⟩ = some (.int .i64 nx) := bx.cell 1
  have q_bx2 : w6.cell? ⟨w.heap.size, 2, none⟩ = some (.int .i64 fl) := bx.cell 2
  have q_bx3 : w6.cell? ⟨w.heap.size, 3, none⟩ = some (.int .i64 ac) := bx.cell 3
  have q_bx4 : w6.cell? ⟨w.heap.size, 4, none⟩ = some (.int .i64 fi) := bx.cell 4
  have q_bx5 : w6.cell? ⟨w.heap.size, 5, none⟩ = some (.int .i64 wa) := bx.cell 5
  have q_bx6 : w6.cell? ⟨w.heap.size, 6, none⟩ = some (.int .i64 li) := bx.cell 6
  have q_bx7 : w6.cell? ⟨w.heap.size, 7, none⟩ = some (.int .i64 p0) := bx.cell 7
  have q_bx8 : w6.cell? ⟨w.heap.size, 8, none⟩ = some (.int .i64 p1) := bx.cell 8
  have q_bx9 : w6.cell? ⟨w.heap.size, 9, none⟩ = some (.int .i64 p2) := bx.cell 9
  have q_bx10 : w6.cell? ⟨w.heap.size, 10, none⟩ = some (.int .i64 a) := bx.cell 10
  have q_bx11 : w6.cell? ⟨w.heap.size, 11, none⟩ = some (.int .i64 b) := bx.cell 11
  have q_bx12 : w6.cell? ⟨w.heap.size, 12, none⟩ = some (.int .i64 f) := bx.cell 12
  have q_bx13 : w6.cell? ⟨w.heap.size, 13, none⟩ = some (.int .i64 c) := bx.cell 13
  have q_bx14 : w6.cell? ⟨w.heap.size, 14, none⟩ = some (.int .i64 m) := bx.cell 14
  have q_bx15 : w6.cell? ⟨w.heap.size, 15, none⟩ = some (.slice A k ca) := bx.cell 15
  have q_bx16 : w6.cell? ⟨w.heap.size, 16, none⟩ = some (.int .i64 now) := bx.cell 16
  have q_bx17 : w6.cell? ⟨w.heap.size, 17, none⟩ = some (.int .i64 n) := bx.cell 17
  have q_b30 : w6.cell? ⟨w1.heap.size, 0, none⟩ = some (.int .i64 z0) := b3.cell 0
  have q_b31 : w6.cell? ⟨w1.heap.size, 1, none⟩ = some (.int .i64 z1) := b3.cell 1
  have q_b32 : w6.cell? ⟨w1.heap.size, 2, none⟩ = some (.int .i64 z2) := b3.cell 2
  have q_b33 : w6.cell? ⟨w1.heap.size, 3, none⟩ = some (.int .i64 z3) := b3.cell 3
  have q_b34 : w6.cell? ⟨w1.heap.size, 4, none⟩ = some (.int .i64 z4) := b3.cell 4
  have q_b35 : w6.cell? ⟨w1.heap.size, 5, none⟩ = some (.int .i64 z5) := b3.cell 5
  have q_b36 : w6.cell? ⟨w1.heap.size, 6, none⟩ = some (.int .i64 z6) := b3.cell 6
  have q_b50 : w6.cell? ⟨w2.heap.size, 0, none⟩ = some (.int .i64 y0) := b5.cell 0
  have q_b51 : w6.cell? ⟨w2.heap.size, 1, none⟩ = some (.int .i64 y1) := b5.cell 1
  have q_b52 : w6.cell? ⟨w2.heap.size, 2, none⟩ = some (.int .i64 y2) := b5.cell 2
  have q_b53 : w6.cell? ⟨w2.heap.size, 3, none⟩ = some (.int .i64 y3) := b5.cell 3
  have q_b54 : w6.cell? ⟨w2.heap.size, 4, none⟩ = some (.int .i64 y4) := b5.cell 4
  have q_b55 : w6.cell? ⟨w2.heap.size, 5, none⟩ = some (.int .i64 y5) := b5.cell 5
  have q_b56 : w6.cell? ⟨w2.heap.size, 6, none⟩ = some (.int .i64 y6) := b5.cell 6
  have l_bx : w.heap.size < w6.heap.size := bx.lt
  have l_b3 : w1.heap.size < w6.heap.size := b3.lt
  have l_b5 : w2.heap.size < w6.heap.size := b5.lt
  have f_b30 : w6.frozen? ⟨w1.heap.size, 0, none⟩ = false := b3.frozen 0
  have f_b31 : w6.frozen? ⟨w1.heap.size, 1, none⟩ = false := b3.frozen 1
  have f_b32 : w6.frozen? ⟨w1.heap.size, 2, none⟩ = false := b3.frozen 2
  have f_b33 : w6.frozen? ⟨w1.heap.size, 3, none⟩ = false := b3.frozen 3
  have f_b34 : w6.frozen? ⟨w1.heap.size, 4, none⟩ = false := b3.frozen 4
  have f_b35 : w6.frozen? ⟨w1.heap.size, 5, none⟩ = false := b3.frozen 5
  have f_b36 : w6.frozen? ⟨w1.heap.size, 6, none⟩ = false := b3.frozen 6
  have f_b50 : w6.frozen? ⟨w2.heap.size, 0, none⟩ = false := b5.frozen 0
  have f_b51 : w6.frozen? ⟨w2.heap.size, 1, none⟩ = false := b5.frozen 1
  have f_b52 : w6.frozen? ⟨w2.heap.size, 2, none⟩ = false := b5.frozen 2
  have f_b53 : w6.frozen? ⟨w2.heap.size, 3, none⟩ = false := b5.frozen 3
  have f_b54 : w6.frozen? ⟨w2.heap.size, 4, none⟩ = false := b5.frozen 4
  have f_b55 : w6.frozen? ⟨w2.heap.size, 5, none⟩ = false := b5.frozen 5
  have f_b56 : w6.frozen? ⟨w2.heap.size, 6, none⟩ = false := b5.frozen 6
  go_wp2_with fail
  refine (Fail_any sh nx fl ac fi wa li a b f c m now _).mono ?_
  rintro e w7 ⟨rfl, hb⟩
  clear q_bx0 q_bx1 q_bx2 q_bx3 q_bx4 q_bx5 q_bx6 q_bx7 q_bx8 q_bx9 q_bx10 q_bx11 q_bx12 q_bx13 q_bx14 q_bx15 q_bx16 q_bx17 q_b30 q_b31 q_b32 q_b33 q_b34 q_b35 q_b36 q_b50 q_b51 q_b52 q_b53 q_b54 q_b55 q_b56 l_bx l_b3 l_b5 f_b30 f_b31 f_b32 f_b33 f_b34 f_b35 f_b36 f_b50 f_b51 f_b52 f_b53 f_b54 f_b55 f_b56
  have bx : Blk w7 (w.heap.size) 30 #[.int .i64 sh, .int .i64 nx, .int .i64 fl, .int .i64 ac, .int .i64 fi, .int .i64 wa, .int .i64 li, .int .i64 p0, .int .i64 p1, .int .i64 p2, .int .i64 a, .int .i64 b, .int .i64 f, .int .i64 c, .int .i64 m, .slice A k ca, .int .i64 now, .int .i64 n] := (Blk.far7 (bx) (g' := w2.heap.size) (by omega) _ _ _ _ _ _ _).on hb
  have b3 : Blk w7 (w1.heap.size) 23 #[.int .i64 z0, .int .i64 z1, .int .i64 z2, .int .i64 z3, .int .i64 z4, .int .i64 z5, .int .i64 z6] := (Blk.far7 (b3) (g' := w2.heap.size) (by omega) _ _ _ _ _ _ _).on hb
  have b5 : Blk w7 (w2.heap.size) 23 #[.int .i64 z0, .int .i64 z1, .int .i64 z2, .int .i64 z3, .int .i64 z4, .int .i64 z5, .int .i64 z6] := (Blk.set7 (b5) _ _ _ _ _ _ _).on hb
  have hbz := hb.size
  have hbv : Below w.heap.size w ((((((((w6).setCell ⟨w2.heap.size, 0, none⟩ (.int .i64 z0)).setCell ⟨w2.heap.size, 1, none⟩ (.int .i64 z1)).setCell ⟨w2.heap.size, 2, none⟩ (.int .i64 z2)).setCell ⟨w2.heap.size, 3, none⟩ (.int .i64 z3)).setCell ⟨w2.heap.size, 4, none⟩ (.int .i64 z4)).setCell ⟨w2.heap.size, 5, none⟩ (.int .i64 z5)).setCell ⟨w2.heap.size, 6, none⟩ (.int .i64 z6)) := below_set7 (HB6.out) (H := w2.heap.size) (by first | exact Nat.le_refl _ | omega) _ _ _ _ _ _ _
  have HB7 := Lib.hid (hbv.trans (hb.mono hbv.size))
  clear hbv
  have hz7 : w.heap.size ≤ w7.heap.size := HB7.out.size
  clear hb hbz
  generalize hR : failS ⟨sh, nx, fl, ac, fi, wa, li⟩ ⟨a, b, f, c, m⟩ now = R
  obtain ⟨⟨u0, u1, u2, u3, u4, u5, u6⟩, q3, e3⟩ := R
  have HR3 := Lib.hid hR
  clear hR
  simp only [MR3, MS.cs]
  have q_bx0 : w7.cell? ⟨w.heap.size, 0, none⟩ = some (.int .i64 sh) := bx.cell 0
  have q_bx1 : w7.cell? ⟨w.heap.size, 1, none⟩ = some (.int .i64 nx) := bx.cell 1
  have q_bx2 : w7.cell? ⟨w.heap.size, 2, none⟩ = some (.int .i64 fl) := bx.cell 2
  have q_bx3 : w7.cell? ⟨w.heap.size, 3, none⟩ = some (.int .i64 ac) := bx.cell 3
  have q_bx4 : w7.cell? ⟨w.heap.size, 4, none⟩ = some (.int .i64 fi) := bx.cell 4
  have q_bx5 : w7.cell? ⟨w.heap.size, 5, none⟩ = some (.int .i64 wa) := bx.cell 5
  have q_bx6 : w7.cell? ⟨w.heap.size, 6, none⟩ = some (.int .i64 li) := bx.cell 6
  have q_bx7 : w7.cell? ⟨w.heap.size, 7, none⟩ = some (.int .i64 p0) := bx.cell 7
  have q_bx8 : w7.cell? ⟨w.heap.size, 8, none⟩ = some (.int .i64 p1) := bx.cell 8
  have q_bx9 : w7.cell? ⟨w.heap.size, 9, none⟩ = some (.int .i64 p2) := bx.cell 9
  have q_bx10 : w7.cell? ⟨w.heap.size, 10, none⟩ = some (.int .i64 a) := bx.cell 10
  have q_bx11 : w7.cell? ⟨w.heap.size, 11, none⟩ = some (.int .i64 b) := bx.cell 11
  have q_bx12 : w7.cell? ⟨w.heap.size, 12, none⟩ = some (.int .i64 f) := bx.cell 12
  have q_bx13 : w7.cell? ⟨w.heap.size, 13, none⟩ = some (.int .i64 c) := bx.cell 13
  have q_bx14 : w7.cell? ⟨w.heap.size, 14, none⟩ = some (.int .i64 m) := bx.cell 14
  have q_bx15 : w7.cell? ⟨w.heap.size, 15, none⟩ = some (.slice A k ca) := bx.cell 15
  have q_bx16 : w7.cell? ⟨w.heap.size, 16, none⟩ = some (.int .i64 now) := bx.cell 16
  have q_bx17 : w7.cell? ⟨w.heap.size, 17, none⟩ = some (.int .i64 n) := bx.cell 17
  have q_b30 : w7.cell? ⟨w1.heap.size, 0, none⟩ = some (.int .i64 z0) := b3.cell 0
  have q_b31 : w7.cell? ⟨w1.heap.size, 1, none⟩ = some (.int .i64 z1) := b3.cell 1
  have q_b32 : w7.cell? ⟨w1.heap.size, 2, none⟩ = some (.int .i64 z2) := b3.cell 2
  have q_b33 : w7.cell? ⟨w1.heap.size, 3, none⟩ = some (.int .i64 z3) := b3.cell 3
  have q_b34 : w7.cell? ⟨w1.heap.size, 4, none⟩ = some (.int .i64 z4) := b3.cell 4
  have q_b35 : w7.cell? ⟨w1.heap.size, 5, none⟩ = some (.int .i64 z5) := b3.cell 5
  have q_b36 : w7.cell? ⟨w1.heap.size, 6, none⟩ = some (.int .i64 z6) := b3.cell 6
  have q_b50 : w7.cell? ⟨w2.heap.size, 0, none⟩ = some (.int .i64 z0) := b5.cell 0
  have q_b51 : w7.cell? ⟨w2.heap.size, 1, none⟩ = some (.int .i64 z1) := b5.cell 1
  have q_b52 : w7.cell? ⟨w2.heap.size, 2, none⟩ = some (.int .i64 z2) := b5.cell 2
  have q_b53 : w7.cell? ⟨w2.heap.size, 3, none⟩ = some (.int .i64 z3) := b5.cell 3
  have q_b54 : w7.cell? ⟨w2.heap.size, 4, none⟩ = some (.int .i64 z4) := b5.cell 4
  have q_b55 : w7.cell? ⟨w2.heap.size, 5, none⟩ = some (.int .i64 z5) := b5.cell 5
  have q_b56 : w7.cell? ⟨w2.heap.size, 6, none⟩ = some (.int .i64 z6) := b5.cell 6
  have l_bx : w.heap.size < w7.heap.size := bx.lt
  have l_b3 : w1.heap.size < w7.heap.size := b3.lt
  have l_b5 : w2.heap.size < w7.heap.size := b5.lt
  have f_b30 : w7.frozen? ⟨w1.heap.size, 0, none⟩ = false := b3.frozen 0
  have f_b31 : w7.frozen? ⟨w1.heap.size, 1, none⟩ = false := b3.frozen 1
  have f_b32 : w7.frozen? ⟨w1.heap.size, 2, none⟩ = false := b3.frozen 2
  have f_b33 : w7.frozen? ⟨w1.heap.size, 3, none⟩ = false := b3.frozen 3
  have f_b34 : w7.frozen? ⟨w1.heap.size, 4, none⟩ = false := b3.frozen 4
  have f_b35 : w7.frozen? ⟨w1.heap.size, 5, none⟩ = false := b3.frozen 5
  have f_b36 : w7.frozen? ⟨w1.heap.size, 6, none⟩ = false := b3.frozen 6
  have f_b50 : w7.frozen? ⟨w2.heap.size, 0, none⟩ = false := b5.frozen 0
  have f_b51 : w7.frozen? ⟨w2.heap.size, 1, none⟩ = false := b5.frozen 1
  have f_b52 : w7.frozen? ⟨w2.heap.size, 2, none⟩ = false := b5.frozen 2
  have f_b53 : w7.frozen? ⟨w2.heap.size, 3, none⟩ = false := b5.frozen 3
  have f_b54 : w7.frozen? ⟨w2.heap.size, 4, none⟩ = false := b5.frozen 4
  have f_b55 : w7.frozen? ⟨w2.heap.size, 5, none⟩ = false := b5.frozen 5
  have f_b56 : w7.frozen? ⟨w2.heap.size, 6, none⟩ = false := b5.frozen 6
  go_wp2_with fail
  refine (rFail_any sh nx fl ac fi wa li a b f c m now _).mono ?_
  rintro e w8 ⟨rfl, hb⟩
  clear q_bx0 q_bx1 q_bx2 q_bx3 q_bx4 q_bx5 q_bx6 q_bx7 q_bx8 q_bx9 q_bx10 q_bx11 q_bx12 q_bx13 q_bx14 q_bx15 q_bx16 q_bx17 q_b30 q_b31 q_b32 q_b33 q_b34 q_b35 q_b36 q_b50 q_b51 q_b52 q_b53 q_b54 q_b55 q_b56 l_bx l_b3 l_b5 f_b30 f_b31 f_b32 f_b33 f_b34 f_b35 f_b36 f_b50 f_b51 f_b52 f_b53 f_b54 f_b55 f_b56
  have bx : Blk w8 (w.heap.size) 30 #[.int .i64 sh, .int .i64 nx, .int .i64 fl, .int .i64 ac, .int .i64 fi, .int .i64 wa, .int .i64 li, .int .i64 p0, .int .i64 p1, .int .i64 p2, .int .i64 a, .int .i64 b, .int .i64 f, .int .i64 c, .int .i64 m, .slice A k ca, .int .i64 now, .int .i64 n] := (Blk.far7 (bx) (g' := w1.heap.size) (by omega) _ _ _ _ _ _ _).on hb
  have b3 : Blk w8 (w1.heap.size) 23 #[.int .i64 u0, .int .i64 u1, .int .i64 u2, .int .i64 u3, .int .i64 u4, .int .i64 u5, .int .i64 u6] := (Blk.set7 (b3) _ _ _ _ _ _ _).on hb
  have b5 : Blk w8 (w2.heap.size) 23 #[.int .i64 z0, .int .i64 z1, .int .i64 z2, .int .i64 z3, .int .i64 z4, .int .i64 z5, .int .i64 z6] := (Blk.far7 (b5) (g' := w1.heap.size) (by omega) _ _ _ _ _ _ _).on hb
  have hbz := hb.size
  have hbv : Below w.heap.size w ((((((((w7).setCell ⟨w1.heap.size, 0, none⟩ (.int .i64 u0)).setCell ⟨w1.heap.size, 1, none⟩ (.int .i64 u1)).setCell ⟨w1.heap.size, 2, none⟩ (.int .i64 u2)).setCell ⟨w1.heap.size, 3, none⟩ (.int .i64 u3)).setCell ⟨w1.heap.size, 4, none⟩ (.int .i64 u4)).setCell ⟨w1.heap.size, 5, none⟩ (.int .i64 u5)).setCell ⟨w1.heap.size, 6, none⟩ (.int .i64 u6)) := below_set7 (HB7.out) (H := w1.heap.size) (by first | exact Nat.le_refl _ | omega) _ _ _ _ _ _ _
  have HB8 := Lib.hid (hbv.trans (hb.mono hbv.size))
  clear hbv
  have hz8 : w.heap.size ≤ w8.heap.size := HB8.out.size
  clear hb hbz
  rw [HR3.out]
  simp only [MR3, MS.cs]
  have q_bx0 : w8.cell? ⟨w.heap.size, 0, none⟩ = some (.int .i64 sh) := bx.cell 0
  have q_bx1 : w8.cell? ⟨w.heap.size, 1, none⟩ = some (.int .i64 nx) := bx.cell 1
  have q_bx2 : w8.cell? ⟨w.heap.size, 2, none⟩ = some (.int .i64 fl) := bx.cell 2
  have q_bx3 : w8.cell? ⟨w.heap.size, 3, none⟩ = some (.int .i64 ac) := bx.cell 3
  have q_bx4 : w8.cell? ⟨w.heap.size, 4, none⟩ = some (.int .i64 fi) := bx.cell 4
  have q_bx5 : w8.cell? ⟨w.heap.size, 5, none⟩ = some (.int .i64 wa) := bx.cell 5
  have q_bx6 : w8.cell? ⟨w.heap.size, 6, none⟩ = some (.int .i64 li) := bx.cell 6
  have q_bx7 : w8.cell? ⟨w.heap.size, 7, none⟩ = some (.int .i64 p0) := bx.cell 7
  have q_bx8 : w8.cell? ⟨w.heap.size, 8, none⟩ = some (.int .i64 p1) := bx.cell 8
  have q_bx9 : w8.cell? ⟨w.heap.size, 9, none⟩ = some (.int .i64 p2) := bx.cell 9
  have q_bx10 : w8.cell? ⟨w.heap.size, 10, none⟩ = some (.int .i64 a) := bx.cell 10
  have q_bx11 : w8.cell? ⟨w.heap.size, 11, none⟩ = some (.int .i64 b) := bx.cell 11
  have q_bx12 : w8.cell? ⟨w.heap.size, 12, none⟩ = some (.int .i64 f) := bx.cell 12
  have q_bx13 : w8.cell? ⟨w.heap.size, 13, none⟩ = some (.int .i64 c) := bx.cell 13
  have q_bx14 : w8.cell? ⟨w.heap.size, 14, none⟩ = some (.int .i64 m) := bx.cell 14
  have q_bx15 : w8.cell? ⟨w.heap.size, 15, none⟩ = some (.slice A k ca) := bx.cell 15
  have q_bx16 : w8.cell? ⟨w.heap.size, 16, none⟩ = some (.int .i64 now) := bx.cell 16
  have q_bx17 : w8.cell? ⟨w.heap.size, 17, none⟩ = some (.int .i64 n) := bx.cell 17
  have q_b30 : w8.cell? ⟨w1.heap.size, 0, none⟩ = some (.int .i64 u0) := b3.cell 0
  have q_b31 : w8.cell? ⟨w1.heap.size, 1, none⟩ = some (.int .i64 u1) := b3.cell 1
  have q_b32 : w8.cell? ⟨w1.heap.size, 2, none⟩ = some (.int .i64 u2) := b3.cell 2
  have q_b33 : w8.cell? ⟨w1.heap.size, 3, none⟩ = some (.int .i64 u3) := b3.cell 3
  have q_b34 : w8.cell? ⟨w1.heap.size, 4, none⟩ = some (.int .i64 u4) := b3.cell 4
  have q_b35 : w8.cell? ⟨w1.heap.size, 5, none⟩ = some (.int .i64 u5) := b3.cell 5
  have q_b36 : w8.cell? ⟨w1.heap.size, 6, none⟩ = some (.int .i64 u6) := b3.cell 6
  have q_b50 : w8.cell? ⟨w2.heap.size, 0, none⟩ = some (.int .i64 z0) := b5.cell 0
  have q_b51 : w8.cell? ⟨w2.heap.size, 1, none⟩ = some (.int .i64 z1) := b5.cell 1
  have q_b52 : w8.cell? ⟨w2.heap.size, 2, none⟩ = some (.int .i64 z2) := b5.cell 2
  have q_b53 : w8.cell? ⟨w2.heap.size, 3, none⟩ = some (.int .i64 z3) := b5.cell 3
  have q_b54 : w8.cell? ⟨w2.heap.size, 4, none⟩ = some (.int .i64 z4) := b5.cell 4
  have q_b55 : w8.cell? ⟨w2.heap.size, 5, none⟩ = some (.int .i64 z5) := b5.cell 5
  have q_b56 : w8.cell? ⟨w2.heap.size, 6, none⟩ = some (.int .i64 z6) := b5.cell 6
  have l_bx : w.heap.size < w8.heap.size := bx.lt
  have l_b3 : w1.heap.size < w8.heap.size := b3.lt
  have l_b5 : w2.heap.size < w8.heap.size := b5.lt
  have f_b30 : w8.frozen? ⟨w1.heap.size, 0, none⟩ = false := b3.frozen 0
  have f_b31 : w8.frozen? ⟨w1.heap.size, 1, none⟩ = false := b3.frozen 1
  have f_b32 : w8.frozen? ⟨w1.heap.size, 2, none⟩ = false := b3.frozen 2
  have f_b33 : w8.frozen? ⟨w1.heap.size, 3, none⟩ = false := b3.frozen 3
  have f_b34 : w8.frozen? ⟨w1.heap.size, 4, none⟩ = false := b3.frozen 4
  have f_b35 : w8.frozen? ⟨w1.heap.size, 5, none⟩ = false := b3.frozen 5
  have f_b36 : w8.frozen? ⟨w1.heap.size, 6, none⟩ = false := b3.frozen 6
  have f_b50 : w8.frozen? ⟨w2.heap.size, 0, none⟩ = false := b5.frozen 0
  have f_b51 : w8.frozen? ⟨w2.heap.size, 1, none⟩ = false := b5.frozen 1
  have f_b52 : w8.frozen? ⟨w2.heap.size, 2, none⟩ = false := b5.frozen 2
  have f_b53 : w8.frozen? ⟨w2.heap.size, 3, none⟩ = false := b5.frozen 3
  have f_b54 : w8.frozen? ⟨w2.heap.size, 4, none⟩ = false := b5.frozen 4
  have f_b55 : w8.frozen? ⟨w2.heap.size, 5, none⟩ = false := b5.frozen 5
  have f_b56 : w8.frozen? ⟨w2.heap.size, 6, none⟩ = false := b5.frozen 6
  go_wp2_with fail
  refine (awake_any _).mono ?_
  rintro e w9 ⟨rfl, hb⟩
  clear q_bx0 q_bx1 q_bx2 q_bx3 q_bx4 q_bx5 q_bx6 q_bx7 q_bx8 q_bx9 q_bx10 q_bx11 q_bx12 q_bx13 q_bx14 q_bx15 q_bx16 q_bx17 q_b30 q_b31 q_b32 q_b33 q_b34 q_b35 q_b36 q_b50 q_b51 q_b52 q_b53 q_b54 q_b55 q_b56 l_bx l_b3 l_b5 f_b30 f_b31 f_b32 f_b33 f_b34 f_b35 f_b36 f_b50 f_b51 f_b52 f_b53 f_b54 f_b55 f_b56
  have bx : Blk w9 (w.heap.size) 30 #[.int .i64 sh, .int .i64 nx, .int .i64 fl, .int .i64 ac, .int .i64 fi, .int .i64 wa, .int .i64 li, .int .i64 p0, .int .i64 p1, .int .i64 p2, .int .i64 a, .int .i64 b, .int .i64 f, .int .i64 c, .int .i64 m, .slice A k ca, .int .i64 now, .int .i64 n] := (Blk.far7 (bx) (g' := w2.heap.size) (by omega) _ _ _ _ _ _ _).on hb
  have b3 : Blk w9 (w1.heap.size) 23 #[.int .i64 u0, .int .i64 u1, .int .i64 u2, .int .i64 u3, .int .i64 u4, .int .i64 u5, .int .i64 u6] := (Blk.far7 (b3) (g' := w2.heap.size) (by omega) _ _ _ _ _ _ _).on hb
  have b5 : Blk w9 (w2.heap.size) 23 #[.int .i64 u0, .int .i64 u1, .int .i64 u2, .int .i64 u3, .int .i64 u4, .int .i64 u5, .int .i64 u6] := (Blk.set7 (b5) _ _ _ _ _ _ _).on hb
  have hbz := hb.size
  have hbv : Below w.heap.size w ((((((((w8).setCell ⟨w2.heap.size, 0, none⟩ (.int .i64 u0)).setCell ⟨w2.heap.size, 1, none⟩ (.int .i64 u1)).setCell ⟨w2.heap.size, 2, none⟩ (.int .i64 u2)).setCell ⟨w2.heap.size, 3, none⟩ (.int .i64 u3)).setCell ⟨w2.heap.size, 4, none⟩ (.int .i64 u4)).setCell ⟨w2.heap.size, 5, none⟩ (.int .i64 u5)).setCell ⟨w2.heap.size, 6, none⟩ (.int .i64 u6)) := below_set7 (HB8.out) (H := w2.heap.size) (by first | exact Nat.le_refl _ | omega) _ _ _ _ _ _ _
  have HB9 := Lib.hid (hbv.trans (hb.mono hbv.size))
  clear hbv
  have hz9 : w.heap.size ≤ w9.heap.size := HB9.out.size
  clear hb hbz
  go_wp2_with fail
  go_ret
  exact ⟨rfl, HB9.out⟩
end Go.Proofs.Ytojghgeemdpmpaa
