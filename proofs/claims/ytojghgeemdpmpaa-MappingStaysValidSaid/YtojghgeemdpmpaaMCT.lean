/- MappingStaysValid: walked. -/
import Derived.Test.YtojghgeemdpmpaaMCT0
import Derived.Deep.CutRange
namespace Go.Proofs.Ytojghgeemdpmpaa
open Go.RowKit
open Go.Sort (grow)
open BO (RP)

set_option maxHeartbeats 8000000 in
set_option maxRecDepth 100000 in
theorem law_valid (sh nx fl ac fi wa li p0 p1 p2 a b f c m now n : Int) (A : Option Addr) (ca : Nat) (l : List RecX) (w : World) (hl : RecsAt w w.heap.size A l) (hsb : okB l) (hn : l.length ≤ 1034834473170) : Calls Try.prog 6 #[.agg #[.int .i64 sh, .int .i64 nx, .int .i64 fl, .int .i64 ac, .int .i64 fi, .int .i64 wa, .int .i64 li, .int .i64 p0, .int .i64 p1, .int .i64 p2, .int .i64 a, .int .i64 b, .int .i64 f, .int .i64 c, .int .i64 m, .slice A l.length ca, .int .i64 now, .int .i64 n]] w fun e w' => e = .returned (.bool true) ∧ Below w.heap.size w w' := by
  have hn0 := Nat.le_refl w.heap.size
  have HL := Lib.hid hl
  clear hl
  go_enter Try.func6, Try.ntmps6
  go_wp2_with fail
  refine (Poll_any sh nx fl ac fi wa li p0 p1 p2 now A ca l _ ((HL.out.below ((Below.refl w.heap.size w).alloc (by first | exact Nat.le_refl _ | omega | (simp; done) | (simp; omega)) _)).more ((Below.refl w.heap.size w).alloc (by first | exact Nat.le_refl _ | omega | (simp; done) | (simp; omega)) _).size) hn hsb).mono ?_
  rintro e w1 ⟨A1, c1, b1, rfl, -, hm1, hb⟩
  have bx : Blk w1 (w.heap.size) 30 #[.int .i64 sh, .int .i64 nx, .int .i64 fl, .int .i64 ac, .int .i64 fi, .int .i64 wa, .int .i64 li, .int .i64 p0, .int .i64 p1, .int .i64 p2, .int .i64 a, .int .i64 b, .int .i64 f, .int .i64 c, .int .i64 m, .slice A l.length ca, .int .i64 now, .int .i64 n] := (Blk.new _ _ _).on hb
  have HB1 := Lib.hid ((((Below.refl w.heap.size w).alloc (by first | exact Nat.le_refl _ | omega | (simp; done) | (simp; omega)) _)).trans (hb.mono ((Below.refl w.heap.size w).alloc (by first | exact Nat.le_refl _ | omega | (simp; done) | (simp; omega)) _).size))
  have hz1 : w.heap.size ≤ w1.heap.size := HB1.out.size
  clear hb
  have o1 : w.heap.size < w1.heap.size := bx.lt
  have hv := poll_valid (s := ⟨sh, nx, fl, ac, fi, wa, li⟩) (p := ⟨p0, p1, p2⟩) (l := l.map (·.r)) (now := now)
  have hln := congrArg List.length hm1
  simp only [List.length_map] at hln
  generalize pollS ⟨sh, nx, fl, ac, fi, wa, li⟩ ⟨p0, p1, p2⟩ (l.map (·.r)) now = X at *
  obtain ⟨⟨x0, x1, x2, x3, x4, x5, x6⟩, B, E⟩ := X
  have HV := Lib.hid (show E = 0 → MS.e ⟨x0, x1, x2, x3, x4, x5, x6⟩ = 0 ∧ nx ≤ x1 ∧ (b1.length : Int) = x2 from fun h => by have := hv h; rw [← hln] at this; exact this)
  clear hv hln hm1
  simp only [MS.cs]
  have q_bx0 : w1.cell? ⟨w.heap.size, 0, none⟩ = some (.int .i64 sh) := bx.cell 0
  have q_bx1 : w1.cell? ⟨w.heap.size, 1, none⟩ = some (.int .i64 nx) := bx.cell 1
  have q_bx2 : w1.cell? ⟨w.heap.size, 2, none⟩ = some (.int .i64 fl) := bx.cell 2
  have q_bx3 : w1.cell? ⟨w.heap.size, 3, none⟩ = some (.int .i64 ac) := bx.cell 3
  have q_bx4 : w1.cell? ⟨w.heap.size, 4, none⟩ = some (.int .i64 fi) := bx.cell 4
  have q_bx5 : w1.cell? ⟨w.heap.size, 5, none⟩ = some (.int .i64 wa) := bx.cell 5
  have q_bx6 : w1.cell? ⟨w.heap.size, 6, none⟩ = some (.int .i64 li) := bx.cell 6
  have q_bx7 : w1.cell? ⟨w.heap.size, 7, none⟩ = some (.int .i64 p0) := bx.cell 7
  have q_bx8 : w1.cell? ⟨w.heap.size, 8, none⟩ = some (.int .i64 p1) := bx.cell 8
  have q_bx9 : w1.cell? ⟨w.heap.size, 9, none⟩ = some (.int .i64 p2) := bx.cell 9
  have q_bx10 : w1.cell? ⟨w.heap.size, 10, none⟩ = some (.int .i64 a) := bx.cell 10
  have q_bx11 : w1.cell? ⟨w.heap.size, 11, none⟩ = some (.int .i64 b) := bx.cell 11
  have q_bx12 : w1.cell? ⟨w.heap.size, 12, none⟩ = some (.int .i64 f) := bx.cell 12
  have q_bx13 : w1.cell? ⟨w.heap.size, 13, none⟩ = some (.int .i64 c) := bx.cell 13
  have q_bx14 : w1.cell? ⟨w.heap.size, 14, none⟩ = some (.int .i64 m) := bx.cell 14
  have q_bx15 : w1.cell? ⟨w.heap.size, 15, none⟩ = some (.slice A l.length ca) := bx.cell 15
  have q_bx16 : w1.cell? ⟨w.heap.size, 16, none⟩ = some (.int .i64 now) := bx.cell 16
  have q_bx17 : w1.cell? ⟨w.heap.size, 17, none⟩ = some (.int .i64 n) := bx.cell 17
  have l_bx : w.heap.size < w1.heap.size := bx.lt
  go_upto_region 2 with fail
  clear q_bx0 q_bx1 q_bx2 q_bx3 q_bx4 q_bx5 q_bx6 q_bx7 q_bx8 q_bx9 q_bx10 q_bx11 q_bx12 q_bx13 q_bx14 q_bx15 q_bx16 q_bx17 l_bx
  have bx : Blk ((w1).alloc (.cells #[.int .i64 x0, .int .i64 x1, .int .i64 x2, .int .i64 x3, .int .i64 x4, .int .i64 x5, .int .i64 x6] 23)) (w.heap.size) 30 #[.int .i64 sh, .int .i64 nx, .int .i64 fl, .int .i64 ac, .int .i64 fi, .int .i64 wa, .int .i64 li, .int .i64 p0, .int .i64 p1, .int .i64 p2, .int .i64 a, .int .i64 b, .int .i64 f, .int .i64 c, .int .i64 m, .slice A l.length ca, .int .i64 now, .int .i64 n] := (bx).alloc _
  have b3 : Blk ((w1).alloc (.cells #[.int .i64 x0, .int .i64 x1, .int .i64 x2, .int .i64 x3, .int .i64 x4, .int .i64 x5, .int .i64 x6] 23)) (w1.heap.size) 23 #[.int .i64 x0, .int .i64 x1, .int .i64 x2, .int .i64 x3, .int .i64 x4, .int .i64 x5, .int .i64 x6] := Blk.new _ _ _
  have HB2 := Lib.hid (show Below w.heap.size w ((w1).alloc (.cells #[.int .i64 x0, .int .i64 x1, .int .i64 x2, .int .i64 x3, .int .i64 x4, .int .i64 x5, .int .i64 x6] 23)) from (HB1.out).alloc (by first | exact Nat.le_refl _ | omega | (simp; done) | (simp; omega)) _)
  generalize (w1).alloc (.cells #[.int .i64 x0, .int .i64 x1, .int .i64 x2, .int .i64 x3, .int .i64 x4, .int .i64 x5, .int .i64 x6] 23) = w2 at *
  have hz2 : w.heap.size ≤ w2.heap.size := HB2.out.size
  go_cut [41] from 20 to 41 (fun v wx => v = .bool false ∧ Below w2.heap.size w2 wx)
  case first =>
    by_cases he : E = 0
    · obtain ⟨hme, h1, h2⟩ := HV.out he
      subst he
      have g1 : decide (x1 < nx) = false := decide_eq_false (by omega)
      have g2 : ((b1.length : Int) != x2) = false := by rw [h2]; exact bne_self_eq_false _
      clear h2
      have q_bx0 : w2.cell? ⟨w.heap.size, 0, none⟩ = some (.int .i64 sh) := bx.cell 0
      have q_bx1 : w2.cell? ⟨w.heap.size, 1, none⟩ = some (.int .i64 nx) := bx.cell 1
      have q_bx2 : w2.cell? ⟨w.heap.size, 2, none⟩ = some (.int .i64 fl) := bx.cell 2
      have q_bx3 : w2.cell? ⟨w.heap.size, 3, none⟩ = some (.int .i64 ac) := bx.cell 3
      have q_bx4 : w2.cell? ⟨w.heap.size, 4, none⟩ = some (.int .i64 fi) := bx.cell 4
      have q_bx5 : w2.cell? ⟨w.heap.size, 5, none⟩ = some (.int .i64 wa) := bx.cell 5
      have q_bx6 : w2.cell? ⟨w.heap.size, 6, none⟩ = some (.int .i64 li) := bx.cell 6
      have q_bx7 : w2.cell? ⟨w.heap.size, 7, none⟩ = some (.int .i64 p0) := bx.cell 7
      have q_bx8 : w2.cell? ⟨w.heap.size, 8, none⟩ = some (.int .i64 p1) := bx.cell 8
      have q_bx9 : w2.cell? ⟨w.heap.size, 9, none⟩ = some (.int .i64 p2) := bx.cell 9
      have q_bx10 : w2.cell? ⟨w.heap.size, 10, none⟩ = some (.int .i64 a) := bx.cell 10
      have q_bx11 : w2.cell? ⟨w.heap.size, 11, none⟩ = some (.int .i64 b) := bx.cell 11
      have q_bx12 : w2.cell? ⟨w.heap.size, 12, none⟩ = some (.int .i64 f) := bx.cell 12
      have q_bx13 : w2.cell? ⟨w.heap.size, 13, none⟩ = some (.int .i64 c) := bx.cell 13
      have q_bx14 : w2.cell? ⟨w.heap.size, 14, none⟩ = some (.int .i64 m) := bx.cell 14
      have q_bx15 : w2.cell? ⟨w.heap.size, 15, none⟩ = some (.slice A l.length ca) := bx.cell 15
      have q_bx16 : w2.cell? ⟨w.heap.size, 16, none⟩ = some (.int .i64 now) := bx.cell 16
      have q_bx17 : w2.cell? ⟨w.heap.size, 17, none⟩ = some (.int .i64 n) := bx.cell 17
      have q_b30 : w2.cell? ⟨w1.heap.size, 0, none⟩ = some (.int .i64 x0) := b3.cell 0
      have q_b31 : w2.cell? ⟨w1.heap.size, 1, none⟩ = some (.int .i64 x1) := b3.cell 1
      have q_b32 : w2.cell? ⟨w1.heap.size, 2, none⟩ = some (.int .i64 x2) := b3.cell 2
      have q_b33 : w2.cell? ⟨w1.heap.size, 3, none⟩ = some (.int .i64 x3) := b3.cell 3
      have q_b34 : w2.cell? ⟨w1.heap.size, 4, none⟩ = some (.int .i64 x4) := b3.cell 4
      have q_b35 : w2.cell? ⟨w1.heap.size, 5, none⟩ = some (.int .i64 x5) := b3.cell 5
      have q_b36 : w2.cell? ⟨w1.heap.size, 6, none⟩ = some (.int .i64 x6) := b3.cell 6
      have l_bx : w.heap.size < w2.heap.size := bx.lt
      have l_b3 : w1.heap.size < w2.heap.size := b3.lt
      go_wp2_with fail
      refine (MCheck_lit x0 x1 x2 x3 x4 x5 x6 _).mono ?_
      rintro e wq ⟨rfl, hb⟩
      rw [hme]
      clear q_bx0 q_bx1 q_bx2 q_bx3 q_bx4 q_bx5 q_bx6 q_bx7 q_bx8 q_bx9 q_bx10 q_bx11 q_bx12 q_bx13 q_bx14 q_bx15 q_bx16 q_bx17 q_b30 q_b31 q_b32 q_b33 q_b34 q_b35 q_b36 l_bx l_b3
      have bx : Blk wq (w.heap.size) 30 #[.int .i64 sh, .int .i64 nx, .int .i64 fl, .int .i64 ac, .int .i64 fi, .int .i64 wa, .int .i64 li, .int .i64 p0, .int .i64 p1, .int .i64 p2, .int .i64 a, .int .i64 b, .int .i64 f, .int .i64 c, .int .i64 m, .slice A l.length ca, .int .i64 now, .int .i64 n] := bx.on hb
      have b3 : Blk wq (w1.heap.size) 23 #[.int .i64 x0, .int .i64 x1, .int .i64 x2, .int .i64 x3, .int .i64 x4, .int .i64 x5, .int .i64 x6] := b3.on hb
      have HQ := Lib.hid hb
      clear hb
      have q_bx0 : wq.cell? ⟨w.heap.size, 0, none⟩ = some (.int .i64 sh) := bx.cell 0
      have q_bx1 : wq.cell? ⟨w.heap.size, 1, none⟩ = some (.int .i64 nx) := bx.cell 1
      have q_bx2 : wq.cell? ⟨w.heap.size, 2, none⟩ = some (.int .i64 fl) := bx.cell 2
      have q_bx3 : wq.cell? ⟨w.heap.size, 3, none⟩ = some (.int .i64 ac) := bx.cell 3
      have q_bx4 : wq.cell? ⟨w.heap.size, 4, none⟩ = some (.int .i64 fi) := bx.cell 4
      have q_bx5 : wq.cell? ⟨w.heap.size, 5, none⟩ = some (.int .i64 wa) := bx.cell 5
      have q_bx6 : wq.cell? ⟨w.heap.size, 6, none⟩ = some (.int .i64 li) := bx.cell 6
      have q_bx7 : wq.cell? ⟨w.heap.size, 7, none⟩ = some (.int .i64 p0) := bx.cell 7
      have q_bx8 : wq.cell? ⟨w.heap.size, 8, none⟩ = some (.int .i64 p1) := bx.cell 8
      have q_bx9 : wq.cell? ⟨w.heap.size, 9, none⟩ = some (.int .i64 p2) := bx.cell 9
      have q_bx10 : wq.cell? ⟨w.heap.size, 10, none⟩ = some (.int .i64 a) := bx.cell 10
      have q_bx11 : wq.cell? ⟨w.heap.size, 11, none⟩ = some (.int .i64 b) := bx.cell 11
      have q_bx12 : wq.cell? ⟨w.heap.size, 12, none⟩ = some (.int .i64 f) := bx.cell 12
      have q_bx13 : wq.cell? ⟨w.heap.size, 13, none⟩ = some (.int .i64 c) := bx.cell 13
      have q_bx14 : wq.cell? ⟨w.heap.size, 14, none⟩ = some (.int .i64 m) := bx.cell 14
      have q_bx15 : wq.cell? ⟨w.heap.size, 15, none⟩ = some (.slice A l.length ca) := bx.cell 15
      have q_bx16 : wq.cell? ⟨w.heap.size, 16, none⟩ = some (.int .i64 now) := bx.cell 16
      have q_bx17 : wq.cell? ⟨w.heap.size, 17, none⟩ = some (.int .i64 n) := bx.cell 17
      have q_b30 : wq.cell? ⟨w1.heap.size, 0, none⟩ = some (.int .i64 x0) := b3.cell 0
      have q_b31 : wq.cell? ⟨w1.heap.size, 1, none⟩ = some (.int .i64 x1) := b3.cell 1
      have q_b32 : wq.cell? ⟨w1.heap.size, 2, none⟩ = some (.int .i64 x2) := b3.cell 2
      have q_b33 : wq.cell? ⟨w1.heap.size, 3, none⟩ = some (.int .i64 x3) := b3.cell 3
      have q_b34 : wq.cell? ⟨w1.heap.size, 4, none⟩ = some (.int .i64 x4) := b3.cell 4
      have q_b35 : wq.cell? ⟨w1.heap.size, 5, none⟩ = some (.int .i64 x5) := b3.cell 5
      have q_b36 : wq.cell? ⟨w1.heap.size, 6, none⟩ = some (.int .i64 x6) := b3.cell 6
      have l_bx : w.heap.size < wq.heap.size := bx.lt
      have l_b3 : w1.heap.size < wq.heap.size := b3.lt
      go_wp2_with fail
      go_meet
      exact ⟨rfl, HQ.out⟩
    · have hne : (E == 0) = false := beq_eq_false_iff_ne.2 he
      have q_bx0 : w2.cell? ⟨w.heap.size, 0, none⟩ = some (.int .i64 sh) := bx.cell 0
      have q_bx1 : w2.cell? ⟨w.heap.size, 1, none⟩ = some (.int .i64 nx) := bx.cell 1
      have q_bx2 : w2.cell? ⟨w.heap.size, 2, none⟩ = some (.int .i64 fl) := bx.cell 2
      have q_bx3 : w2.cell? ⟨w.heap.size, 3, none⟩ = some (.int .i64 ac) := bx.cell 3
      have q_bx4 : w2.cell? ⟨w.heap.size, 4, none⟩ = some (.int .i64 fi) := bx.cell 4
      have q_bx5 : w2.cell? ⟨w.heap.size, 5, none⟩ = some (.int .i64 wa) := bx.cell 5
      have q_bx6 : w2.cell? ⟨w.heap.size, 6, none⟩ = some (.int .i64 li) := bx.cell 6
      have q_bx7 : w2.cell? ⟨w.heap.size, 7, none⟩ = some (.int .i64 p0) := bx.cell 7
      have q_bx8 : w2.cell? ⟨w.heap.size, 8, none⟩ = some (.int .i64 p1) := bx.cell 8
      have q_bx9 : w2.cell? ⟨w.heap.size, 9, none⟩ = some (.int .i64 p2) := bx.cell 9
      have q_bx10 : w2.cell? ⟨w.heap.size, 10, none⟩ = some (.int .i64 a) := bx.cell 10
      have q_bx11 : w2.cell? ⟨w.heap.size, 11, none⟩ = some (.int .i64 b) := bx.cell 11
      have q_bx12 : w2.cell? ⟨w.heap.size, 12, none⟩ = some (.int .i64 f) := bx.cell 12
      have q_bx13 : w2.cell? ⟨w.heap.size, 13, none⟩ = some (.int .i64 c) := bx.cell 13
      have q_bx14 : w2.cell? ⟨w.heap.size, 14, none⟩ = some (.int .i64 m) := bx.cell 14
      have q_bx15 : w2.cell? ⟨w.heap.size, 15, none⟩ = some (.slice A l.length ca) := bx.cell 15
      have q_bx16 : w2.cell? ⟨w.heap.size, 16, none⟩ = some (.int .i64 now) := bx.cell 16
      have q_bx17 : w2.cell? ⟨w.heap.size, 17, none⟩ = some (.int .i64 n) := bx.cell 17
      have q_b30 : w2.cell? ⟨w1.heap.size, 0, none⟩ = some (.int .i64 x0) := b3.cell 0
      have q_b31 : w2.cell? ⟨w1.heap.size, 1, none⟩ = some (.int .i64 x1) := b3.cell 1
      have q_b32 : w2.cell? ⟨w1.heap.size, 2, none⟩ = some (.int .i64 x2) := b3.cell 2
      have q_b33 : w2.cell? ⟨w1.heap.size, 3, none⟩ = some (.int .i64 x3) := b3.cell 3
      have q_b34 : w2.cell? ⟨w1.heap.size, 4, none⟩ = some (.int .i64 x4) := b3.cell 4
      have q_b35 : w2.cell? ⟨w1.heap.size, 5, none⟩ = some (.int .i64 x5) := b3.cell 5
      have q_b36 : w2.cell? ⟨w1.heap.size, 6, none⟩ = some (.int .i64 x6) := b3.cell 6
      have l_bx : w.heap.size < w2.heap.size := bx.lt
      have l_b3 : w1.heap.size < w2.heap.size := b3.lt
      go_wp2_with fail
      go_meet
      exact ⟨rfl, Below.refl _ _⟩
  case rest =>
    obtain ⟨rfl, hb⟩ := hcut
    obtain ⟨wA, rfl⟩ : ∃ z : World, z = wc := ⟨_, rfl⟩
    have bx : Blk wA (w.heap.size) 30 #[.int .i64 sh, .int .i64 nx, .int .i64 fl, .int .i64 ac, .int .i64 fi, .int .i64 wa, .int .i64 li, .int .i64 p0, .int .i64 p1, .int .i64 p2, .int .i64 a, .int .i64 b, .int .i64 f, .int .i64 c, .int .i64 m, .slice A l.length ca, .int .i64 now, .int .i64 n] := bx.on hb
    have b3 : Blk wA (w1.heap.size) 23 #[.int .i64 x0, .int .i64 x1, .int .i64 x2, .int .i64 x3, .int .i64 x4, .int .i64 x5, .int .i64 x6] := b3.on hb
    have HB3 := Lib.hid ((HB2.out).trans (hb.mono HB2.out.size))
    have hz3 : w.heap.size ≤ wA.heap.size := HB3.out.size
    clear hb
    have q_bx0 : wA.cell? ⟨w.heap.size, 0, none⟩ = some (.int .i64 sh) := bx.cell 0
    have q_bx1 : wA.cell? ⟨w.heap.size, 1, none⟩ = some (.int .i64 nx) := bx.cell 1
    have q_bx2 : wA.cell? ⟨w.heap.size, 2, none⟩ = some (.int .i64 fl) := bx.cell 2
    have q_bx3 : wA.cell? ⟨w.heap.size, 3, none⟩ = some (.int .i64 ac) := bx.cell 3
    have q_bx4 : wA.cell? ⟨w.heap.size, 4, none⟩ = some (.int .i64 fi) := bx.cell 4
    have q_bx5 : wA.cell? ⟨w.heap.size, 5, none⟩ = some (.int .i64 wa) := bx.cell 5
    have q_bx6 : wA.cell? ⟨w.heap.size, 6, none⟩ = some (.int .i64 li) := bx.cell 6
    have q_bx7 : wA.cell? ⟨w.heap.size, 7, none⟩ = some (.int .i64 p0) := bx.cell 7
    have q_bx8 : wA.cell? ⟨w.heap.size, 8, none⟩ = some (.int .i64 p1) := bx.cell 8
    have q_bx9 : wA.cell? ⟨w.heap.size, 9, none⟩ = some (.int .i64 p2) := bx.cell 9
    have q_bx10 : wA.cell? ⟨w.heap.size, 10, none⟩ = some (.int .i64 a) := bx.cell 10
    have q_bx11 : wA.cell? ⟨w.heap.size, 11, none⟩ = some (.int .i64 b) := bx.cell 11
    have q_bx12 : wA.cell? ⟨w.heap.size, 12, none⟩ = some (.int .i64 f) := bx.cell 12
    have q_bx13 : wA.cell? ⟨w.heap.size, 13, none⟩ = some (.int .i64 c) := bx.cell 13
    have q_bx14 : wA.cell? ⟨w.heap.size, 14, none⟩ = some (.int .i64 m) := bx.cell 14
    have q_bx15 : wA.cell? ⟨w.heap.size, 15, none⟩ = some (.slice A l.length ca) := bx.cell 15
    have q_bx16 : wA.cell? ⟨w.heap.size, 16, none⟩ = some (.int .i64 now) := bx.cell 16
    have q_bx17 : wA.cell? ⟨w.heap.size, 17, none⟩ = some (.int .i64 n) := bx.cell 17
    have q_b30 : wA.cell? ⟨w1.heap.size, 0, none⟩ = some (.int .i64 x0) := b3.cell 0
    have q_b31 : wA.cell? ⟨w1.heap.size, 1, none⟩ = some (.int .i64 x1) := b3.cell 1
    have q_b32 : wA.cell? ⟨w1.heap.size, 2, none⟩ = some (.int .i64 x2) := b3.cell 2
    have q_b33 : wA.cell? ⟨w1.heap.size, 3, none⟩ = some (.int .i64 x3) := b3.cell 3
    have q_b34 : wA.cell? ⟨w1.heap.size, 4, none⟩ = some (.int .i64 x4) := b3.cell 4
    have q_b35 : wA.cell? ⟨w1.heap.size, 5, none⟩ = some (.int .i64 x5) := b3.cell 5
    have q_b36 : wA.cell? ⟨w1.heap.size, 6, none⟩ = some (.int .i64 x6) := b3.cell 6
    have l_bx : w.heap.size < wA.heap.size := bx.lt
    have l_b3 : w1.heap.size < wA.heap.size := b3.lt
    have f_b30 : wA.frozen? ⟨w1.heap.size, 0, none⟩ = false := b3.frozen 0
    have f_b31 : wA.frozen? ⟨w1.heap.size, 1, none⟩ = false := b3.frozen 1
    have f_b32 : wA.frozen? ⟨w1.heap.size, 2, none⟩ = false := b3.frozen 2
    have f_b33 : wA.frozen? ⟨w1.heap.size, 3, none⟩ = false := b3.frozen 3
    have f_b34 : wA.frozen? ⟨w1.heap.size, 4, none⟩ = false := b3.frozen 4
    have f_b35 : wA.frozen? ⟨w1.heap.size, 5, none⟩ = false := b3.frozen 5
    have f_b36 : wA.frozen? ⟨w1.heap.size, 6, none⟩ = false := b3.frozen 6
    go_wp2_with fail
    refine (Succeed_any sh nx fl ac fi wa li _).mono ?_
    rintro e w4 ⟨rfl, hb⟩
    clear q_bx0 q_bx1 q_bx2 q_bx3 q_bx4 q_bx5 q_bx6 q_bx7 q_bx8 q_bx9 q_bx10 q_bx11 q_bx12 q_bx13 q_bx14 q_bx15 q_bx16 q_bx17 q_b30 q_b31 q_b32 q_b33 q_b34 q_b35 q_b36 l_bx l_b3 f_b30 f_b31 f_b32 f_b33 f_b34 f_b35 f_b36
    have bx : Blk w4 (w.heap.size) 30 #[.int .i64 sh, .int .i64 nx, .int .i64 fl, .int .i64 ac, .int .i64 fi, .int .i64 wa, .int .i64 li, .int .i64 p0, .int .i64 p1, .int .i64 p2, .int .i64 a, .int .i64 b, .int .i64 f, .int .i64 c, .int .i64 m, .slice A l.length ca, .int .i64 now, .int .i64 n] := (bx).on hb
    have b3 : Blk w4 (w1.heap.size) 23 #[.int .i64 x0, .int .i64 x1, .int .i64 x2, .int .i64 x3, .int .i64 x4, .int .i64 x5, .int .i64 x6] := (b3).on hb
    have hbz := hb.size
    have HB4 := Lib.hid ((HB3.out).trans (hb.mono (by first | exact Nat.le_refl _ | omega | (simp; done) | (simp; omega))))
    have hz4 : w.heap.size ≤ w4.heap.size := HB4.out.size
    clear hb hbz
    generalize hR : sucS ⟨sh, nx, fl, ac, fi, wa, li⟩ = R
    obtain ⟨⟨y0, y1, y2, y3, y4, y5, y6⟩, E2⟩ := R
    have HR2 := Lib.hid hR
    clear hR
    simp only [MR, MS.cs]
    have q_bx0 : w4.cell? ⟨w.heap.size, 0, none⟩ = some (.int .i64 sh) := bx.cell 0
    have q_bx1 : w4.cell? ⟨w.heap.size, 1, none⟩ = some (.int .i64 nx) := bx.cell 1
    have q_bx2 : w4.cell? ⟨w.heap.size, 2, none⟩ = some (.int .i64 fl) := bx.cell 2
    have q_bx3 : w4.cell? ⟨w.heap.size, 3, none⟩ = some (.int .i64 ac) := bx.cell 3
    have q_bx4 : w4.cell? ⟨w.heap.size, 4, none⟩ = some (.int .i64 fi) := bx.cell 4
    have q_bx5 : w4.cell? ⟨w.heap.size, 5, none⟩ = some (.int .i64 wa) := bx.cell 5
    have q_bx6 : w4.cell? ⟨w.heap.size, 6, none⟩ = some (.int .i64 li) := bx.cell 6
    have q_bx7 : w4.cell? ⟨w.heap.size, 7, none⟩ = some (.int .i64 p0) := bx.cell 7
    have q_bx8 : w4.cell? ⟨w.heap.size, 8, none⟩ = some (.int .i64 p1) := bx.cell 8
    have q_bx9 : w4.cell? ⟨w.heap.size, 9, none⟩ = some (.int .i64 p2) := bx.cell 9
    have q_bx10 : w4.cell? ⟨w.heap.size, 10, none⟩ = some (.int .i64 a) := bx.cell 10
    have q_bx11 : w4.cell? ⟨w.heap.size, 11, none⟩ = some (.int .i64 b) := bx.cell 11
    have q_bx12 : w4.cell? ⟨w.heap.size, 12, none⟩ = some (.int .i64 f) := bx.cell 12
    have q_bx13 : w4.cell? ⟨w.heap.size, 13, none⟩ = some (.int .i64 c) := bx.cell 13
    have q_bx14 : w4.cell? ⟨w.heap.size, 14, none⟩ = some (.int .i64 m) := bx.cell 14
    have q_bx15 : w4.cell? ⟨w.heap.size, 15, none⟩ = some (.slice A l.length ca) := bx.cell 15
    have q_bx16 : w4.cell? ⟨w.heap.size, 16, none⟩ = some (.int .i64 now) := bx.cell 16
    have q_bx17 : w4.cell? ⟨w.heap.size, 17, none⟩ = some (.int .i64 n) := bx.cell 17
    have q_b30 : w4.cell? ⟨w1.heap.size, 0, none⟩ = some (.int .i64 x0) := b3.cell 0
    have q_b31 : w4.cell? ⟨w1.heap.size, 1, none⟩ = some (.int .i64 x1) := b3.cell 1
    have q_b32 : w4.cell? ⟨w1.heap.size, 2, none⟩ = some (.int .i64 x2) := b3.cell 2
    have q_b33 : w4.cell? ⟨w1.heap.size, 3, none⟩ = some (.int .i64 x3) := b3.cell 3
    have q_b34 : w4.cell? ⟨w1.heap.size, 4, none⟩ = some (.int .i64 x4) := b3.cell 4
    have q_b35 : w4.cell? ⟨w1.heap.size, 5, none⟩ = some (.int .i64 x5) := b3.cell 5
    have q_b36 : w4.cell? ⟨w1.heap.size, 6, none⟩ = some (.int .i64 x6) := b3.cell 6
    have l_bx : w.heap.size < w4.heap.size := bx.lt
    have l_b3 : w1.heap.size < w4.heap.size := b3.lt
    have f_b30 : w4.frozen? ⟨w1.heap.size, 0, none⟩ = false := b3.frozen 0
    have f_b31 : w4.frozen? ⟨w1.heap.size, 1, none⟩ = false := b3.frozen 1
    have f_b32 : w4.frozen? ⟨w1.heap.size, 2, none⟩ = false := b3.frozen 2
    have f_b33 : w4.frozen? ⟨w1.heap.size, 3, none⟩ = false := b3.frozen 3
    have f_b34 : w4.frozen? ⟨w1.heap.size, 4, none⟩ = false := b3.frozen 4
    have f_b35 : w4.frozen? ⟨w1.heap.size, 5, none⟩ = false := b3.frozen 5
    have f_b36 : w4.frozen? ⟨w1.heap.size, 6, none⟩ = false := b3.frozen 6
    go_upto_region 5 with fail
    clear q_bx0 q_bx1 q_bx2 q_bx3 q_bx4 q_bx5 q_bx6 q_bx7 q_bx8 q_bx9 q_bx10 q_bx11 q_bx12 q_bx13 q_bx14 q_bx15 q_bx16 q_bx17 q_b30 q_b31 q_b32 q_b33 q_b34 q_b35 q_b36 l_bx l_b3 f_b30 f_b31 f_b32 f_b33 f_b34 f_b35 f_b36
    have bx : Blk ((((((((w4).setCell ⟨w1.heap.size, 0, none⟩ (.int .i64 y0)).setCell ⟨w1.heap.size, 1, none⟩ (.int .i64 y1)).setCell ⟨w1.heap.size, 2, none⟩ (.int .i64 y2)).setCell ⟨w1.heap.size, 3, none⟩ (.int .i64 y3)).setCell ⟨w1.heap.size, 4, none⟩ (.int .i64 y4)).setCell ⟨w1.heap.size, 5, none⟩ (.int .i64 y5)).setCell ⟨w1.heap.size, 6, none⟩ (.int .i64 y6)) (w.heap.size) 30 #[.int .i64 sh, .int .i64 nx, .int .i64 fl, .int .i64 ac, .int .i64 fi, .int .i64 wa, .int .i64 li, .int .i64 p0, .int .i64 p1, .int .i64 p2, .int .i64 a, .int .i64 b, .int .i64 f, .int .i64 c, .int .i64 m, .slice A l.length ca, .int .i64 now, .int .i64 n] := Blk.far7 (bx) (g' := w1.heap.size) (by omega) _ _ _ _ _ _ _
    have b3 : Blk ((((((((w4).setCell ⟨w1.heap.size, 0, none⟩ (.int .i64 y0)).setCell ⟨w1.heap.size, 1, none⟩ (.int .i64 y1)).setCell ⟨w1.heap.size, 2, none⟩ (.int .i64 y2)).setCell ⟨w1.heap.size, 3, none⟩ (.int .i64 y3)).setCell ⟨w1.heap.size, 4, none⟩ (.int .i64 y4)).setCell ⟨w1.heap.size, 5, none⟩ (.int .i64 y5)).setCell ⟨w1.heap.size, 6, none⟩ (.int .i64 y6)) (w1.heap.size) 23 #[.int .i64 y0, .int .i64 y1, .int .i64 y2, .int .i64 y3, .int .i64 y4, .int .i64 y5, .int .i64 y6] := Blk.set7 (b3) _ _ _ _ _ _ _
    have HB5 := Lib.hid (show Below w.heap.size w ((((((((w4).setCell ⟨w1.heap.size, 0, none⟩ (.int .i64 y0)).setCell ⟨w1.heap.size, 1, none⟩ (.int .i64 y1)).setCell ⟨w1.heap.size, 2, none⟩ (.int .i64 y2)).setCell ⟨w1.heap.size, 3, none⟩ (.int .i64 y3)).setCell ⟨w1.heap.size, 4, none⟩ (.int .i64 y4)).setCell ⟨w1.heap.size, 5, none⟩ (.int .i64 y5)).setCell ⟨w1.heap.size, 6, none⟩ (.int .i64 y6)) from below_set7 (HB4.out) (H := w1.heap.size) (by first | exact Nat.le_refl _ | omega) _ _ _ _ _ _ _)
    generalize (((((((w4).setCell ⟨w1.heap.size, 0, none⟩ (.int .i64 y0)).setCell ⟨w1.heap.size, 1, none⟩ (.int .i64 y1)).setCell ⟨w1.heap.size, 2, none⟩ (.int .i64 y2)).setCell ⟨w1.heap.size, 3, none⟩ (.int .i64 y3)).setCell ⟨w1.heap.size, 4, none⟩ (.int .i64 y4)).setCell ⟨w1.heap.size, 5, none⟩ (.int .i64 y5)).setCell ⟨w1.heap.size, 6, none⟩ (.int .i64 y6) = w5 at *
    have hz5 : w.heap.size ≤ w5.heap.size := HB5.out.size
    go_cut [66] from 48 to 66 (fun v wx => v = .bool false ∧ Below w5.heap.size w5 wx)
    case first =>
      by_cases he : E2 = 0
      · obtain ⟨hme, hv, hs0⟩ := suc_nx (s := ⟨sh, nx, fl, ac, fi, wa, li⟩) (by rw [HR2.out]; exact he)
        rw [HR2.out] at hme hv
        obtain ⟨r1, r2, r3, r4⟩ := nx_bd hs0
        simp only at r1 r2 r3 r4 hv hme
        have g1 : (y1 != nx + fl) = false := by rw [hv]; exact bne_self_eq_false _
        subst he
        clear hs0 hv
        have q_bx0 : w5.cell? ⟨w.heap.size, 0, none⟩ = some (.int .i64 sh) := bx.cell 0
        have q_bx1 : w5.cell? ⟨w.heap.size, 1, none⟩ = some (.int .i64 nx) := bx.cell 1
        have q_bx2 : w5.cell? ⟨w.heap.size, 2, none⟩ = some (.int .i64 fl) := bx.cell 2
        have q_bx3 : w5.cell? ⟨w.heap.size, 3, none⟩ = some (.int .i64 ac) := bx.cell 3
        have q_bx4 : w5.cell? ⟨w.heap.size, 4, none⟩ = some (.int .i64 fi) := bx.cell 4
        have q_bx5 : w5.cell? ⟨w.heap.size, 5, none⟩ = some (.int .i64 wa) := bx.cell 5
        have q_bx6 : w5.cell? ⟨w.heap.size, 6, none⟩ = some (.int .i64 li) := bx.cell 6
        have q_bx7 : w5.cell? ⟨w.heap.size, 7, none⟩ = some (.int .i64 p0) := bx.cell 7
        have q_bx8 : w5.cell? ⟨w.heap.size, 8, none⟩ = some (.int .i64 p1) := bx.cell 8
        have q_bx9 : w5.cell? ⟨w.heap.size, 9, none⟩ = some (.int .i64 p2) := bx.cell 9
        have q_bx10 : w5.cell? ⟨w.heap.size, 10, none⟩ = some (.int .i64 a) := bx.cell 10
        have q_bx11 : w5.cell? ⟨w.heap.size, 11, none⟩ = some (.int .i64 b) := bx.cell 11
        have q_bx12 : w5.cell? ⟨w.heap.size, 12, none⟩ = some (.int .i64 f) := bx.cell 12
        have q_bx13 : w5.cell? ⟨w.heap.size, 13, none⟩ = some (.int .i64 c) := bx.cell 13
        have q_bx14 : w5.cell? ⟨w.heap.size, 14, none⟩ = some (.int .i64 m) := bx.cell 14
        have q_bx15 : w5.cell? ⟨w.heap.size, 15, none⟩ = some (.slice A l.length ca) := bx.cell 15
        have q_bx16 : w5.cell? ⟨w.heap.size, 16, none⟩ = some (.int .i64 now) := bx.cell 16
        have q_bx17 : w5.cell? ⟨w.heap.size, 17, none⟩ = some (.int .i64 n) := bx.cell 17
        have q_b30 : w5.cell? ⟨w1.heap.size, 0, none⟩ = some (.int .i64 y0) := b3.cell 0
        have q_b31 : w5.cell? ⟨w1.heap.size, 1, none⟩ = some (.int .i64 y1) := b3.cell 1
        have q_b32 : w5.cell? ⟨w1.heap.size, 2, none⟩ = some (.int .i64 y2) := b3.cell 2
        have q_b33 : w5.cell? ⟨w1.heap.size, 3, none⟩ = some (.int .i64 y3) := b3.cell 3
        have q_b34 : w5.cell? ⟨w1.heap.size, 4, none⟩ = some (.int .i64 y4) := b3.cell 4
        have q_b35 : w5.cell? ⟨w1.heap.size, 5, none⟩ = some (.int .i64 y5) := b3.cell 5
        have q_b36 : w5.cell? ⟨w1.heap.size, 6, none⟩ = some (.int .i64 y6) := b3.cell 6
        have l_bx : w.heap.size < w5.heap.size := bx.lt
        have l_b3 : w1.heap.size < w5.heap.size := b3.lt
        go_wp2_with fail
        refine (MCheck_lit y0 y1 y2 y3 y4 y5 y6 _).mono ?_
        rintro e wq ⟨rfl, hb⟩
        rw [hme]
        clear q_bx0 q_bx1 q_bx2 q_bx3 q_bx4 q_bx5 q_bx6 q_bx7 q_bx8 q_bx9 q_bx10 q_bx11 q_bx12 q_bx13 q_bx14 q_bx15 q_bx16 q_bx17 q_b30 q_b31 q_b32 q_b33 q_b34 q_b35 q_b36 l_bx l_b3
        have bx : Blk wq (w.heap.size) 30 #[.int .i64 sh, .int .i64 nx, .int .i64 fl, .int .i64 ac, .int .i64 fi, .int .i64 wa, .int .i64 li, .int .i64 p0, .int .i64 p1, .int .i64 p2, .int .i64 a, .int .i64 b, .int .i64 f, .int .i64 c, .int .i64 m, .slice A l.length ca, .int .i64 now, .int .i64 n] := bx.on hb
        have b3 : Blk wq (w1.heap.size) 23 #[.int .i64 y0, .int .i64 y1, .int .i64 y2, .int .i64 y3, .int .i64 y4, .int .i64 y5, .int .i64 y6] := b3.on hb
        have HQ := Lib.hid hb
        clear hb
        have q_bx0 : wq.cell? ⟨w.heap.size, 0, none⟩ = some (.int .i64 sh) := bx.cell 0
        have q_bx1 : wq.cell? ⟨w.heap.size, 1, none⟩ = some (.int .i64 nx) := bx.cell 1
        have q_bx2 : wq.cell? ⟨w.heap.size, 2, none⟩ = some (.int .i64 fl) := bx.cell 2
        have q_bx3 : wq.cell? ⟨w.heap.size, 3, none⟩ = some (.int .i64 ac) := bx.cell 3
        have q_bx4 : wq.cell? ⟨w.heap.size, 4, none⟩ = some (.int .i64 fi) := bx.cell 4
        have q_bx5 : wq.cell? ⟨w.heap.size, 5, none⟩ = some (.int .i64 wa) := bx.cell 5
        have q_bx6 : wq.cell? ⟨w.heap.size, 6, none⟩ = some (.int .i64 li) := bx.cell 6
        have q_bx7 : wq.cell? ⟨w.heap.size, 7, none⟩ = some (.int .i64 p0) := bx.cell 7
        have q_bx8 : wq.cell? ⟨w.heap.size, 8, none⟩ = some (.int .i64 p1) := bx.cell 8
        have q_bx9 : wq.cell? ⟨w.heap.size, 9, none⟩ = some (.int .i64 p2) := bx.cell 9
        have q_bx10 : wq.cell? ⟨w.heap.size, 10, none⟩ = some (.int .i64 a) := bx.cell 10
        have q_bx11 : wq.cell? ⟨w.heap.size, 11, none⟩ = some (.int .i64 b) := bx.cell 11
        have q_bx12 : wq.cell? ⟨w.heap.size, 12, none⟩ = some (.int .i64 f) := bx.cell 12
        have q_bx13 : wq.cell? ⟨w.heap.size, 13, none⟩ = some (.int .i64 c) := bx.cell 13
        have q_bx14 : wq.cell? ⟨w.heap.size, 14, none⟩ = some (.int .i64 m) := bx.cell 14
        have q_bx15 : wq.cell? ⟨w.heap.size, 15, none⟩ = some (.slice A l.length ca) := bx.cell 15
        have q_bx16 : wq.cell? ⟨w.heap.size, 16, none⟩ = some (.int .i64 now) := bx.cell 16
        have q_bx17 : wq.cell? ⟨w.heap.size, 17, none⟩ = some (.int .i64 n) := bx.cell 17
        have q_b30 : wq.cell? ⟨w1.heap.size, 0, none⟩ = some (.int .i64 y0) := b3.cell 0
        have q_b31 : wq.cell? ⟨w1.heap.size, 1, none⟩ = some (.int .i64 y1) := b3.cell 1
        have q_b32 : wq.cell? ⟨w1.heap.size, 2, none⟩ = some (.int .i64 y2) := b3.cell 2
        have q_b33 : wq.cell? ⟨w1.heap.size, 3, none⟩ = some (.int .i64 y3) := b3.cell 3
        have q_b34 : wq.cell? ⟨w1.heap.size, 4, none⟩ = some (.int .i64 y4) := b3.cell 4
        have q_b35 : wq.cell? ⟨w1.heap.size, 5, none⟩ = some (.int .i64 y5) := b3.cell 5
        have q_b36 : wq.cell? ⟨w1.heap.size, 6, none⟩ = some (.int .i64 y6) := b3.cell 6
        have l_bx : w.heap.size < wq.heap.size := bx.lt
        have l_b3 : w1.heap.size < wq.heap.size := b3.lt
        go_wp2_with fail
        go_meet
        exact ⟨rfl, HQ.out⟩
      · have hne : (E2 == 0) = false := beq_eq_false_iff_ne.2 he
        have q_bx0 : w5.cell? ⟨w.heap.size, 0, none⟩ = some (.int .i64 sh) := bx.cell 0
        have q_bx1 : w5.cell? ⟨w.heap.size, 1, none⟩ = some (.int .i64 nx) := bx.cell 1
        have q_bx2 : w5.cell? ⟨w.heap.size, 2, none⟩ = some (.int .i64 fl) := bx.cell 2
        have q_bx3 : w5.cell? ⟨w.heap.size, 3, none⟩ = some (.int .i64 ac) := bx.cell 3
        have q_bx4 : w5.cell? ⟨w.heap.size, 4, none⟩ = some (.int .i64 fi) := bx.cell 4
        have q_bx5 : w5.cell? ⟨w.heap.size, 5, none⟩ = some (.int .i64 wa) := bx.cell 5
        have q_bx6 : w5.cell? ⟨w.heap.size, 6, none⟩ = some (.int .i64 li) := bx.cell 6
        have q_bx7 : w5.cell? ⟨w.heap.size, 7, none⟩ = some (.int .i64 p0) := bx.cell 7
        have q_bx8 : w5.cell? ⟨w.heap.size, 8, none⟩ = some (.int .i64 p1) := bx.cell 8
        have q_bx9 : w5.cell? ⟨w.heap.size, 9, none⟩ = some (.int .i64 p2) := bx.cell 9
        have q_bx10 : w5.cell? ⟨w.heap.size, 10, none⟩ = some (.int .i64 a) := bx.cell 10
        have q_bx11 : w5.cell? ⟨w.heap.size, 11, none⟩ = some (.int .i64 b) := bx.cell 11
        have q_bx12 : w5.cell? ⟨w.heap.size, 12, none⟩ = some (.int .i64 f) := bx.cell 12
        have q_bx13 : w5.cell? ⟨w.heap.size, 13, none⟩ = some (.int .i64 c) := bx.cell 13
        have q_bx14 : w5.cell? ⟨w.heap.size, 14, none⟩ = some (.int .i64 m) := bx.cell 14
        have q_bx15 : w5.cell? ⟨w.heap.size, 15, none⟩ = some (.slice A l.length ca) := bx.cell 15
        have q_bx16 : w5.cell? ⟨w.heap.size, 16, none⟩ = some (.int .i64 now) := bx.cell 16
        have q_bx17 : w5.cell? ⟨w.heap.size, 17, none⟩ = some (.int .i64 n) := bx.cell 17
        have q_b30 : w5.cell? ⟨w1.heap.size, 0, none⟩ = some (.int .i64 y0) := b3.cell 0
        have q_b31 : w5.cell? ⟨w1.heap.size, 1, none⟩ = some (.int .i64 y1) := b3.cell 1
        have q_b32 : w5.cell? ⟨w1.heap.size, 2, none⟩ = some (.int .i64 y2) := b3.cell 2
        have q_b33 : w5.cell? ⟨w1.heap.size, 3, none⟩ = some (.int .i64 y3) := b3.cell 3
        have q_b34 : w5.cell? ⟨w1.heap.size, 4, none⟩ = some (.int .i64 y4) := b3.cell 4
        have q_b35 : w5.cell? ⟨w1.heap.size, 5, none⟩ = some (.int .i64 y5) := b3.cell 5
        have q_b36 : w5.cell? ⟨w1.heap.size, 6, none⟩ = some (.int .i64 y6) := b3.cell 6
        have l_bx : w.heap.size < w5.heap.size := bx.lt
        have l_b3 : w1.heap.size < w5.heap.size := b3.lt
        go_wp2_with fail
        go_meet
        exact ⟨rfl, Below.refl _ _⟩
    case rest =>
      obtain ⟨rfl, hb⟩ := hcut
      obtain ⟨wB, rfl⟩ : ∃ z : World, z = wc := ⟨_, rfl⟩
      have bx : Blk wB (w.heap.size) 30 #[.int .i64 sh, .int .i64 nx, .int .i64 fl, .int .i64 ac, .int .i64 fi, .int .i64 wa, .int .i64 li, .int .i64 p0, .int .i64 p1, .int .i64 p2, .int .i64 a, .int .i64 b, .int .i64 f, .int .i64 c, .int .i64 m, .slice A l.length ca, .int .i64 now, .int .i64 n] := bx.on hb
      have b3 : Blk wB (w1.heap.size) 23 #[.int .i64 y0, .int .i64 y1, .int .i64 y2, .int .i64 y3, .int .i64 y4, .int .i64 y5, .int .i64 y6] := b3.on hb
      have HB6 := Lib.hid ((HB5.out).trans (hb.mono HB5.out.size))
      have hz6 : w.heap.size ≤ wB.heap.size := HB6.out.size
      clear hb
      have q_bx0 : wB.cell? ⟨w.heap.size, 0, none⟩ = some (.int .i64 sh) := bx.cell 0
      have q_bx1 : wB.cell? ⟨w.heap.size, 1, none⟩ = some (.int .i64 nx) := bx.cell 1
      have q_bx2 : wB.cell? ⟨w.heap.size, 2, none⟩ = some (.int .i64 fl) := bx.cell 2
      have q_bx3 : wB.cell? ⟨w.heap.size, 3, none⟩ = some (.int .i64 ac) := bx.cell 3
      have q_bx4 : wB.cell? ⟨w.heap.size, 4, none⟩ = some (.int .i64 fi) := bx.cell 4
      have q_bx5 : wB.cell? ⟨w.heap.size, 5, none⟩ = some (.int .i64 wa) := bx.cell 5
      have q_bx6 : wB.cell? ⟨w.heap.size, 6, none⟩ = some (.int .i64 li) := bx.cell 6
      have q_bx7 : wB.cell? ⟨w.heap.size, 7, none⟩ = some (.int .i64 p0) := bx.cell 7
      have q_bx8 : wB.cell? ⟨w.heap.size, 8, none⟩ = some (.int .i64 p1) := bx.cell 8
      have q_bx9 : wB.cell? ⟨w.heap.size, 9, none⟩ = some (.int .i64 p2) := bx.cell 9
      have q_bx10 : wB.cell? ⟨w.heap.size, 10, none⟩ = some (.int .i64 a) := bx.cell 10
      have q_bx11 : wB.cell? ⟨w.heap.size, 11, none⟩ = some (.int .i64 b) := bx.cell 11
      have q_bx12 : wB.cell? ⟨w.heap.size, 12, none⟩ = some (.int .i64 f) := bx.cell 12
      have q_bx13 : wB.cell? ⟨w.heap.size, 13, none⟩ = some (.int .i64 c) := bx.cell 13
      have q_bx14 : wB.cell? ⟨w.heap.size, 14, none⟩ = some (.int .i64 m) := bx.cell 14
      have q_bx15 : wB.cell? ⟨w.heap.size, 15, none⟩ = some (.slice A l.length ca) := bx.cell 15
      have q_bx16 : wB.cell? ⟨w.heap.size, 16, none⟩ = some (.int .i64 now) := bx.cell 16
      have q_bx17 : wB.cell? ⟨w.heap.size, 17, none⟩ = some (.int .i64 n) := bx.cell 17
      have q_b30 : wB.cell? ⟨w1.heap.size, 0, none⟩ = some (.int .i64 y0) := b3.cell 0
      have q_b31 : wB.cell? ⟨w1.heap.size, 1, none⟩ = some (.int .i64 y1) := b3.cell 1
      have q_b32 : wB.cell? ⟨w1.heap.size, 2, none⟩ = some (.int .i64 y2) := b3.cell 2
      have q_b33 : wB.cell? ⟨w1.heap.size, 3, none⟩ = some (.int .i64 y3) := b3.cell 3
      have q_b34 : wB.cell? ⟨w1.heap.size, 4, none⟩ = some (.int .i64 y4) := b3.cell 4
      have q_b35 : wB.cell? ⟨w1.heap.size, 5, none⟩ = some (.int .i64 y5) := b3.cell 5
      have q_b36 : wB.cell? ⟨w1.heap.size, 6, none⟩ = some (.int .i64 y6) := b3.cell 6
      have l_bx : w.heap.size < wB.heap.size := bx.lt
      have l_b3 : w1.heap.size < wB.heap.size := b3.lt
      have f_b30 : wB.frozen? ⟨w1.heap.size, 0, none⟩ = false := b3.frozen 0
      have f_b31 : wB.frozen? ⟨w1.heap.size, 1, none⟩ = false := b3.frozen 1
      have f_b32 : wB.frozen? ⟨w1.heap.size, 2, none⟩ = false := b3.frozen 2
      have f_b33 : wB.frozen? ⟨w1.heap.size, 3, none⟩ = false := b3.frozen 3
      have f_b34 : wB.frozen? ⟨w1.heap.size, 4, none⟩ = false := b3.frozen 4
      have f_b35 : wB.frozen? ⟨w1.heap.size, 5, none⟩ = false := b3.frozen 5
      have f_b36 : wB.frozen? ⟨w1.heap.size, 6, none⟩ = false := b3.frozen 6
      go_wp2_with fail
      refine (Partial_any sh nx fl ac fi wa li n _).mono ?_
      rintro e w7 ⟨rfl, hb⟩
      clear q_bx0 q_bx1 q_bx2 q_bx3 q_bx4 q_bx5 q_bx6 q_bx7 q_bx8 q_bx9 q_bx10 q_bx11 q_bx12 q_bx13 q_bx14 q_bx15 q_bx16 q_bx17 q_b30 q_b31 q_b32 q_b33 q_b34 q_b35 q_b36 l_bx l_b3 f_b30 f_b31 f_b32 f_b33 f_b34 f_b35 f_b36
      have bx : Blk w7 (w.heap.size) 30 #[.int .i64 sh, .int .i64 nx, .int .i64 fl, .int .i64 ac, .int .i64 fi, .int .i64 wa, .int .i64 li, .int .i64 p0, .int .i64 p1, .int .i64 p2, .int .i64 a, .int .i64 b, .int .i64 f, .int .i64 c, .int .i64 m, .slice A l.length ca, .int .i64 now, .int .i64 n] := (bx).on hb
      have b3 : Blk w7 (w1.heap.size) 23 #[.int .i64 y0, .int .i64 y1, .int .i64 y2, .int .i64 y3, .int .i64 y4, .int .i64 y5, .int .i64 y6] := (b3).on hb
      have hbz := hb.size
      have HB7 := Lib.hid ((HB6.out).trans (hb.mono (by first | exact Nat.le_refl _ | omega | (simp; done) | (simp; omega))))
      have hz7 : w.heap.size ≤ w7.heap.size := HB7.out.size
      clear hb hbz
      generalize hR : parS ⟨sh, nx, fl, ac, fi, wa, li⟩ n = R
      obtain ⟨⟨z0, z1, z2, z3, z4, z5, z6⟩, E3⟩ := R
      have HR3 := Lib.hid hR
      clear hR
      simp only [MR, MS.cs]
      have q_bx0 : w7.cell? ⟨w.heap.size, 0, none⟩ = some (.int .i64 sh) := bx.cell 0
      have q_bx1 : w7.cell? ⟨w.heap.size, 1, none⟩ = some (.int .i64 nx) := bx.cell 1
      have q_bx2 : w7.cell? ⟨w.heap.size, 2, none⟩ = some (.int .i64 fl) := bx.cell 2
      have q_bx3 : w7.cell? ⟨w.heap.size, 3, none⟩ = some (.int .i64 ac) := bx.cell 3
      have q_bx4 : w7.cell? ⟨w.heap.size, 4, none⟩ = some (.int .i64 fi) := bx.cell 4
      have q_bx5 : w7.cell? ⟨w.heap.size, 5, none⟩ = some (.int .i64 wa) := bx.cell 5
      have q_bx6 : w7.cell? ⟨w.heap.size, 6, none⟩ = some (.int .i64 li) := bx.cell 6
      have q_bx7 : w7.cell? ⟨w.heap.size, 7, none⟩ = some (.int .i64 p0) := bx.cell 7
      have q_bx8 : w7.cell? ⟨w.heap.size, 8, none⟩ = some (.int .i64 p1) := bx.cell 8
      have q_bx9 : w7.cell? ⟨w.heap.size, 9, none⟩ = some (.int .i64 p2) := bx.cell 9
      have q_bx10 : w7.cell? ⟨w.heap.size, 10, none⟩ = some (.int .i64 a) := bx.cell 10
      have q_bx11 : w7.cell? ⟨w.heap.size, 11, none⟩ = some (.int .i64 b) := bx.cell 11
      have q_bx12 : w7.cell? ⟨w.heap.size, 12, none⟩ = some (.int .i64 f) := bx.cell 12
      have q_bx13 : w7.cell? ⟨w.heap.size, 13, none⟩ = some (.int .i64 c) := bx.cell 13
      have q_bx14 : w7.cell? ⟨w.heap.size, 14, none⟩ = some (.int .i64 m) := bx.cell 14
      have q_bx15 : w7.cell? ⟨w.heap.size, 15, none⟩ = some (.slice A l.length ca) := bx.cell 15
      have q_bx16 : w7.cell? ⟨w.heap.size, 16, none⟩ = some (.int .i64 now) := bx.cell 16
      have q_bx17 : w7.cell? ⟨w.heap.size, 17, none⟩ = some (.int .i64 n) := bx.cell 17
      have q_b30 : w7.cell? ⟨w1.heap.size, 0, none⟩ = some (.int .i64 y0) := b3.cell 0
      have q_b31 : w7.cell? ⟨w1.heap.size, 1, none⟩ = some (.int .i64 y1) := b3.cell 1
      have q_b32 : w7.cell? ⟨w1.heap.size, 2, none⟩ = some (.int .i64 y2) := b3.cell 2
      have q_b33 : w7.cell? ⟨w1.heap.size, 3, none⟩ = some (.int .i64 y3) := b3.cell 3
      have q_b34 : w7.cell? ⟨w1.heap.size, 4, none⟩ = some (.int .i64 y4) := b3.cell 4
      have q_b35 : w7.cell? ⟨w1.heap.size, 5, none⟩ = some (.int .i64 y5) := b3.cell 5
      have q_b36 : w7.cell? ⟨w1.heap.size, 6, none⟩ = some (.int .i64 y6) := b3.cell 6
      have l_bx : w.heap.size < w7.heap.size := bx.lt
      have l_b3 : w1.heap.size < w7.heap.size := b3.lt
      have f_b30 : w7.frozen? ⟨w1.heap.size, 0, none⟩ = false := b3.frozen 0
      have f_b31 : w7.frozen? ⟨w1.heap.size, 1, none⟩ = false := b3.frozen 1
      have f_b32 : w7.frozen? ⟨w1.heap.size, 2, none⟩ = false := b3.frozen 2
      have f_b33 : w7.frozen? ⟨w1.heap.size, 3, none⟩ = false := b3.frozen 3
      have f_b34 : w7.frozen? ⟨w1.heap.size, 4, none⟩ = false := b3.frozen 4
      have f_b35 : w7.frozen? ⟨w1.heap.size, 5, none⟩ = false := b3.frozen 5
      have f_b36 : w7.frozen? ⟨w1.heap.size, 6, none⟩ = false := b3.frozen 6
      go_upto_region 8 with fail
      clear q_bx0 q_bx1 q_bx2 q_bx3 q_bx4 q_bx5 q_bx6 q_bx7 q_bx8 q_bx9 q_bx10 q_bx11 q_bx12 q_bx13 q_bx14 q_bx15 q_bx16 q_bx17 q_b30 q_b31 q_b32 q_b33 q_b34 q_b35 q_b36 l_bx l_b3 f_b30 f_b31 f_b32 f_b33 f_b34 f_b35 f_b36
      have bx : Blk ((((((((w7).setCell ⟨w1.heap.size, 0, none⟩ (.int .i64 z0)).setCell ⟨w1.heap.size, 1, none⟩ (.int .i64 z1)).setCell ⟨w1.heap.size, 2, none⟩ (.int .i64 z2)).setCell ⟨w1.heap.size, 3, none⟩ (.int .i64 z3)).setCell ⟨w1.heap.size, 4, none⟩ (.int .i64 z4)).setCell ⟨w1.heap.size, 5, none⟩ (.int .i64 z5)).setCell ⟨w1.heap.size, 6, none⟩ (.int .i64 z6)) (w.heap.size) 30 #[.int .i64 sh, .int .i64 nx, .int .i64 fl, .int .i64 ac, .int .i64 fi, .int .i64 wa, .int .i64 li, .int .i64 p0, .int .i64 p1, .int .i64 p2, .int .i64 a, .int .i64 b, .int .i64 f, .int .i64 c, .int .i64 m, .slice A l.length ca, .int .i64 now, .int .i64 n] := Blk.far7 (bx) (g' := w1.heap.size) (by omega) _ _ _ _ _ _ _
      have b3 : Blk ((((((((w7).setCell ⟨w1.heap.size, 0, none⟩ (.int .i64 z0)).setCell ⟨w1.heap.size, 1, none⟩ (.int .i64 z1)).setCell ⟨w1.heap.size, 2, none⟩ (.int .i64 z2)).setCell ⟨w1.heap.size, 3, none⟩ (.int .i64 z3)).setCell ⟨w1.heap.size, 4, none⟩ (.int .i64 z4)).setCell ⟨w1.heap.size, 5, none⟩ (.int .i64 z5)).setCell ⟨w1.heap.size, 6, none⟩ (.int .i64 z6)) (w1.heap.size) 23 #[.int .i64 z0, .int .i64 z1, .int .i64 z2, .int .i64 z3, .int .i64 z4, .int .i64 z5, .int .i64 z6] := Blk.set7 (b3) _ _ _ _ _ _ _
      have HB8 := Lib.hid (show Below w.heap.size w ((((((((w7).setCell ⟨w1.heap.size, 0, none⟩ (.int .i64 z0)).setCell ⟨w1.heap.size, 1, none⟩ (.int .i64 z1)).setCell ⟨w1.heap.size, 2, none⟩ (.int .i64 z2)).setCell ⟨w1.heap.size, 3, none⟩ (.int .i64 z3)).setCell ⟨w1.heap.size, 4, none⟩ (.int .i64 z4)).setCell ⟨w1.heap.size, 5, none⟩ (.int .i64 z5)).setCell ⟨w1.heap.size, 6, none⟩ (.int .i64 z6)) from below_set7 (HB7.out) (H := w1.heap.size) (by first | exact Nat.le_refl _ | omega) _ _ _ _ _ _ _)
      generalize (((((((w7).setCell ⟨w1.heap.size, 0, none⟩ (.int .i64 z0)).setCell ⟨w1.heap.size, 1, none⟩ (.int .i64 z1)).setCell ⟨w1.heap.size, 2, none⟩ (.int .i64 z2)).setCell ⟨w1.heap.size, 3, none⟩ (.int .i64 z3)).setCell ⟨w1.heap.size, 4, none⟩ (.int .i64 z4)).setCell ⟨w1.heap.size, 5, none⟩ (.int .i64 z5)).setCell ⟨w1.heap.size, 6, none⟩ (.int .i64 z6) = w8 at *
      have hz8 : w.heap.size ≤ w8.heap.size := HB8.out.size
      go_cut [92] from 75 to 92 (fun v wx => v = .bool false ∧ Below w8.heap.size w8 wx)
      case first =>
        by_cases he : E3 = 0
        · obtain ⟨hme, hv, hs0, hq1, hq2, -⟩ := par_nx (s := ⟨sh, nx, fl, ac, fi, wa, li⟩) (m := n) (by rw [HR3.out]; exact he)
          rw [HR3.out] at hme hv
          obtain ⟨r1, r2, r3, r4⟩ := nx_bd hs0
          simp only at r1 r2 r3 r4 hv hme hq1 hq2
          have g1 : (z1 != nx + n) = false := by rw [hv]; exact bne_self_eq_false _
          subst he
          clear hs0 hv
          have q_bx0 : w8.cell? ⟨w.heap.size, 0, none⟩ = some (.int .i64 sh) := bx.cell 0
          have q_bx1 : w8.cell? ⟨w.heap.size, 1, none⟩ = some (.int .i64 nx) := bx.cell 1
          have q_bx2 : w8.cell? ⟨w.heap.size, 2, none⟩ = some (.int .i64 fl) := bx.cell 2
          have q_bx3 : w8.cell? ⟨w.heap.size, 3, none⟩ = some (.int .i64 ac) := bx.cell 3
          have q_bx4 : w8.cell? ⟨w.heap.size, 4, none⟩ = some (.int .i64 fi) := bx.cell 4
          have q_bx5 : w8.cell? ⟨w.heap.size, 5, none⟩ = some (.int .i64 wa) := bx.cell 5
          have q_bx6 : w8.cell? ⟨w.heap.size, 6, none⟩ = some (.int .i64 li) := bx.cell 6
          have q_bx7 : w8.cell? ⟨w.heap.size, 7, none⟩ = some (.int .i64 p0) := bx.cell 7
          have q_bx8 : w8.cell? ⟨w.heap.size, 8, none⟩ = some (.int .i64 p1) := bx.cell 8
          have q_bx9 : w8.cell? ⟨w.heap.size, 9, none⟩ = some (.int .i64 p2) := bx.cell 9
          have q_bx10 : w8.cell? ⟨w.heap.size, 10, none⟩ = some (.int .i64 a) := bx.cell 10
          have q_bx11 : w8.cell? ⟨w.heap.size, 11, none⟩ = some (.int .i64 b) := bx.cell 11
          have q_bx12 : w8.cell? ⟨w.heap.size, 12, none⟩ = some (.int .i64 f) := bx.cell 12
          have q_bx13 : w8.cell? ⟨w.heap.size, 13, none⟩ = some (.int .i64 c) := bx.cell 13
          have q_bx14 : w8.cell? ⟨w.heap.size, 14, none⟩ = some (.int .i64 m) := bx.cell 14
          have q_bx15 : w8.cell? ⟨w.heap.size, 15, none⟩ = some (.slice A l.length ca) := bx.cell 15
          have q_bx16 : w8.cell? ⟨w.heap.size, 16, none⟩ = some (.int .i64 now) := bx.cell 16
          have q_bx17 : w8.cell? ⟨w.heap.size, 17, none⟩ = some (.int .i64 n) := bx.cell 17
          have q_b30 : w8.cell? ⟨w1.heap.size, 0, none⟩ = some (.int .i64 z0) := b3.cell 0
          have q_b31 : w8.cell? ⟨w1.heap.size, 1, none⟩ = some (.int .i64 z1) := b3.cell 1
          have q_b32 : w8.cell? ⟨w1.heap.size, 2, none⟩ = some (.int .i64 z2) := b3.cell 2
          have q_b33 : w8.cell? ⟨w1.heap.size, 3, none⟩ = some (.int .i64 z3) := b3.cell 3
          have q_b34 : w8.cell? ⟨w1.heap.size, 4, none⟩ = some (.int .i64 z4) := b3.cell 4
          have q_b35 : w8.cell? ⟨w1.heap.size, 5, none⟩ = some (.int .i64 z5) := b3.cell 5
          have q_b36 : w8.cell? ⟨w1.heap.size, 6, none⟩ = some (.int .i64 z6) := b3.cell 6
          have l_bx : w.heap.size < w8.heap.size := bx.lt
          have l_b3 : w1.heap.size < w8.heap.size := b3.lt
          go_wp2_with fail
          refine (MCheck_lit z0 z1 z2 z3 z4 z5 z6 _).mono ?_
          rintro e wq ⟨rfl, hb⟩
          rw [hme]
          clear q_bx0 q_bx1 q_bx2 q_bx3 q_bx4 q_bx5 q_bx6 q_bx7 q_bx8 q_bx9 q_bx10 q_bx11 q_bx12 q_bx13 q_bx14 q_bx15 q_bx16 q_bx17 q_b30 q_b31 q_b32 q_b33 q_b34 q_b35 q_b36 l_bx l_b3
          have bx : Blk wq (w.heap.size) 30 #[.int .i64 sh, .int .i64 nx, .int .i64 fl, .int .i64 ac, .int .i64 fi, .int .i64 wa, .int .i64 li, .int .i64 p0, .int .i64 p1, .int .i64 p2, .int .i64 a, .int .i64 b, .int .i64 f, .int .i64 c, .int .i64 m, .slice A l.length ca, .int .i64 now, .int .i64 n] := bx.on hb
          have b3 : Blk wq (w1.heap.size) 23 #[.int .i64 z0, .int .i64 z1, .int .i64 z2, .int .i64 z3, .int .i64 z4, .int .i64 z5, .int .i64 z6] := b3.on hb
          have HQ := Lib.hid hb
          clear hb
          have q_bx0 : wq.cell? ⟨w.heap.size, 0, none⟩ = some (.int .i64 sh) := bx.cell 0
          have q_bx1 : wq.cell? ⟨w.heap.size, 1, none⟩ = some (.int .i64 nx) := bx.cell 1
          have q_bx2 : wq.cell? ⟨w.heap.size, 2, none⟩ = some (.int .i64 fl) := bx.cell 2
          have q_bx3 : wq.cell? ⟨w.heap.size, 3, none⟩ = some (.int .i64 ac) := bx.cell 3
          have q_bx4 : wq.cell? ⟨w.heap.size, 4, none⟩ = some (.int .i64 fi) := bx.cell 4
          have q_bx5 : wq.cell? ⟨w.heap.size, 5, none⟩ = some (.int .i64 wa) := bx.cell 5
          have q_bx6 : wq.cell? ⟨w.heap.size, 6, none⟩ = some (.int .i64 li) := bx.cell 6
          have q_bx7 : wq.cell? ⟨w.heap.size, 7, none⟩ = some (.int .i64 p0) := bx.cell 7
          have q_bx8 : wq.cell? ⟨w.heap.size, 8, none⟩ = some (.int .i64 p1) := bx.cell 8
          have q_bx9 : wq.cell? ⟨w.heap.size, 9, none⟩ = some (.int .i64 p2) := bx.cell 9
          have q_bx10 : wq.cell? ⟨w.heap.size, 10, none⟩ = some (.int .i64 a) := bx.cell 10
          have q_bx11 : wq.cell? ⟨w.heap.size, 11, none⟩ = some (.int .i64 b) := bx.cell 11
          have q_bx12 : wq.cell? ⟨w.heap.size, 12, none⟩ = some (.int .i64 f) := bx.cell 12
          have q_bx13 : wq.cell? ⟨w.heap.size, 13, none⟩ = some (.int .i64 c) := bx.cell 13
          have q_bx14 : wq.cell? ⟨w.heap.size, 14, none⟩ = some (.int .i64 m) := bx.cell 14
          have q_bx15 : wq.cell? ⟨w.heap.size, 15, none⟩ = some (.slice A l.length ca) := bx.cell 15
          have q_bx16 : wq.cell? ⟨w.heap.size, 16, none⟩ = some (.int .i64 now) := bx.cell 16
          have q_bx17 : wq.cell? ⟨w.heap.size, 17, none⟩ = some (.int .i64 n) := bx.cell 17
          have q_b30 : wq.cell? ⟨w1.heap.size, 0, none⟩ = some (.int .i64 z0) := b3.cell 0
          have q_b31 : wq.cell? ⟨w1.heap.size, 1, none⟩ = some (.int .i64 z1) := b3.cell 1
          have q_b32 : wq.cell? ⟨w1.heap.size, 2, none⟩ = some (.int .i64 z2) := b3.cell 2
          have q_b33 : wq.cell? ⟨w1.heap.size, 3, none⟩ = some (.int .i64 z3) := b3.cell 3
          have q_b34 : wq.cell? ⟨w1.heap.size, 4, none⟩ = some (.int .i64 z4) := b3.cell 4
          have q_b35 : wq.cell? ⟨w1.heap.size, 5, none⟩ = some (.int .i64 z5) := b3.cell 5
          have q_b36 : wq.cell? ⟨w1.heap.size, 6, none⟩ = some (.int .i64 z6) := b3.cell 6
          have l_bx : w.heap.size < wq.heap.size := bx.lt
          have l_b3 : w1.heap.size < wq.heap.size := b3.lt
          go_wp2_with fail
          go_meet
          exact ⟨rfl, HQ.out⟩
        · have hne : (E3 == 0) = false := beq_eq_false_iff_ne.2 he
          have q_bx0 : w8.cell? ⟨w.heap.size, 0, none⟩ = some (.int .i64 sh) := bx.cell 0
          have q_bx1 : w8.cell? ⟨w.heap.size, 1, none⟩ = some (.int .i64 nx) := bx.cell 1
          have q_bx2 : w8.cell? ⟨w.heap.size, 2, none⟩ = some (.int .i64 fl) := bx.cell 2
          have q_bx3 : w8.cell? ⟨w.heap.size, 3, none⟩ = some (.int .i64 ac) := bx.cell 3
          have q_bx4 : w8.cell? ⟨w.heap.size, 4, none⟩ = some (.int .i64 fi) := bx.cell 4
          have q_bx5 : w8.cell? ⟨w.heap.size, 5, none⟩ = some (.int .i64 wa) := bx.cell 5
          have q_bx6 : w8.cell? ⟨w.heap.size, 6, none⟩ = some (.int .i64 li) := bx.cell 6
          have q_bx7 : w8.cell? ⟨w.heap.size, 7, none⟩ = some (.int .i64 p0) := bx.cell 7
          have q_bx8 : w8.cell? ⟨w.heap.size, 8, none⟩ = some (.int .i64 p1) := bx.cell 8
          have q_bx9 : w8.cell? ⟨w.heap.size, 9, none⟩ = some (.int .i64 p2) := bx.cell 9
          have q_bx10 : w8.cell? ⟨w.heap.size, 10, none⟩ = some (.int .i64 a) := bx.cell 10
          have q_bx11 : w8.cell? ⟨w.heap.size, 11, none⟩ = some (.int .i64 b) := bx.cell 11
          have q_bx12 : w8.cell? ⟨w.heap.size, 12, none⟩ = some (.int .i64 f) := bx.cell 12
          have q_bx13 : w8.cell? ⟨w.heap.size, 13, none⟩ = some (.int .i64 c) := bx.cell 13
          have q_bx14 : w8.cell? ⟨w.heap.size, 14, none⟩ = some (.int .i64 m) := bx.cell 14
          have q_bx15 : w8.cell? ⟨w.heap.size, 15, none⟩ = some (.slice A l.length ca) := bx.cell 15
          have q_bx16 : w8.cell? ⟨w.heap.size, 16, none⟩ = some (.int .i64 now) := bx.cell 16
          have q_bx17 : w8.cell? ⟨w.heap.size, 17, none⟩ = some (.int .i64 n) := bx.cell 17
          have q_b30 : w8.cell? ⟨w1.heap.size, 0, none⟩ = some (.int .i64 z0) := b3.cell 0
          have q_b31 : w8.cell? ⟨w1.heap.size, 1, none⟩ = some (.int .i64 z1) := b3.cell 1
          have q_b32 : w8.cell? ⟨w1.heap.size, 2, none⟩ = some (.int .i64 z2) := b3.cell 2
          have q_b33 : w8.cell? ⟨w1.heap.size, 3, none⟩ = some (.int .i64 z3) := b3.cell 3
          have q_b34 : w8.cell? ⟨w1.heap.size, 4, none⟩ = some (.int .i64 z4) := b3.cell 4
          have q_b35 : w8.cell? ⟨w1.heap.size, 5, none⟩ = some (.int .i64 z5) := b3.cell 5
          have q_b36 : w8.cell? ⟨w1.heap.size, 6, none⟩ = some (.int .i64 z6) := b3.cell 6
          have l_bx : w.heap.size < w8.heap.size := bx.lt
          have l_b3 : w1.heap.size < w8.heap.size := b3.lt
          go_wp2_with fail
          go_meet
          exact ⟨rfl, Below.refl _ _⟩
      case rest =>
        obtain ⟨rfl, hb⟩ := hcut
        obtain ⟨wC, rfl⟩ : ∃ z : World, z = wc := ⟨_, rfl⟩
        have bx : Blk wC (w.heap.size) 30 #[.int .i64 sh, .int .i64 nx, .int .i64 fl, .int .i64 ac, .int .i64 fi, .int .i64 wa, .int .i64 li, .int .i64 p0, .int .i64 p1, .int .i64 p2, .int .i64 a, .int .i64 b, .int .i64 f, .int .i64 c, .int .i64 m, .slice A l.length ca, .int .i64 now, .int .i64 n] := bx.on hb
        have b3 : Blk wC (w1.heap.size) 23 #[.int .i64 z0, .int .i64 z1, .int .i64 z2, .int .i64 z3, .int .i64 z4, .int .i64 z5, .int .i64 z6] := b3.on hb
        have HB9 := Lib.hid ((HB8.out).trans (hb.mono HB8.out.size))
        have hz9 : w.heap.size ≤ wC.heap.size := HB9.out.size
        clear hb
        have q_bx0 : wC.cell? ⟨w.heap.size, 0, none⟩ = some (.int .i64 sh) := bx.cell 0
        have q_bx1 : wC.cell? ⟨w.heap.size, 1, none⟩ = some (.int .i64 nx) := bx.cell 1
        have q_bx2 : wC.cell? ⟨w.heap.size, 2, none⟩ = some (.int .i64 fl) := bx.cell 2
        have q_bx3 : wC.cell? ⟨w.heap.size, 3, none⟩ = some (.int .i64 ac) := bx.cell 3
        have q_bx4 : wC.cell? ⟨w.heap.size, 4, none⟩ = some (.int .i64 fi) := bx.cell 4
        have q_bx5 : wC.cell? ⟨w.heap.size, 5, none⟩ = some (.int .i64 wa) := bx.cell 5
        have q_bx6 : wC.cell? ⟨w.heap.size, 6, none⟩ = some (.int .i64 li) := bx.cell 6
        have q_bx7 : wC.cell? ⟨w.heap.size, 7, none⟩ = some (.int .i64 p0) := bx.cell 7
        have q_bx8 : wC.cell? ⟨w.heap.size, 8, none⟩ = some (.int .i64 p1) := bx.cell 8
        have q_bx9 : wC.cell? ⟨w.heap.size, 9, none⟩ = some (.int .i64 p2) := bx.cell 9
        have q_bx10 : wC.cell? ⟨w.heap.size, 10, none⟩ = some (.int .i64 a) := bx.cell 10
        have q_bx11 : wC.cell? ⟨w.heap.size, 11, none⟩ = some (.int .i64 b) := bx.cell 11
        have q_bx12 : wC.cell? ⟨w.heap.size, 12, none⟩ = some (.int .i64 f) := bx.cell 12
        have q_bx13 : wC.cell? ⟨w.heap.size, 13, none⟩ = some (.int .i64 c) := bx.cell 13
        have q_bx14 : wC.cell? ⟨w.heap.size, 14, none⟩ = some (.int .i64 m) := bx.cell 14
        have q_bx15 : wC.cell? ⟨w.heap.size, 15, none⟩ = some (.slice A l.length ca) := bx.cell 15
        have q_bx16 : wC.cell? ⟨w.heap.size, 16, none⟩ = some (.int .i64 now) := bx.cell 16
        have q_bx17 : wC.cell? ⟨w.heap.size, 17, none⟩ = some (.int .i64 n) := bx.cell 17
        have q_b30 : wC.cell? ⟨w1.heap.size, 0, none⟩ = some (.int .i64 z0) := b3.cell 0
        have q_b31 : wC.cell? ⟨w1.heap.size, 1, none⟩ = some (.int .i64 z1) := b3.cell 1
        have q_b32 : wC.cell? ⟨w1.heap.size, 2, none⟩ = some (.int .i64 z2) := b3.cell 2
        have q_b33 : wC.cell? ⟨w1.heap.size, 3, none⟩ = some (.int .i64 z3) := b3.cell 3
        have q_b34 : wC.cell? ⟨w1.heap.size, 4, none⟩ = some (.int .i64 z4) := b3.cell 4
        have q_b35 : wC.cell? ⟨w1.heap.size, 5, none⟩ = some (.int .i64 z5) := b3.cell 5
        have q_b36 : wC.cell? ⟨w1.heap.size, 6, none⟩ = some (.int .i64 z6) := b3.cell 6
        have l_bx : w.heap.size < wC.heap.size := bx.lt
        have l_b3 : w1.heap.size < wC.heap.size := b3.lt
        have f_b30 : wC.frozen? ⟨w1.heap.size, 0, none⟩ = false := b3.frozen 0
        have f_b31 : wC.frozen? ⟨w1.heap.size, 1, none⟩ = false := b3.frozen 1
        have f_b32 : wC.frozen? ⟨w1.heap.size, 2, none⟩ = false := b3.frozen 2
        have f_b33 : wC.frozen? ⟨w1.heap.size, 3, none⟩ = false := b3.frozen 3
        have f_b34 : wC.frozen? ⟨w1.heap.size, 4, none⟩ = false := b3.frozen 4
        have f_b35 : wC.frozen? ⟨w1.heap.size, 5, none⟩ = false := b3.frozen 5
        have f_b36 : wC.frozen? ⟨w1.heap.size, 6, none⟩ = false := b3.frozen 6
        go_wp2_with fail
        refine (Fail_any sh nx fl ac fi wa li a b f c m now _).mono ?_
        rintro e w10 ⟨rfl, hb⟩
        clear q_bx0 q_bx1 q_bx2 q_bx3 q_bx4 q_bx5 q_bx6 q_bx7 q_bx8 q_bx9 q_bx10 q_bx11 q_bx12 q_bx13 q_bx14 q_bx15 q_bx16 q_bx17 q_b30 q_b31 q_b32 q_b33 q_b34 q_b35 q_b36 l_bx l_b3 f_b30 f_b31 f_b32 f_b33 f_b34 f_b35 f_b36
        have bx : Blk w10 (w.heap.size) 30 #[.int .i64 sh, .int .i64 nx, .int .i64 fl, .int .i64 ac, .int .i64 fi, .int .i64 wa, .int .i64 li, .int .i64 p0, .int .i64 p1, .int .i64 p2, .int .i64 a, .int .i64 b, .int .i64 f, .int .i64 c, .int .i64 m, .slice A l.length ca, .int .i64 now, .int .i64 n] := (bx).on hb
        have b3 : Blk w10 (w1.heap.size) 23 #[.int .i64 z0, .int .i64 z1, .int .i64 z2, .int .i64 z3, .int .i64 z4, .int .i64 z5, .int .i64 z6] := (b3).on hb
        have hbz := hb.size
        have HB10 := Lib.hid ((HB9.out).trans (hb.mono (by first | exact Nat.le_refl _ | omega | (simp; done) | (simp; omega))))
        have hz10 : w.heap.size ≤ w10.heap.size := HB10.out.size
        clear hb hbz
        generalize hR : failS ⟨sh, nx, fl, ac, fi, wa, li⟩ ⟨a, b, f, c, m⟩ now = R
        obtain ⟨⟨u0, u1, u2, u3, u4, u5, u6⟩, q, E4⟩ := R
        have HR4 := Lib.hid hR
        clear hR
        simp only [MR3, MS.cs]
        have q_bx0 : w10.cell? ⟨w.heap.size, 0, none⟩ = some (.int .i64 sh) := bx.cell 0
        have q_bx1 : w10.cell? ⟨w.heap.size, 1, none⟩ = some (.int .i64 nx) := bx.cell 1
        have q_bx2 : w10.cell? ⟨w.heap.size, 2, none⟩ = some (.int .i64 fl) := bx.cell 2
        have q_bx3 : w10.cell? ⟨w.heap.size, 3, none⟩ = some (.int .i64 ac) := bx.cell 3
        have q_bx4 : w10.cell? ⟨w.heap.size, 4, none⟩ = some (.int .i64 fi) := bx.cell 4
        have q_bx5 : w10.cell? ⟨w.heap.size, 5, none⟩ = some (.int .i64 wa) := bx.cell 5
        have q_bx6 : w10.cell? ⟨w.heap.size, 6, none⟩ = some (.int .i64 li) := bx.cell 6
        have q_bx7 : w10.cell? ⟨w.heap.size, 7, none⟩ = some (.int .i64 p0) := bx.cell 7
        have q_bx8 : w10.cell? ⟨w.heap.size, 8, none⟩ = some (.int .i64 p1) := bx.cell 8
        have q_bx9 : w10.cell? ⟨w.heap.size, 9, none⟩ = some (.int .i64 p2) := bx.cell 9
        have q_bx10 : w10.cell? ⟨w.heap.size, 10, none⟩ = some (.int .i64 a) := bx.cell 10
        have q_bx11 : w10.cell? ⟨w.heap.size, 11, none⟩ = some (.int .i64 b) := bx.cell 11
        have q_bx12 : w10.cell? ⟨w.heap.size, 12, none⟩ = some (.int .i64 f) := bx.cell 12
        have q_bx13 : w10.cell? ⟨w.heap.size, 13, none⟩ = some (.int .i64 c) := bx.cell 13
        have q_bx14 : w10.cell? ⟨w.heap.size, 14, none⟩ = some (.int .i64 m) := bx.cell 14
        have q_bx15 : w10.cell? ⟨w.heap.size, 15, none⟩ = some (.slice A l.length ca) := bx.cell 15
        have q_bx16 : w10.cell? ⟨w.heap.size, 16, none⟩ = some (.int .i64 now) := bx.cell 16
        have q_bx17 : w10.cell? ⟨w.heap.size, 17, none⟩ = some (.int .i64 n) := bx.cell 17
        have q_b30 : w10.cell? ⟨w1.heap.size, 0, none⟩ = some (.int .i64 z0) := b3.cell 0
        have q_b31 : w10.cell? ⟨w1.heap.size, 1, none⟩ = some (.int .i64 z1) := b3.cell 1
        have q_b32 : w10.cell? ⟨w1.heap.size, 2, none⟩ = some (.int .i64 z2) := b3.cell 2
        have q_b33 : w10.cell? ⟨w1.heap.size, 3, none⟩ = some (.int .i64 z3) := b3.cell 3
        have q_b34 : w10.cell? ⟨w1.heap.size, 4, none⟩ = some (.int .i64 z4) := b3.cell 4
        have q_b35 : w10.cell? ⟨w1.heap.size, 5, none⟩ = some (.int .i64 z5) := b3.cell 5
        have q_b36 : w10.cell? ⟨w1.heap.size, 6, none⟩ = some (.int .i64 z6) := b3.cell 6
        have l_bx : w.heap.size < w10.heap.size := bx.lt
        have l_b3 : w1.heap.size < w10.heap.size := b3.lt
        have f_b30 : w10.frozen? ⟨w1.heap.size, 0, none⟩ = false := b3.frozen 0
        have f_b31 : w10.frozen? ⟨w1.heap.size, 1, none⟩ = false := b3.frozen 1
        have f_b32 : w10.frozen? ⟨w1.heap.size, 2, none⟩ = false := b3.frozen 2
        have f_b33 : w10.frozen? ⟨w1.heap.size, 3, none⟩ = false := b3.frozen 3
        have f_b34 : w10.frozen? ⟨w1.heap.size, 4, none⟩ = false := b3.frozen 4
        have f_b35 : w10.frozen? ⟨w1.heap.size, 5, none⟩ = false := b3.frozen 5
        have f_b36 : w10.frozen? ⟨w1.heap.size, 6, none⟩ = false := b3.frozen 6
        go_upto_region 11 with fail
        clear q_bx0 q_bx1 q_bx2 q_bx3 q_bx4 q_bx5 q_bx6 q_bx7 q_bx8 q_bx9 q_bx10 q_bx11 q_bx12 q_bx13 q_bx14 q_bx15 q_bx16 q_bx17 q_b30 q_b31 q_b32 q_b33 q_b34 q_b35 q_b36 l_bx l_b3 f_b30 f_b31 f_b32 f_b33 f_b34 f_b35 f_b36
        have bx : Blk ((((((((w10).setCell ⟨w1.heap.size, 0, none⟩ (.int .i64 u0)).setCell ⟨w1.heap.size, 1, none⟩ (.int .i64 u1)).setCell ⟨w1.heap.size, 2, none⟩ (.int .i64 u2)).setCell ⟨w1.heap.size, 3, none⟩ (.int .i64 u3)).setCell ⟨w1.heap.size, 4, none⟩ (.int .i64 u4)).setCell ⟨w1.heap.size, 5, none⟩ (.int .i64 u5)).setCell ⟨w1.heap.size, 6, none⟩ (.int .i64 u6)) (w.heap.size) 30 #[.int .i64 sh, .int .i64 nx, .int .i64 fl, .int .i64 ac, .int .i64 fi, .int .i64 wa, .int .i64 li, .int .i64 p0, .int .i64 p1, .int .i64 p2, .int .i64 a, .int .i64 b, .int .i64 f, .int .i64 c, .int .i64 m, .slice A l.length ca, .int .i64 now, .int .i64 n] := Blk.far7 (bx) (g' := w1.heap.size) (by omega) _ _ _ _ _ _ _
        have b3 : Blk ((((((((w10).setCell ⟨w1.heap.size, 0, none⟩ (.int .i64 u0)).setCell ⟨w1.heap.size, 1, none⟩ (.int .i64 u1)).setCell ⟨w1.heap.size, 2, none⟩ (.int .i64 u2)).setCell ⟨w1.heap.size, 3, none⟩ (.int .i64 u3)).setCell ⟨w1.heap.size, 4, none⟩ (.int .i64 u4)).setCell ⟨w1.heap.size, 5, none⟩ (.int .i64 u5)).setCell ⟨w1.heap.size, 6, none⟩ (.int .i64 u6)) (w1.heap.size) 23 #[.int .i64 u0, .int .i64 u1, .int .i64 u2, .int .i64 u3, .int .i64 u4, .int .i64 u5, .int .i64 u6] := Blk.set7 (b3) _ _ _ _ _ _ _
        have HB11 := Lib.hid (show Below w.heap.size w ((((((((w10).setCell ⟨w1.heap.size, 0, none⟩ (.int .i64 u0)).setCell ⟨w1.heap.size, 1, none⟩ (.int .i64 u1)).setCell ⟨w1.heap.size, 2, none⟩ (.int .i64 u2)).setCell ⟨w1.heap.size, 3, none⟩ (.int .i64 u3)).setCell ⟨w1.heap.size, 4, none⟩ (.int .i64 u4)).setCell ⟨w1.heap.size, 5, none⟩ (.int .i64 u5)).setCell ⟨w1.heap.size, 6, none⟩ (.int .i64 u6)) from below_set7 (HB10.out) (H := w1.heap.size) (by first | exact Nat.le_refl _ | omega) _ _ _ _ _ _ _)
        generalize (((((((w10).setCell ⟨w1.heap.size, 0, none⟩ (.int .i64 u0)).setCell ⟨w1.heap.size, 1, none⟩ (.int .i64 u1)).setCell ⟨w1.heap.size, 2, none⟩ (.int .i64 u2)).setCell ⟨w1.heap.size, 3, none⟩ (.int .i64 u3)).setCell ⟨w1.heap.size, 4, none⟩ (.int .i64 u4)).setCell ⟨w1.heap.size, 5, none⟩ (.int .i64 u5)).setCell ⟨w1.heap.size, 6, none⟩ (.int .i64 u6) = w11 at *
        have hz11 : w.heap.size ≤ w11.heap.size := HB11.out.size
        go_cut [133] from 104 to 133 (fun v wx => v = .bool false ∧ Below w11.heap.size w11 wx)
        case first =>
          by_cases he : E4 = 0
          · subst he
            obtain ⟨hme, hs0, -, hgv⟩ := fail_valid (s := ⟨sh, nx, fl, ac, fi, wa, li⟩) (r := ⟨a, b, f, c, m⟩) (now := now) (by rw [HR4.out])
            rw [HR4.out] at hme hgv
            obtain ⟨r1, r2, r3, r4⟩ := nx_bd hs0
            simp only at hme hgv r1 r2 r3 r4
            clear hs0
            rcases hgv with ⟨hq, hq1, -⟩ | ⟨hq, hq1⟩
            · have g1 : (u1 == nx + 1) = true := beq_iff_eq.2 hq1
              subst hq
              clear hq1
              have q_bx0 : w11.cell? ⟨w.heap.size, 0, none⟩ = some (.int .i64 sh) := bx.cell 0
              have q_bx1 : w11.cell? ⟨w.heap.size, 1, none⟩ = some (.int .i64 nx) := bx.cell 1
              have q_bx2 : w11.cell? ⟨w.heap.size, 2, none⟩ = some (.int .i64 fl) := bx.cell 2
              have q_bx3 : w11.cell? ⟨w.heap.size, 3, none⟩ = some (.int .i64 ac) := bx.cell 3
              have q_bx4 : w11.cell? ⟨w.heap.size, 4, none⟩ = some (.int .i64 fi) := bx.cell 4
              have q_bx5 : w11.cell? ⟨w.heap.size, 5, none⟩ = some (.int .i64 wa) := bx.cell 5
              have q_bx6 : w11.cell? ⟨w.heap.size, 6, none⟩ = some (.int .i64 li) := bx.cell 6
              have q_bx7 : w11.cell? ⟨w.heap.size, 7, none⟩ = some (.int .i64 p0) := bx.cell 7
              have q_bx8 : w11.cell? ⟨w.heap.size, 8, none⟩ = some (.int .i64 p1) := bx.cell 8
              have q_bx9 : w11.cell? ⟨w.heap.size, 9, none⟩ = some (.int .i64 p2) := bx.cell 9
              have q_bx10 : w11.cell? ⟨w.heap.size, 10, none⟩ = some (.int .i64 a) := bx.cell 10
              have q_bx11 : w11.cell? ⟨w.heap.size, 11, none⟩ = some (.int .i64 b) := bx.cell 11
              have q_bx12 : w11.cell? ⟨w.heap.size, 12, none⟩ = some (.int .i64 f) := bx.cell 12
              have q_bx13 : w11.cell? ⟨w.heap.size, 13, none⟩ = some (.int .i64 c) := bx.cell 13
              have q_bx14 : w11.cell? ⟨w.heap.size, 14, none⟩ = some (.int .i64 m) := bx.cell 14
              have q_bx15 : w11.cell? ⟨w.heap.size, 15, none⟩ = some (.slice A l.length ca) := bx.cell 15
              have q_bx16 : w11.cell? ⟨w.heap.size, 16, none⟩ = some (.int .i64 now) := bx.cell 16
              have q_bx17 : w11.cell? ⟨w.heap.size, 17, none⟩ = some (.int .i64 n) := bx.cell 17
              have q_b30 : w11.cell? ⟨w1.heap.size, 0, none⟩ = some (.int .i64 u0) := b3.cell 0
              have q_b31 : w11.cell? ⟨w1.heap.size, 1, none⟩ = some (.int .i64 u1) := b3.cell 1
              have q_b32 : w11.cell? ⟨w1.heap.size, 2, none⟩ = some (.int .i64 u2) := b3.cell 2
              have q_b33 : w11.cell? ⟨w1.heap.size, 3, none⟩ = some (.int .i64 u3) := b3.cell 3
              have q_b34 : w11.cell? ⟨w1.heap.size, 4, none⟩ = some (.int .i64 u4) := b3.cell 4
              have q_b35 : w11.cell? ⟨w1.heap.size, 5, none⟩ = some (.int .i64 u5) := b3.cell 5
              have q_b36 : w11.cell? ⟨w1.heap.size, 6, none⟩ = some (.int .i64 u6) := b3.cell 6
              have l_bx : w.heap.size < w11.heap.size := bx.lt
              have l_b3 : w1.heap.size < w11.heap.size := b3.lt
              go_wp2_with fail
              refine (MCheck_lit u0 u1 u2 u3 u4 u5 u6 _).mono ?_
              rintro e wq ⟨rfl, hb⟩
              rw [hme]
              clear q_bx0 q_bx1 q_bx2 q_bx3 q_bx4 q_bx5 q_bx6 q_bx7 q_bx8 q_bx9 q_bx10 q_bx11 q_bx12 q_bx13 q_bx14 q_bx15 q_bx16 q_bx17 q_b30 q_b31 q_b32 q_b33 q_b34 q_b35 q_b36 l_bx l_b3
              have bx : Blk wq (w.heap.size) 30 #[.int .i64 sh, .int .i64 nx, .int .i64 fl, .int .i64 ac, .int .i64 fi, .int .i64 wa, .int .i64 li, .int .i64 p0, .int .i64 p1, .int .i64 p2, .int .i64 a, .int .i64 b, .int .i64 f, .int .i64 c, .int .i64 m, .slice A l.length ca, .int .i64 now, .int .i64 n] := bx.on hb
              have b3 : Blk wq (w1.heap.size) 23 #[.int .i64 u0, .int .i64 u1, .int .i64 u2, .int .i64 u3, .int .i64 u4, .int .i64 u5, .int .i64 u6] := b3.on hb
              have HQ := Lib.hid hb
              clear hb
              have q_bx0 : wq.cell? ⟨w.heap.size, 0, none⟩ = some (.int .i64 sh) := bx.cell 0
              have q_bx1 : wq.cell? ⟨w.heap.size, 1, none⟩ = some (.int .i64 nx) := bx.cell 1
              have q_bx2 : wq.cell? ⟨w.heap.size, 2, none⟩ = some (.int .i64 fl) := bx.cell 2
              have q_bx3 : wq.cell? ⟨w.heap.size, 3, none⟩ = some (.int .i64 ac) := bx.cell 3
              have q_bx4 : wq.cell? ⟨w.heap.size, 4, none⟩ = some (.int .i64 fi) := bx.cell 4
              have q_bx5 : wq.cell? ⟨w.heap.size, 5, none⟩ = some (.int .i64 wa) := bx.cell 5
              have q_bx6 : wq.cell? ⟨w.heap.size, 6, none⟩ = some (.int .i64 li) := bx.cell 6
              have q_bx7 : wq.cell? ⟨w.heap.size, 7, none⟩ = some (.int .i64 p0) := bx.cell 7
              have q_bx8 : wq.cell? ⟨w.heap.size, 8, none⟩ = some (.int .i64 p1) := bx.cell 8
              have q_bx9 : wq.cell? ⟨w.heap.size, 9, none⟩ = some (.int .i64 p2) := bx.cell 9
              have q_bx10 : wq.cell? ⟨w.heap.size, 10, none⟩ = some (.int .i64 a) := bx.cell 10
              have q_bx11 : wq.cell? ⟨w.heap.size, 11, none⟩ = some (.int .i64 b) := bx.cell 11
              have q_bx12 : wq.cell? ⟨w.heap.size, 12, none⟩ = some (.int .i64 f) := bx.cell 12
              have q_bx13 : wq.cell? ⟨w.heap.size, 13, none⟩ = some (.int .i64 c) := bx.cell 13
              have q_bx14 : wq.cell? ⟨w.heap.size, 14, none⟩ = some (.int .i64 m) := bx.cell 14
              have q_bx15 : wq.cell? ⟨w.heap.size, 15, none⟩ = some (.slice A l.length ca) := bx.cell 15
              have q_bx16 : wq.cell? ⟨w.heap.size, 16, none⟩ = some (.int .i64 now) := bx.cell 16
              have q_bx17 : wq.cell? ⟨w.heap.size, 17, none⟩ = some (.int .i64 n) := bx.cell 17
              have q_b30 : wq.cell? ⟨w1.heap.size, 0, none⟩ = some (.int .i64 u0) := b3.cell 0
              have q_b31 : wq.cell? ⟨w1.heap.size, 1, none⟩ = some (.int .i64 u1) := b3.cell 1
              have q_b32 : wq.cell? ⟨w1.heap.size, 2, none⟩ = some (.int .i64 u2) := b3.cell 2
              have q_b33 : wq.cell? ⟨w1.heap.size, 3, none⟩ = some (.int .i64 u3) := b3.cell 3
              have q_b34 : wq.cell? ⟨w1.heap.size, 4, none⟩ = some (.int .i64 u4) := b3.cell 4
              have q_b35 : wq.cell? ⟨w1.heap.size, 5, none⟩ = some (.int .i64 u5) := b3.cell 5
              have q_b36 : wq.cell? ⟨w1.heap.size, 6, none⟩ = some (.int .i64 u6) := b3.cell 6
              have l_bx : w.heap.size < wq.heap.size := bx.lt
              have l_b3 : w1.heap.size < wq.heap.size := b3.lt
              go_wp2_with fail
              go_meet
              exact ⟨rfl, HQ.out⟩
            · have g1 : (u1 == nx + 1) = false := beq_eq_false_iff_ne.2 (by omega)
              have g2 : (u1 != nx) = false := by rw [hq1]; exact bne_self_eq_false _
              subst hq
              clear hq1
              have q_bx0 : w11.cell? ⟨w.heap.size, 0, none⟩ = some (.int .i64 sh) := bx.cell 0
              have q_bx1 : w11.cell? ⟨w.heap.size, 1, none⟩ = some (.int .i64 nx) := bx.cell 1
              have q_bx2 : w11.cell? ⟨w.heap.size, 2, none⟩ = some (.int .i64 fl) := bx.cell 2
              have q_bx3 : w11.cell? ⟨w.heap.size, 3, none⟩ = some (.int .i64 ac) := bx.cell 3
              have q_bx4 : w11.cell? ⟨w.heap.size, 4, none⟩ = some (.int .i64 fi) := bx.cell 4
              have q_bx5 : w11.cell? ⟨w.heap.size, 5, none⟩ = some (.int .i64 wa) := bx.cell 5
              have q_bx6 : w11.cell? ⟨w.heap.size, 6, none⟩ = some (.int .i64 li) := bx.cell 6
              have q_bx7 : w11.cell? ⟨w.heap.size, 7, none⟩ = some (.int .i64 p0) := bx.cell 7
              have q_bx8 : w11.cell? ⟨w.heap.size, 8, none⟩ = some (.int .i64 p1) := bx.cell 8
              have q_bx9 : w11.cell? ⟨w.heap.size, 9, none⟩ = some (.int .i64 p2) := bx.cell 9
              have q_bx10 : w11.cell? ⟨w.heap.size, 10, none⟩ = some (.int .i64 a) := bx.cell 10
              have q_bx11 : w11.cell? ⟨w.heap.size, 11, none⟩ = some (.int .i64 b) := bx.cell 11
              have q_bx12 : w11.cell? ⟨w.heap.size, 12, none⟩ = some (.int .i64 f) := bx.cell 12
              have q_bx13 : w11.cell? ⟨w.heap.size, 13, none⟩ = some (.int .i64 c) := bx.cell 13
              have q_bx14 : w11.cell? ⟨w.heap.size, 14, none⟩ = some (.int .i64 m) := bx.cell 14
              have q_bx15 : w11.cell? ⟨w.heap.size, 15, none⟩ = some (.slice A l.length ca) := bx.cell 15
              have q_bx16 : w11.cell? ⟨w.heap.size, 16, none⟩ = some (.int .i64 now) := bx.cell 16
              have q_bx17 : w11.cell? ⟨w.heap.size, 17, none⟩ = some (.int .i64 n) := bx.cell 17
              have q_b30 : w11.cell? ⟨w1.heap.size, 0, none⟩ = some (.int .i64 u0) := b3.cell 0
              have q_b31 : w11.cell? ⟨w1.heap.size, 1, none⟩ = some (.int .i64 u1) := b3.cell 1
              have q_b32 : w11.cell? ⟨w1.heap.size, 2, none⟩ = some (.int .i64 u2) := b3.cell 2
              have q_b33 : w11.cell? ⟨w1.heap.size, 3, none⟩ = some (.int .i64 u3) := b3.cell 3
              have q_b34 : w11.cell? ⟨w1.heap.size, 4, none⟩ = some (.int .i64 u4) := b3.cell 4
              have q_b35 : w11.cell? ⟨w1.heap.size, 5, none⟩ = some (.int .i64 u5) := b3.cell 5
              have q_b36 : w11.cell? ⟨w1.heap.size, 6, none⟩ = some (.int .i64 u6) := b3.cell 6
              have l_bx : w.heap.size < w11.heap.size := bx.lt
              have l_b3 : w1.heap.size < w11.heap.size := b3.lt
              go_wp2_with fail
              refine (MCheck_lit u0 u1 u2 u3 u4 u5 u6 _).mono ?_
              rintro e wq ⟨rfl, hb⟩
              rw [hme]
              clear q_bx0 q_bx1 q_bx2 q_bx3 q_bx4 q_bx5 q_bx6 q_bx7 q_bx8 q_bx9 q_bx10 q_bx11 q_bx12 q_bx13 q_bx14 q_bx15 q_bx16 q_bx17 q_b30 q_b31 q_b32 q_b33 q_b34 q_b35 q_b36 l_bx l_b3
              have bx : Blk wq (w.heap.size) 30 #[.int .i64 sh, .int .i64 nx, .int .i64 fl, .int .i64 ac, .int .i64 fi, .int .i64 wa, .int .i64 li, .int .i64 p0, .int .i64 p1, .int .i64 p2, .int .i64 a, .int .i64 b, .int .i64 f, .int .i64 c, .int .i64 m, .slice A l.length ca, .int .i64 now, .int .i64 n] := bx.on hb
              have b3 : Blk wq (w1.heap.size) 23 #[.int .i64 u0, .int .i64 u1, .int .i64 u2, .int .i64 u3, .int .i64 u4, .int .i64 u5, .int .i64 u6] := b3.on hb
              have HQ := Lib.hid hb
              clear hb
              have q_bx0 : wq.cell? ⟨w.heap.size, 0, none⟩ = some (.int .i64 sh) := bx.cell 0
              have q_bx1 : wq.cell? ⟨w.heap.size, 1, none⟩ = some (.int .i64 nx) := bx.cell 1
              have q_bx2 : wq.cell? ⟨w.heap.size, 2, none⟩ = some (.int .i64 fl) := bx.cell 2
              have q_bx3 : wq.cell? ⟨w.heap.size, 3, none⟩ = some (.int .i64 ac) := bx.cell 3
              have q_bx4 : wq.cell? ⟨w.heap.size, 4, none⟩ = some (.int .i64 fi) := bx.cell 4
              have q_bx5 : wq.cell? ⟨w.heap.size, 5, none⟩ = some (.int .i64 wa) := bx.cell 5
              have q_bx6 : wq.cell? ⟨w.heap.size, 6, none⟩ = some (.int .i64 li) := bx.cell 6
              have q_bx7 : wq.cell? ⟨w.heap.size, 7, none⟩ = some (.int .i64 p0) := bx.cell 7
              have q_bx8 : wq.cell? ⟨w.heap.size, 8, none⟩ = some (.int .i64 p1) := bx.cell 8
              have q_bx9 : wq.cell? ⟨w.heap.size, 9, none⟩ = some (.int .i64 p2) := bx.cell 9
              have q_bx10 : wq.cell? ⟨w.heap.size, 10, none⟩ = some (.int .i64 a) := bx.cell 10
              have q_bx11 : wq.cell? ⟨w.heap.size, 11, none⟩ = some (.int .i64 b) := bx.cell 11
              have q_bx12 : wq.cell? ⟨w.heap.size, 12, none⟩ = some (.int .i64 f) := bx.cell 12
              have q_bx13 : wq.cell? ⟨w.heap.size, 13, none⟩ = some (.int .i64 c) := bx.cell 13
              have q_bx14 : wq.cell? ⟨w.heap.size, 14, none⟩ = some (.int .i64 m) := bx.cell 14
              have q_bx15 : wq.cell? ⟨w.heap.size, 15, none⟩ = some (.slice A l.length ca) := bx.cell 15
              have q_bx16 : wq.cell? ⟨w.heap.size, 16, none⟩ = some (.int .i64 now) := bx.cell 16
              have q_bx17 : wq.cell? ⟨w.heap.size, 17, none⟩ = some (.int .i64 n) := bx.cell 17
              have q_b30 : wq.cell? ⟨w1.heap.size, 0, none⟩ = some (.int .i64 u0) := b3.cell 0
              have q_b31 : wq.cell? ⟨w1.heap.size, 1, none⟩ = some (.int .i64 u1) := b3.cell 1
              have q_b32 : wq.cell? ⟨w1.heap.size, 2, none⟩ = some (.int .i64 u2) := b3.cell 2
              have q_b33 : wq.cell? ⟨w1.heap.size, 3, none⟩ = some (.int .i64 u3) := b3.cell 3
              have q_b34 : wq.cell? ⟨w1.heap.size, 4, none⟩ = some (.int .i64 u4) := b3.cell 4
              have q_b35 : wq.cell? ⟨w1.heap.size, 5, none⟩ = some (.int .i64 u5) := b3.cell 5
              have q_b36 : wq.cell? ⟨w1.heap.size, 6, none⟩ = some (.int .i64 u6) := b3.cell 6
              have l_bx : w.heap.size < wq.heap.size := bx.lt
              have l_b3 : w1.heap.size < wq.heap.size := b3.lt
              go_wp2_with fail
              go_meet
              exact ⟨rfl, HQ.out⟩
          · have hne : (E4 == 0) = false := beq_eq_false_iff_ne.2 he
            have q_bx0 : w11.cell? ⟨w.heap.size, 0, none⟩ = some (.int .i64 sh) := bx.cell 0
            have q_bx1 : w11.cell? ⟨w.heap.size, 1, none⟩ = some (.int .i64 nx) := bx.cell 1
            have q_bx2 : w11.cell? ⟨w.heap.size, 2, none⟩ = some (.int .i64 fl) := bx.cell 2
            have q_bx3 : w11.cell? ⟨w.heap.size, 3, none⟩ = some (.int .i64 ac) := bx.cell 3
            have q_bx4 : w11.cell? ⟨w.heap.size, 4, none⟩ = some (.int .i64 fi) := bx.cell 4
            have q_bx5 : w11.cell? ⟨w.heap.size, 5, none⟩ = some (.int .i64 wa) := bx.cell 5
            have q_bx6 : w11.cell? ⟨w.heap.size, 6, none⟩ = some (.int .i64 li) := bx.cell 6
            have q_bx7 : w11.cell? ⟨w.heap.size, 7, none⟩ = some (.int .i64 p0) := bx.cell 7
            have q_bx8 : w11.cell? ⟨w.heap.size, 8, none⟩ = some (.int .i64 p1) := bx.cell 8
            have q_bx9 : w11.cell? ⟨w.heap.size, 9, none⟩ = some (.int .i64 p2) := bx.cell 9
            have q_bx10 : w11.cell? ⟨w.heap.size, 10, none⟩ = some (.int .i64 a) := bx.cell 10
            have q_bx11 : w11.cell? ⟨w.heap.size, 11, none⟩ = some (.int .i64 b) := bx.cell 11
            have q_bx12 : w11.cell? ⟨w.heap.size, 12, none⟩ = some (.int .i64 f) := bx.cell 12
            have q_bx13 : w11.cell? ⟨w.heap.size, 13, none⟩ = some (.int .i64 c) := bx.cell 13
            have q_bx14 : w11.cell? ⟨w.heap.size, 14, none⟩ = some (.int .i64 m) := bx.cell 14
            have q_bx15 : w11.cell? ⟨w.heap.size, 15, none⟩ = some (.slice A l.length ca) := bx.cell 15
            have q_bx16 : w11.cell? ⟨w.heap.size, 16, none⟩ = some (.int .i64 now) := bx.cell 16
            have q_bx17 : w11.cell? ⟨w.heap.size, 17, none⟩ = some (.int .i64 n) := bx.cell 17
            have q_b30 : w11.cell? ⟨w1.heap.size, 0, none⟩ = some (.int .i64 u0) := b3.cell 0
            have q_b31 : w11.cell? ⟨w1.heap.size, 1, none⟩ = some (.int .i64 u1) := b3.cell 1
            have q_b32 : w11.cell? ⟨w1.heap.size, 2, none⟩ = some (.int .i64 u2) := b3.cell 2
            have q_b33 : w11.cell? ⟨w1.heap.size, 3, none⟩ = some (.int .i64 u3) := b3.cell 3
            have q_b34 : w11.cell? ⟨w1.heap.size, 4, none⟩ = some (.int .i64 u4) := b3.cell 4
            have q_b35 : w11.cell? ⟨w1.heap.size, 5, none⟩ = some (.int .i64 u5) := b3.cell 5
            have q_b36 : w11.cell? ⟨w1.heap.size, 6, none⟩ = some (.int .i64 u6) := b3.cell 6
            have l_bx : w.heap.size < w11.heap.size := bx.lt
            have l_b3 : w1.heap.size < w11.heap.size := b3.lt
            go_wp2_with fail
            go_meet
            exact ⟨rfl, Below.refl _ _⟩
        case rest =>
          obtain ⟨rfl, hb⟩ := hcut
          obtain ⟨wD, rfl⟩ : ∃ z : World, z = wc := ⟨_, rfl⟩
          have bx : Blk wD (w.heap.size) 30 #[.int .i64 sh, .int .i64 nx, .int .i64 fl, .int .i64 ac, .int .i64 fi, .int .i64 wa, .int .i64 li, .int .i64 p0, .int .i64 p1, .int .i64 p2, .int .i64 a, .int .i64 b, .int .i64 f, .int .i64 c, .int .i64 m, .slice A l.length ca, .int .i64 now, .int .i64 n] := bx.on hb
          have b3 : Blk wD (w1.heap.size) 23 #[.int .i64 u0, .int .i64 u1, .int .i64 u2, .int .i64 u3, .int .i64 u4, .int .i64 u5, .int .i64 u6] := b3.on hb
          have HB12 := Lib.hid ((HB11.out).trans (hb.mono HB11.out.size))
          have hz12 : w.heap.size ≤ wD.heap.size := HB12.out.size
          clear hb
          by_cases he : E4 = 0
          · subst he
            have q_bx0 : wD.cell? ⟨w.heap.size, 0, none⟩ = some (.int .i64 sh) := bx.cell 0
            have q_bx1 : wD.cell? ⟨w.heap.size, 1, none⟩ = some (.int .i64 nx) := bx.cell 1
            have q_bx2 : wD.cell? ⟨w.heap.size, 2, none⟩ = some (.int .i64 fl) := bx.cell 2
            have q_bx3 : wD.cell? ⟨w.heap.size, 3, none⟩ = some (.int .i64 ac) := bx.cell 3
            have q_bx4 : wD.cell? ⟨w.heap.size, 4, none⟩ = some (.int .i64 fi) := bx.cell 4
            have q_bx5 : wD.cell? ⟨w.heap.size, 5, none⟩ = some (.int .i64 wa) := bx.cell 5
            have q_bx6 : wD.cell? ⟨w.heap.size, 6, none⟩ = some (.int .i64 li) := bx.cell 6
            have q_bx7 : wD.cell? ⟨w.heap.size, 7, none⟩ = some (.int .i64 p0) := bx.cell 7
            have q_bx8 : wD.cell? ⟨w.heap.size, 8, none⟩ = some (.int .i64 p1) := bx.cell 8
            have q_bx9 : wD.cell? ⟨w.heap.size, 9, none⟩ = some (.int .i64 p2) := bx.cell 9
            have q_bx10 : wD.cell? ⟨w.heap.size, 10, none⟩ = some (.int .i64 a) := bx.cell 10
            have q_bx11 : wD.cell? ⟨w.heap.size, 11, none⟩ = some (.int .i64 b) := bx.cell 11
            have q_bx12 : wD.cell? ⟨w.heap.size, 12, none⟩ = some (.int .i64 f) := bx.cell 12
            have q_bx13 : wD.cell? ⟨w.heap.size, 13, none⟩ = some (.int .i64 c) := bx.cell 13
            have q_bx14 : wD.cell? ⟨w.heap.size, 14, none⟩ = some (.int .i64 m) := bx.cell 14
            have q_bx15 : wD.cell? ⟨w.heap.size, 15, none⟩ = some (.slice A l.length ca) := bx.cell 15
            have q_bx16 : wD.cell? ⟨w.heap.size, 16, none⟩ = some (.int .i64 now) := bx.cell 16
            have q_bx17 : wD.cell? ⟨w.heap.size, 17, none⟩ = some (.int .i64 n) := bx.cell 17
            have q_b30 : wD.cell? ⟨w1.heap.size, 0, none⟩ = some (.int .i64 u0) := b3.cell 0
            have q_b31 : wD.cell? ⟨w1.heap.size, 1, none⟩ = some (.int .i64 u1) := b3.cell 1
            have q_b32 : wD.cell? ⟨w1.heap.size, 2, none⟩ = some (.int .i64 u2) := b3.cell 2
            have q_b33 : wD.cell? ⟨w1.heap.size, 3, none⟩ = some (.int .i64 u3) := b3.cell 3
            have q_b34 : wD.cell? ⟨w1.heap.size, 4, none⟩ = some (.int .i64 u4) := b3.cell 4
            have q_b35 : wD.cell? ⟨w1.heap.size, 5, none⟩ = some (.int .i64 u5) := b3.cell 5
            have q_b36 : wD.cell? ⟨w1.heap.size, 6, none⟩ = some (.int .i64 u6) := b3.cell 6
            have l_bx : w.heap.size < wD.heap.size := bx.lt
            have l_b3 : w1.heap.size < wD.heap.size := b3.lt
            go_wp2_with fail
            refine (awake_any _).mono ?_
            rintro e w13 ⟨rfl, hb⟩
            clear q_bx0 q_bx1 q_bx2 q_bx3 q_bx4 q_bx5 q_bx6 q_bx7 q_bx8 q_bx9 q_bx10 q_bx11 q_bx12 q_bx13 q_bx14 q_bx15 q_bx16 q_bx17 q_b30 q_b31 q_b32 q_b33 q_b34 q_b35 q_b36 l_bx l_b3
            have bx : Blk w13 (w.heap.size) 30 #[.int .i64 sh, .int .i64 nx, .int .i64 fl, .int .i64 ac, .int .i64 fi, .int .i64 wa, .int .i64 li, .int .i64 p0, .int .i64 p1, .int .i64 p2, .int .i64 a, .int .i64 b, .int .i64 f, .int .i64 c, .int .i64 m, .slice A l.length ca, .int .i64 now, .int .i64 n] := (bx).on hb
            have b3 : Blk w13 (w1.heap.size) 23 #[.int .i64 u0, .int .i64 u1, .int .i64 u2, .int .i64 u3, .int .i64 u4, .int .i64 u5, .int .i64 u6] := (b3).on hb
            have hbz := hb.size
            have HB13 := Lib.hid ((HB12.out).trans (hb.mono (by first | exact Nat.le_refl _ | omega | (simp; done) | (simp; omega))))
            have hz13 : w.heap.size ≤ w13.heap.size := HB13.out.size
            clear hb hbz
            go_wp2_with fail
            go_ret
            exact ⟨rfl, HB13.out⟩
          · have hne : (E4 == 0) = false := beq_eq_false_iff_ne.2 he
            have hq := fail_err (s := ⟨sh, nx, fl, ac, fi, wa, li⟩) (r := ⟨a, b, f, c, m⟩) (now := now) (by rw [HR4.out]; exact he)
            rw [HR4.out] at hq
            simp only at hq
            subst hq
            have q_bx0 : wD.cell? ⟨w.heap.size, 0, none⟩ = some (.int .i64 sh) := bx.cell 0
            have q_bx1 : wD.cell? ⟨w.heap.size, 1, none⟩ = some (.int .i64 nx) := bx.cell 1
            have q_bx2 : wD.cell? ⟨w.heap.size, 2, none⟩ = some (.int .i64 fl) := bx.cell 2
            have q_bx3 : wD.cell? ⟨w.heap.size, 3, none⟩ = some (.int .i64 ac) := bx.cell 3
            have q_bx4 : wD.cell? ⟨w.heap.size, 4, none⟩ = some (.int .i64 fi) := bx.cell 4
            have q_bx5 : wD.cell? ⟨w.heap.size, 5, none⟩ = some (.int .i64 wa) := bx.cell 5
            have q_bx6 : wD.cell? ⟨w.heap.size, 6, none⟩ = some (.int .i64 li) := bx.cell 6
            have q_bx7 : wD.cell? ⟨w.heap.size, 7, none⟩ = some (.int .i64 p0) := bx.cell 7
            have q_bx8 : wD.cell? ⟨w.heap.size, 8, none⟩ = some (.int .i64 p1) := bx.cell 8
            have q_bx9 : wD.cell? ⟨w.heap.size, 9, none⟩ = some (.int .i64 p2) := bx.cell 9
            have q_bx10 : wD.cell? ⟨w.heap.size, 10, none⟩ = some (.int .i64 a) := bx.cell 10
            have q_bx11 : wD.cell? ⟨w.heap.size, 11, none⟩ = some (.int .i64 b) := bx.cell 11
            have q_bx12 : wD.cell? ⟨w.heap.size, 12, none⟩ = some (.int .i64 f) := bx.cell 12
            have q_bx13 : wD.cell? ⟨w.heap.size, 13, none⟩ = some (.int .i64 c) := bx.cell 13
            have q_bx14 : wD.cell? ⟨w.heap.size, 14, none⟩ = some (.int .i64 m) := bx.cell 14
            have q_bx15 : wD.cell? ⟨w.heap.size, 15, none⟩ = some (.slice A l.length ca) := bx.cell 15
            have q_bx16 : wD.cell? ⟨w.heap.size, 16, none⟩ = some (.int .i64 now) := bx.cell 16
            have q_bx17 : wD.cell? ⟨w.heap.size, 17, none⟩ = some (.int .i64 n) := bx.cell 17
            have q_b30 : wD.cell? ⟨w1.heap.size, 0, none⟩ = some (.int .i64 u0) := b3.cell 0
            have q_b31 : wD.cell? ⟨w1.heap.size, 1, none⟩ = some (.int .i64 u1) := b3.cell 1
            have q_b32 : wD.cell? ⟨w1.heap.size, 2, none⟩ = some (.int .i64 u2) := b3.cell 2
            have q_b33 : wD.cell? ⟨w1.heap.size, 3, none⟩ = some (.int .i64 u3) := b3.cell 3
            have q_b34 : wD.cell? ⟨w1.heap.size, 4, none⟩ = some (.int .i64 u4) := b3.cell 4
            have q_b35 : wD.cell? ⟨w1.heap.size, 5, none⟩ = some (.int .i64 u5) := b3.cell 5
            have q_b36 : wD.cell? ⟨w1.heap.size, 6, none⟩ = some (.int .i64 u6) := b3.cell 6
            have l_bx : w.heap.size < wD.heap.size := bx.lt
            have l_b3 : w1.heap.size < wD.heap.size := b3.lt
            go_wp2_with fail
            refine (awake_any _).mono ?_
            rintro e w13 ⟨rfl, hb⟩
            clear q_bx0 q_bx1 q_bx2 q_bx3 q_bx4 q_bx5 q_bx6 q_bx7 q_bx8 q_bx9 q_bx10 q_bx11 q_bx12 q_bx13 q_bx14 q_bx15 q_bx16 q_bx17 q_b30 q_b31 q_b32 q_b33 q_b34 q_b35 q_b36 l_bx l_b3
            have bx : Blk w13 (w.heap.size) 30 #[.int .i64 sh, .int .i64 nx, .int .i64 fl, .int .i64 ac, .int .i64 fi, .int .i64 wa, .int .i64 li, .int .i64 p0, .int .i64 p1, .int .i64 p2, .int .i64 a, .int .i64 b, .int .i64 f, .int .i64 c, .int .i64 m, .slice A l.length ca, .int .i64 now, .int .i64 n] := (bx).on hb
            have b3 : Blk w13 (w1.heap.size) 23 #[.int .i64 u0, .int .i64 u1, .int .i64 u2, .int .i64 u3, .int .i64 u4, .int .i64 u5, .int .i64 u6] := (b3).on hb
            have hbz := hb.size
            have HB13 := Lib.hid ((HB12.out).trans (hb.mono (by first | exact Nat.le_refl _ | omega | (simp; done) | (simp; omega))))
            have hz13 : w.heap.size ≤ w13.heap.size := HB13.out.size
            clear hb hbz
            go_wp2_with fail
            go_ret
            exact ⟨rfl, HB13.out⟩
end Go.Proofs.Ytojghgeemdpmpaa
