/- MappingPolls: walked. -/
import Derived.Test.YtojghgeemdpmpaaMCR
import Derived.Test.YtojghgeemdpmpaaMCO
namespace Go.Proofs.Ytojghgeemdpmpaa
open Go.RowKit
open Go.Sort (grow)
open BO (RP)

theorem lift_r (C : List Rec) : ∃ xs : List RecX, xs.map (·.r) = C := ⟨C.map fun r => ⟨r, none, 0⟩, by rw [List.map_map]; exact List.map_id _⟩
theorem cutR_flatten (m r : Int) (C : List Rec) : (cutR m r C).flatten = C := by
  obtain ⟨xs, rfl⟩ := lift_r C
  rw [← cutR_eq, ← List.map_flatten, cutS_flatten]
theorem headOf_pre (bs : List (List Rec)) : ∃ r, bs.flatten = headOf bs ++ r := by
  cases bs with
  | nil => exact ⟨[], rfl⟩
  | cons b r => exact ⟨r.flatten, rfl⟩
theorem pollB_pre (s : MS) (p : Pol) (l : List Rec) : ∃ r, cand s.nx s.li l = pollB s p l ++ r := by
  obtain ⟨r, h⟩ := headOf_pre (cutR p.size p.cells (cand s.nx s.li l))
  rw [cutR_flatten] at h
  exact ⟨r, h⟩
theorem poll_sub (s : MS) (p : Pol) (l : List Rec) (now : Int) : (pollS s p l now).2.1.Sublist l := by
  unfold pollS pollG
  split
  · split
    · exact List.nil_sublist _
    · split
      · obtain ⟨r, h⟩ := pollB_pre s p l
        exact ((List.sublist_append_left _ r).trans (by rw [← h]; exact List.Sublist.refl _)).trans (cand_sub _)
      · exact List.nil_sublist _
  · exact List.nil_sublist _
theorem blk_out (sh nx fl ac fi wa li now : Int) (W : World) (d : Nat) (os : Array Obj) : Calls Try.prog 10 #[.agg #[.int .i64 sh, .int .i64 nx, .int .i64 fl, .int .i64 ac, .int .i64 fi, .int .i64 wa, .int .i64 li], .int .i64 now] (grow (redrawn W d) os) fun e w' => e = .returned (.bool (blkB ⟨sh, nx, fl, ac, fi, wa, li⟩ now)) ∧ ∃ p : Regrown, w' = grow (redrawn W p.d) p.os :=
  Calls.regrown_of (Blocked_any sh nx fl ac fi wa li now _)
theorem rblk_out (sh nx fl ac fi wa li now : Int) (W : World) (d : Nat) (os : Array Obj) : Calls Try.prog 11 #[.agg #[.int .i64 sh, .int .i64 nx, .int .i64 fl, .int .i64 ac, .int .i64 fi, .int .i64 wa, .int .i64 li], .int .i64 now] (grow (redrawn W d) os) fun e w' => e = .returned (.bool (blkB ⟨sh, nx, fl, ac, fi, wa, li⟩ now)) ∧ ∃ p : Regrown, w' = grow (redrawn W p.d) p.os :=
  Calls.regrown_of (rBlocked_any sh nx fl ac fi wa li now _)
set_option maxHeartbeats 8000000 in
set_option maxRecDepth 100000 in
theorem law_polls (sh nx fl ac fi wa li p0 p1 p2 a b f c m now n : Int) (A : Option Addr) (ca : Nat) (l : List RecX) (w : World) (hl : RecsAt w w.heap.size A l) (hsb : okB l) (hn : l.length ≤ 1034834473170) : Calls Try.prog 3 #[.agg #[.int .i64 sh, .int .i64 nx, .int .i64 fl, .int .i64 ac, .int .i64 fi, .int .i64 wa, .int .i64 li, .int .i64 p0, .int .i64 p1, .int .i64 p2, .int .i64 a, .int .i64 b, .int .i64 f, .int .i64 c, .int .i64 m, .slice A l.length ca, .int .i64 now, .int .i64 n]] w fun e w' => e = .returned (.bool true) ∧ Below w.heap.size w w' := by
  have hn0 := Nat.le_refl w.heap.size
  have HL := Lib.hid hl
  clear hl
  go_enter Try.func3, Try.ntmps3
  go_wp2_with fail
  refine (Poll_any sh nx fl ac fi wa li p0 p1 p2 now A ca l _ ((HL.out.below ((Below.refl w.heap.size w).alloc (by first | exact Nat.le_refl _ | omega | (simp; done) | (simp; omega)) _)).more ((Below.refl w.heap.size w).alloc (by first | exact Nat.le_refl _ | omega | (simp; done) | (simp; omega)) _).size) hn hsb).mono ?_
  rintro e w1 ⟨A1, c1, b1, rfl, hr1, hm1, hb⟩
  have bx : Blk w1 (w.heap.size) 30 #[.int .i64 sh, .int .i64 nx, .int .i64 fl, .int .i64 ac, .int .i64 fi, .int .i64 wa, .int .i64 li, .int .i64 p0, .int .i64 p1, .int .i64 p2, .int .i64 a, .int .i64 b, .int .i64 f, .int .i64 c, .int .i64 m, .slice A l.length ca, .int .i64 now, .int .i64 n] := (Blk.new _ _ _).on hb
  have HB1 := Lib.hid ((((Below.refl w.heap.size w).alloc (by first | exact Nat.le_refl _ | omega | (simp; done) | (simp; omega)) _)).trans (hb.mono ((Below.refl w.heap.size w).alloc (by first | exact Nat.le_refl _ | omega | (simp; done) | (simp; omega)) _).size))
  have hz1 : w.heap.size ≤ w1.heap.size := HB1.out.size
  have o1 : w.heap.size < w1.heap.size := bx.lt
  clear hb
  have hs1 := poll_sub ⟨sh, nx, fl, ac, fi, wa, li⟩ ⟨p0, p1, p2⟩ (l.map (·.r)) now
  rw [← hm1] at hs1
  have hsb1 : okB b1 := okB_sub hs1 hsb
  have hln1 : b1.length ≤ 1034834473170 := by have := hs1.length_le; simp at this; omega
  generalize hX : pollS ⟨sh, nx, fl, ac, fi, wa, li⟩ ⟨p0, p1, p2⟩ (l.map (·.r)) now = X at *
  obtain ⟨⟨x0, x1, x2, x3, x4, x5, x6⟩, B, E⟩ := X
  have HX := Lib.hid hX
  have HR1 := Lib.hid hr1
  have HM1 := Lib.hid hm1
  clear hX hr1 hm1 hs1
  simp only [MS.cs]
  have q_bx0 : w1.cell? ⟨w.heap.size, 0, none⟩ = some (.int .i64 sh) := bx.cell 0
  have q_bx1 : w1.cell? ⟨w.heap.size, 1, none⟩ = some (.int .i64 nx) := bx.cell 1
  have q_bx2 : w1.cell? ⟨w.heap.size, 2, none⟩ = some (.int .i64 fl) := bx.cell 2
  have q_bx3 : w1.cell? ⟨w.heap.size, 3, none⟩ = some (.int .i64 ac) := bx.cell 3
  have q_bx4 : w1.cell? ⟨w.heap.size, 4, none⟩ = some (.int .i64 fi) := bx.cell 4
  have q_bx5 : w1.cell? ⟨w.heap.size, 5, none⟩ = some (.int .i64 wa) := bx.cell 5
  have q_bx6 : w1.cell? ⟨w.heap.size, 6, none⟩ = some (.int .i64 li) := bx.cell 6
  have q_bx7 : w1.cell? ⟨w.heap.size, 7, none⟩ = some (.int .i64 p0) := bx.cell 7
  have q_bx8 : w1.cell? ⟨w.heap.size, 8, none⟩ = some (.int .i64 p1) := bx.cell 8
  have q_bx9 : w1.cell? ⟨w.heap.size, 9, none⟩ = some (.int .i64 p2) := bx.cell 9
  have q_bx10 : w1.cell? ⟨w.heap.size, 10, none⟩ = some (.int .i64 a) := bx.cell 10
  have q_bx11 : w1.cell? ⟨w.heap.size, 11, none⟩ = some (.int .i64 b) := bx.cell 11
  have q_bx12 : w1.cell? ⟨w.heap.size, 12, none⟩ = some (.int .i64 f) := bx.cell 12
  have q_bx13 : w1.cell? ⟨w.heap.size, 13, none⟩ = some (.int .i64 c) := bx.cell 13
  have q_bx14 : w1.cell? ⟨w.heap.size, 14, none⟩ = some (.int .i64 m) := bx.cell 14
  have q_bx15 : w1.cell? ⟨w.heap.size, 15, none⟩ = some (.slice A l.length ca) := bx.cell 15
  have q_bx16 : w1.cell? ⟨w.heap.size, 16, none⟩ = some (.int .i64 now) := bx.cell 16
  have q_bx17 : w1.cell? ⟨w.heap.size, 17, none⟩ = some (.int .i64 n) := bx.cell 17
  have l_bx : w.heap.size < w1.heap.size := bx.lt
  have HR1 := Lib.hid (show RecsAt ((w1).alloc (.cells #[.int .i64 x0, .int .i64 x1, .int .i64 x2, .int .i64 x3, .int .i64 x4, .int .i64 x5, .int .i64 x6] 23)) ((w1).alloc (.cells #[.int .i64 x0, .int .i64 x1, .int .i64 x2, .int .i64 x3, .int .i64 x4, .int .i64 x5, .int .i64 x6] 23)).heap.size A1 b1 from (HR1.out.below (alP _)).more (alP _).size)
  go_wp2_with fail
  refine (rPoll_any sh nx fl ac fi wa li p0 p1 p2 now A ca l _ ((HL.out.below ((HB1.out).alloc (by first | exact Nat.le_refl _ | omega | (simp; done) | (simp; omega)) _)).more ((HB1.out).alloc (by first | exact Nat.le_refl _ | omega | (simp; done) | (simp; omega)) _).size) hn hsb).mono ?_
  rintro e w2 ⟨A2, c2, b2, rfl, hr2, hm2, hb⟩
  clear q_bx0 q_bx1 q_bx2 q_bx3 q_bx4 q_bx5 q_bx6 q_bx7 q_bx8 q_bx9 q_bx10 q_bx11 q_bx12 q_bx13 q_bx14 q_bx15 q_bx16 q_bx17 l_bx
  have bx : Blk w2 (w.heap.size) 30 #[.int .i64 sh, .int .i64 nx, .int .i64 fl, .int .i64 ac, .int .i64 fi, .int .i64 wa, .int .i64 li, .int .i64 p0, .int .i64 p1, .int .i64 p2, .int .i64 a, .int .i64 b, .int .i64 f, .int .i64 c, .int .i64 m, .slice A l.length ca, .int .i64 now, .int .i64 n] := ((bx).alloc _).on hb
  have b3 : Blk w2 (w1.heap.size) 23 #[.int .i64 x0, .int .i64 x1, .int .i64 x2, .int .i64 x3, .int .i64 x4, .int .i64 x5, .int .i64 x6] := (Blk.new _ _ _).on hb
  have HB2 := Lib.hid ((((HB1.out).alloc (by first | exact Nat.le_refl _ | omega | (simp; done) | (simp; omega)) _)).trans (hb.mono ((HB1.out).alloc (by first | exact Nat.le_refl _ | omega | (simp; done) | (simp; omega)) _).size))
  have hz2 : w.heap.size ≤ w2.heap.size := HB2.out.size
  rw [HX.out] at hm2
  rw [HX.out]
  simp only [MS.cs]
  have HR1b := Lib.hid ((HR1.out.below hb).more hb.size)
  have HR2 := Lib.hid hr2
  have HM := Lib.hid (HM1.out.trans hm2.symm)
  clear hb hr2 hm2 HR1
  have o2 : w1.heap.size < w2.heap.size := b3.lt
  have q_bx0 : w2.cell? ⟨w.heap.size, 0, none⟩ = some (.int .i64 sh) := bx.cell 0
  have q_bx1 : w2.cell? ⟨w.heap.size, 1, none⟩ = some (.int .i64 nx) := bx.cell 1
  have q_bx2 : w2.cell? ⟨w.heap.size, 2, none⟩ = some (.int .i64 fl) := bx.cell 2
  have q_bx3 : w2.cell? ⟨w.heap.size, 3, none⟩ = some (.int .i64 ac) := bx.cell 3
  have q_bx4 : w2.cell? ⟨w.heap.size, 4, none⟩ = some (.int .i64 fi) := bx.cell 4
  have q_bx5 : w2.cell? ⟨w.heap.size, 5, none⟩ = some (.int .i64 wa) := bx.cell 5
  have q_bx6 : w2.cell? ⟨w.heap.size, 6, none⟩ = some (.int .i64 li) := bx.cell 6
  have q_bx7 : w2.cell? ⟨w.heap.size, 7, none⟩ = some (.int .i64 p0) := bx.cell 7
  have q_bx8 : w2.cell? ⟨w.heap.size, 8, none⟩ = some (.int .i64 p1) := bx.cell 8
  have q_bx9 : w2.cell? ⟨w.heap.size, 9, none⟩ = some (.int .i64 p2) := bx.cell 9
  have q_bx10 : w2.cell? ⟨w.heap.size, 10, none⟩ = some (.int .i64 a) := bx.cell 10
  have q_bx11 : w2.cell? ⟨w.heap.size, 11, none⟩ = some (.int .i64 b) := bx.cell 11
  have q_bx12 : w2.cell? ⟨w.heap.size, 12, none⟩ = some (.int .i64 f) := bx.cell 12
  have q_bx13 : w2.cell? ⟨w.heap.size, 13, none⟩ = some (.int .i64 c) := bx.cell 13
  have q_bx14 : w2.cell? ⟨w.heap.size, 14, none⟩ = some (.int .i64 m) := bx.cell 14
  have q_bx15 : w2.cell? ⟨w.heap.size, 15, none⟩ = some (.slice A l.length ca) := bx.cell 15
  have q_bx16 : w2.cell? ⟨w.heap.size, 16, none⟩ = some (.int .i64 now) := bx.cell 16
  have q_bx17 : w2.cell? ⟨w.heap.size, 17, none⟩ = some (.int .i64 n) := bx.cell 17
  have q_b30 : w2.cell? ⟨w1.heap.size, 0, none⟩ = some (.int .i64 x0) := b3.cell 0
  have q_b31 : w2.cell? ⟨w1.heap.size, 1, none⟩ = some (.int .i64 x1) := b3.cell 1
  have q_b32 : w2.cell? ⟨w1.heap.size, 2, none⟩ = some (.int .i64 x2) := b3.cell 2
  have q_b33 : w2.cell? ⟨w1.heap.size, 3, none⟩ = some (.int .i64 x3) := b3.cell 3
  have q_b34 : w2.cell? ⟨w1.heap.size, 4, none⟩ = some (.int .i64 x4) := b3.cell 4
  have q_b35 : w2.cell? ⟨w1.heap.size, 5, none⟩ = some (.int .i64 x5) := b3.cell 5
  have q_b36 : w2.cell? ⟨w1.heap.size, 6, none⟩ = some (.int .i64 x6) := b3.cell 6
  have l_bx : w.heap.size < w2.heap.size := bx.lt
  have l_b3 : w1.heap.size < w2.heap.size := b3.lt
  go_wp2_with fail
  refine (Same_any b1 b2 A1 A2 c1 c2 _ ((HR1b.out.below (alP (.cells #[.int .i64 x0, .int .i64 x1, .int .i64 x2, .int .i64 x3, .int .i64 x4, .int .i64 x5, .int .i64 x6] 23))).more (alP (.cells #[.int .i64 x0, .int .i64 x1, .int .i64 x2, .int .i64 x3, .int .i64 x4, .int .i64 x5, .int .i64 x6] 23)).size) ((HR2.out.below (alP (.cells #[.int .i64 x0, .int .i64 x1, .int .i64 x2, .int .i64 x3, .int .i64 x4, .int .i64 x5, .int .i64 x6] 23))).more (alP (.cells #[.int .i64 x0, .int .i64 x1, .int .i64 x2, .int .i64 x3, .int .i64 x4, .int .i64 x5, .int .i64 x6] 23)).size) HM.out hsb1 hln1).mono ?_
  rintro e w3 ⟨rfl, hb⟩
  clear q_bx0 q_bx1 q_bx2 q_bx3 q_bx4 q_bx5 q_bx6 q_bx7 q_bx8 q_bx9 q_bx10 q_bx11 q_bx12 q_bx13 q_bx14 q_bx15 q_bx16 q_bx17 q_b30 q_b31 q_b32 q_b33 q_b34 q_b35 q_b36 l_bx l_b3
  have bx : Blk w3 (w.heap.size) 30 #[.int .i64 sh, .int .i64 nx, .int .i64 fl, .int .i64 ac, .int .i64 fi, .int .i64 wa, .int .i64 li, .int .i64 p0, .int .i64 p1, .int .i64 p2, .int .i64 a, .int .i64 b, .int .i64 f, .int .i64 c, .int .i64 m, .slice A l.length ca, .int .i64 now, .int .i64 n] := ((bx).alloc _).on hb
  have b3 : Blk w3 (w1.heap.size) 23 #[.int .i64 x0, .int .i64 x1, .int .i64 x2, .int .i64 x3, .int .i64 x4, .int .i64 x5, .int .i64 x6] := ((b3).alloc _).on hb
  have b5 : Blk w3 (w2.heap.size) 23 #[.int .i64 x0, .int .i64 x1, .int .i64 x2, .int .i64 x3, .int .i64 x4, .int .i64 x5, .int .i64 x6] := (Blk.new _ _ _).on hb
  have hbz := hb.size
  have HB3 := Lib.hid (((HB2.out).alloc (by first | exact Nat.le_refl _ | omega | (simp; done) | (simp; omega)) _).trans (hb.mono (by first | exact Nat.le_refl _ | omega | (simp; done) | (simp; omega))))
  have hz3 : w.heap.size ≤ w3.heap.size := HB3.out.size
  clear hb hbz
  clear HR1b HR2
  have q_bx0 : w3.cell? ⟨w.heap.size, 0, none⟩ = some (.int .i64 sh) := bx.cell 0
  have q_bx1 : w3.cell? ⟨w.heap.size, 1, none⟩ = some (.int .i64 nx) := bx.cell 1
  have q_bx2 : w3.cell? ⟨w.heap.size, 2, none⟩ = some (.int .i64 fl) := bx.cell 2
  have q_bx3 : w3.cell? ⟨w.heap.size, 3, none⟩ = some (.int .i64 ac) := bx.cell 3
  have q_bx4 : w3.cell? ⟨w.heap.size, 4, none⟩ = some (.int .i64 fi) := bx.cell 4
  have q_bx5 : w3.cell? ⟨w.heap.size, 5, none⟩ = some (.int .i64 wa) := bx.cell 5
  have q_bx6 : w3.cell? ⟨w.heap.size, 6, none⟩ = some (.int .i64 li) := bx.cell 6
  have q_bx7 : w3.cell? ⟨w.heap.size, 7, none⟩ = some (.int .i64 p0) := bx.cell 7
  have q_bx8 : w3.cell? ⟨w.heap.size, 8, none⟩ = some (.int .i64 p1) := bx.cell 8
  have q_bx9 : w3.cell? ⟨w.heap.size, 9, none⟩ = some (.int .i64 p2) := bx.cell 9
  have q_bx10 : w3.cell? ⟨w.heap.size, 10, none⟩ = some (.int .i64 a) := bx.cell 10
  have q_bx11 : w3.cell? ⟨w.heap.size, 11, none⟩ = some (.int .i64 b) := bx.cell 11
  have q_bx12 : w3.cell? ⟨w.heap.size, 12, none⟩ = some (.int .i64 f) := bx.cell 12
  have q_bx13 : w3.cell? ⟨w.heap.size, 13, none⟩ = some (.int .i64 c) := bx.cell 13
  have q_bx14 : w3.cell? ⟨w.heap.size, 14, none⟩ = some (.int .i64 m) := bx.cell 14
  have q_bx15 : w3.cell? ⟨w.heap.size, 15, none⟩ = some (.slice A l.length ca) := bx.cell 15
  have q_bx16 : w3.cell? ⟨w.heap.size, 16, none⟩ = some (.int .i64 now) := bx.cell 16
  have q_bx17 : w3.cell? ⟨w.heap.size, 17, none⟩ = some (.int .i64 n) := bx.cell 17
  have q_b30 : w3.cell? ⟨w1.heap.size, 0, none⟩ = some (.int .i64 x0) := b3.cell 0
  have q_b31 : w3.cell? ⟨w1.heap.size, 1, none⟩ = some (.int .i64 x1) := b3.cell 1
  have q_b32 : w3.cell? ⟨w1.heap.size, 2, none⟩ = some (.int .i64 x2) := b3.cell 2
  have q_b33 : w3.cell? ⟨w1.heap.size, 3, none⟩ = some (.int .i64 x3) := b3.cell 3
  have q_b34 : w3.cell? ⟨w1.heap.size, 4, none⟩ = some (.int .i64 x4) := b3.cell 4
  have q_b35 : w3.cell? ⟨w1.heap.size, 5, none⟩ = some (.int .i64 x5) := b3.cell 5
  have q_b36 : w3.cell? ⟨w1.heap.size, 6, none⟩ = some (.int .i64 x6) := b3.cell 6
  have q_b50 : w3.cell? ⟨w2.heap.size, 0, none⟩ = some (.int .i64 x0) := b5.cell 0
  have q_b51 : w3.cell? ⟨w2.heap.size, 1, none⟩ = some (.int .i64 x1) := b5.cell 1
  have q_b52 : w3.cell? ⟨w2.heap.size, 2, none⟩ = some (.int .i64 x2) := b5.cell 2
  have q_b53 : w3.cell? ⟨w2.heap.size, 3, none⟩ = some (.int .i64 x3) := b5.cell 3
  have q_b54 : w3.cell? ⟨w2.heap.size, 4, none⟩ = some (.int .i64 x4) := b5.cell 4
  have q_b55 : w3.cell? ⟨w2.heap.size, 5, none⟩ = some (.int .i64 x5) := b5.cell 5
  have q_b56 : w3.cell? ⟨w2.heap.size, 6, none⟩ = some (.int .i64 x6) := b5.cell 6
  have l_bx : w.heap.size < w3.heap.size := bx.lt
  have l_b3 : w1.heap.size < w3.heap.size := b3.lt
  have l_b5 : w2.heap.size < w3.heap.size := b5.lt
  go_wp2_with fail
  clear q_bx0 q_bx1 q_bx2 q_bx3 q_bx4 q_bx5 q_bx6 q_bx7 q_bx8 q_bx9 q_bx10 q_bx11 q_bx12 q_bx13 q_bx14 q_bx15 q_bx16 q_bx17 q_b30 q_b31 q_b32 q_b33 q_b34 q_b35 q_b36 q_b50 q_b51 q_b52 q_b53 q_b54 q_b55 q_b56 l_bx l_b3 l_b5
  have r_bx0 := fun d os => cell_regrown (v := .int .i64 sh) (bx.cell 0) d os
  have r_bx1 := fun d os => cell_regrown (v := .int .i64 nx) (bx.cell 1) d os
  have r_bx2 := fun d os => cell_regrown (v := .int .i64 fl) (bx.cell 2) d os
  have r_bx3 := fun d os => cell_regrown (v := .int .i64 ac) (bx.cell 3) d os
  have r_bx4 := fun d os => cell_regrown (v := .int .i64 fi) (bx.cell 4) d os
  have r_bx5 := fun d os => cell_regrown (v := .int .i64 wa) (bx.cell 5) d os
  have r_bx6 := fun d os => cell_regrown (v := .int .i64 li) (bx.cell 6) d os
  have r_bx7 := fun d os => cell_regrown (v := .int .i64 p0) (bx.cell 7) d os
  have r_bx8 := fun d os => cell_regrown (v := .int .i64 p1) (bx.cell 8) d os
  have r_bx9 := fun d os => cell_regrown (v := .int .i64 p2) (bx.cell 9) d os
  have r_bx10 := fun d os => cell_regrown (v := .int .i64 a) (bx.cell 10) d os
  have r_bx11 := fun d os => cell_regrown (v := .int .i64 b) (bx.cell 11) d os
  have r_bx12 := fun d os => cell_regrown (v := .int .i64 f) (bx.cell 12) d os
  have r_bx13 := fun d os => cell_regrown (v := .int .i64 c) (bx.cell 13) d os
  have r_bx14 := fun d os => cell_regrown (v := .int .i64 m) (bx.cell 14) d os
  have r_bx15 := fun d os => cell_regrown (v := .slice A l.length ca) (bx.cell 15) d os
  have r_bx16 := fun d os => cell_regrown (v := .int .i64 now) (bx.cell 16) d os
  have r_bx17 := fun d os => cell_regrown (v := .int .i64 n) (bx.cell 17) d os
  have g1 : (blkB ⟨sh, nx, fl, ac, fi, wa, li⟩ now == blkB ⟨sh, nx, fl, ac, fi, wa, li⟩ now) = true := beq_self_eq_true _
  have g2 : (MS.e ⟨sh, nx, fl, ac, fi, wa, li⟩ == MS.e ⟨sh, nx, fl, ac, fi, wa, li⟩) = true := beq_self_eq_true _
  refine wp_region_quiet_below (by kernel_rfl) (by kernel_rfl) ?_
  repeat (go_big_quiet_step (first | (go_at_call 10; go_must (exact blk_out sh nx fl ac fi wa li now w3 _ _)) | (go_at_call 11; go_must (exact rblk_out sh nx fl ac fi wa li now w3 _ _)) | (go_at_call 12; go_must (exact Calls.regrown_of (MCheck_lit sh nx fl ac fi wa li _))) | (go_at_call 13; go_must (exact Calls.regrown_of (rMCheck_lit sh nx fl ac fi wa li _))) | (go_at_call 14; go_must (exact Calls.regrown_of (awake_any _)))))
  refine wpQuiet_nil ?_
  intro _ hw'
  obtain ⟨⟨dq, osq⟩, hw''⟩ := hw'
  subst hw''
  have hb := below_regrown w3 dq osq
  have bx : Blk (Go.Sort.grow (redrawn w3 dq) osq) (w.heap.size) 30 #[.int .i64 sh, .int .i64 nx, .int .i64 fl, .int .i64 ac, .int .i64 fi, .int .i64 wa, .int .i64 li, .int .i64 p0, .int .i64 p1, .int .i64 p2, .int .i64 a, .int .i64 b, .int .i64 f, .int .i64 c, .int .i64 m, .slice A l.length ca, .int .i64 now, .int .i64 n] := bx.on hb
  have b3 : Blk (Go.Sort.grow (redrawn w3 dq) osq) (w1.heap.size) 23 #[.int .i64 x0, .int .i64 x1, .int .i64 x2, .int .i64 x3, .int .i64 x4, .int .i64 x5, .int .i64 x6] := b3.on hb
  have b5 : Blk (Go.Sort.grow (redrawn w3 dq) osq) (w2.heap.size) 23 #[.int .i64 x0, .int .i64 x1, .int .i64 x2, .int .i64 x3, .int .i64 x4, .int .i64 x5, .int .i64 x6] := b5.on hb
  have HB4 := Lib.hid ((HB3.out).trans (hb.mono (by first | exact Nat.le_refl _ | omega | (simp; done) | (simp; omega))))
  clear hb r_bx0 r_bx1 r_bx2 r_bx3 r_bx4 r_bx5 r_bx6 r_bx7 r_bx8 r_bx9 r_bx10 r_bx11 r_bx12 r_bx13 r_bx14 r_bx15 r_bx16 r_bx17
  generalize Go.Sort.grow (redrawn w3 dq) osq = w4 at *
  have hz4 : w.heap.size ≤ w4.heap.size := HB4.out.size
  go_wp2_with fail
  go_ret
  exact ⟨rfl, HB4.out⟩
end Go.Proofs.Ytojghgeemdpmpaa
