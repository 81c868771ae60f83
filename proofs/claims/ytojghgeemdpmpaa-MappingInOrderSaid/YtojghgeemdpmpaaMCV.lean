/- MappingInOrder: walked. -/
import Derived.Test.YtojghgeemdpmpaaMCU
import Derived.Deep.LoopGhost
namespace Go.Proofs.Ytojghgeemdpmpaa
open Go.RowKit
open Go.Sort (grow)
open BO (RP)

structure OrdW (F : Int) (C : Nat) (w2 : World) (nx now : Int) (wr : World) : Prop where
  low : Below w2.heap.size w2 wr
  ex : ∃ s : MS, OrdInv F C s nx now ∧ Blk wr w2.heap.size 23 s.cs
theorem ss_get {w : World} {B : Nat} {A : Option Addr} {ss : List Int} (h : Reads w B 1 A ss.length (ss.map fun v => .int .u8 v)) {k : Nat} (hk : k < ss.length) : ∃ b o, A = some ⟨b, o, none⟩ ∧ b < B ∧ w.cell? ⟨b, o + k, none⟩ = some (.int .u8 ss[k]) := by
  obtain ⟨b, o, e, hb, hc⟩ := h.2 (by omega)
  exact ⟨b, o, e, hb, hc k _ (by simp [hk])⟩
theorem alV {w : World} (o : Obj) : Below w.heap.size w (w.alloc o) := (Below.refl _ _).alloc (Nat.le_refl _) _
theorem blk_n {s : MS} {n : Int} (h : s.fl = 0) (h2 : s.wa ≤ n) : blkB s n = false := by
  unfold blkB
  rw [h, decide_eq_false (by omega : ¬ n < s.wa)]
  simp
theorem blk_f {s : MS} {n : Int} (h : s.e = 0) (h2 : s.fl ≠ 0) : blkB s n = true := by
  unfold blkB
  rw [h, bne_iff_ne.2 h2]
  rfl
theorem recs_sum (F : Int) (C : Nat) (h : C ≤ 1000) : ((recsR F C).map fun x => x.body.length).sum ≤ 1000000 := by
  have : ((recsR F C).map fun x => x.body.length).sum = C := by
    induction C with
    | zero => rfl
    | succ n ih => rw [recsR_snoc, List.map_append, List.sum_append, ih (by omega)]; rfl
  omega
set_option maxHeartbeats 16000000 in
set_option maxRecDepth 100000 in
theorem law_order (p0 p1 p2 a b f c m F : Int) (C : Nat) (Sa : Option Addr) (sc : Nat) (ss : List Int) (w : World) (hF0 : 0 ≤ F) (hF1 : F ≤ 65535) (hC : C ≤ 255) (hs : Reads w w.heap.size 1 Sa ss.length (ss.map fun v => .int .u8 v)) (hss : ∀ v ∈ ss, 0 ≤ v ∧ v ≤ 255) (hsn : ss.length ≤ maxLen) : Calls Try.prog 5 #[.agg #[.int .i64 p0, .int .i64 p1, .int .i64 p2, .int .i64 a, .int .i64 b, .int .i64 f, .int .i64 c, .int .i64 m, .int .u8 C, .int .u16 F, .slice Sa ss.length sc]] w fun e w' => e = .returned (.bool true) ∧ Below w.heap.size w w' := by
  unfold maxLen at hsn
  have hn0 := Nat.le_refl w.heap.size
  have HS := Lib.hid hs
  have HSV := Lib.hid hss
  clear hs hss
  go_enter Try.func5, Try.ntmps5
  go_wp2_with fail
  refine (records_any' F C _ ⟨hF0, by omega⟩ (by omega)).mono ?_
  rintro e w1 ⟨A, ca, l, rfl, hl, hlm, hb⟩
  have bx : Blk w1 (w.heap.size) 48 #[.int .i64 p0, .int .i64 p1, .int .i64 p2, .int .i64 a, .int .i64 b, .int .i64 f, .int .i64 c, .int .i64 m, .int .u8 C, .int .u16 F, .slice Sa ss.length sc] := (Blk.new _ _ _).on hb
  have HB1 := Lib.hid ((((Below.refl w.heap.size w).alloc (by first | exact Nat.le_refl _ | omega | (simp; done) | (simp; omega)) _)).trans (hb.mono ((Below.refl w.heap.size w).alloc (by first | exact Nat.le_refl _ | omega | (simp; done) | (simp; omega)) _).size))
  have hz1 : w.heap.size ≤ w1.heap.size := HB1.out.size
  clear hb
  have HLM := Lib.hid hlm
  have HL := Lib.hid hl
  have hlC : l.length = C := aw_len hlm
  have HSB := Lib.hid (show sumBody l ≤ 1000000 from by rw [sumBody_r, hlm]; exact recs_sum F C (by omega))
  have HLC := Lib.hid hlC
  have hl256 : l.length ≤ 255 := by omega
  clear hlm hl hlC
  have q_bx0 : w1.cell? ⟨w.heap.size, 0, none⟩ = some (.int .i64 p0) := bx.cell 0
  have q_bx1 : w1.cell? ⟨w.heap.size, 1, none⟩ = some (.int .i64 p1) := bx.cell 1
  have q_bx2 : w1.cell? ⟨w.heap.size, 2, none⟩ = some (.int .i64 p2) := bx.cell 2
  have q_bx3 : w1.cell? ⟨w.heap.size, 3, none⟩ = some (.int .i64 a) := bx.cell 3
  have q_bx4 : w1.cell? ⟨w.heap.size, 4, none⟩ = some (.int .i64 b) := bx.cell 4
  have q_bx5 : w1.cell? ⟨w.heap.size, 5, none⟩ = some (.int .i64 f) := bx.cell 5
  have q_bx6 : w1.cell? ⟨w.heap.size, 6, none⟩ = some (.int .i64 c) := bx.cell 6
  have q_bx7 : w1.cell? ⟨w.heap.size, 7, none⟩ = some (.int .i64 m) := bx.cell 7
  have q_bx8 : w1.cell? ⟨w.heap.size, 8, none⟩ = some (.int .u8 C) := bx.cell 8
  have q_bx9 : w1.cell? ⟨w.heap.size, 9, none⟩ = some (.int .u16 F) := bx.cell 9
  have q_bx10 : w1.cell? ⟨w.heap.size, 10, none⟩ = some (.slice Sa ss.length sc) := bx.cell 10
  have l_bx : w.heap.size < w1.heap.size := bx.lt
  go_wp2_with fail
  refine (Start_any 0 0 _).mono ?_
  rintro e w2 ⟨rfl, hb⟩
  clear q_bx0 q_bx1 q_bx2 q_bx3 q_bx4 q_bx5 q_bx6 q_bx7 q_bx8 q_bx9 q_bx10 l_bx
  have bx : Blk w2 (w.heap.size) 48 #[.int .i64 p0, .int .i64 p1, .int .i64 p2, .int .i64 a, .int .i64 b, .int .i64 f, .int .i64 c, .int .i64 m, .int .u8 C, .int .u16 F, .slice Sa ss.length sc] := bx.on hb
  have HB2 := Lib.hid (HB1.out.trans (hb.mono HB1.out.size))
  have HL2 := Lib.hid ((HL.out.below hb).more hb.size)
  have HS2 := Lib.hid ((HS.out.below HB2.out).more HB2.out.size)
  have hz2 : w.heap.size ≤ w2.heap.size := HB2.out.size
  clear hb HL HS
  rw [aws]
  simp only [MR, MS.cs]
  have q_bx0 : w2.cell? ⟨w.heap.size, 0, none⟩ = some (.int .i64 p0) := bx.cell 0
  have q_bx1 : w2.cell? ⟨w.heap.size, 1, none⟩ = some (.int .i64 p1) := bx.cell 1
  have q_bx2 : w2.cell? ⟨w.heap.size, 2, none⟩ = some (.int .i64 p2) := bx.cell 2
  have q_bx3 : w2.cell? ⟨w.heap.size, 3, none⟩ = some (.int .i64 a) := bx.cell 3
  have q_bx4 : w2.cell? ⟨w.heap.size, 4, none⟩ = some (.int .i64 b) := bx.cell 4
  have q_bx5 : w2.cell? ⟨w.heap.size, 5, none⟩ = some (.int .i64 f) := bx.cell 5
  have q_bx6 : w2.cell? ⟨w.heap.size, 6, none⟩ = some (.int .i64 c) := bx.cell 6
  have q_bx7 : w2.cell? ⟨w.heap.size, 7, none⟩ = some (.int .i64 m) := bx.cell 7
  have q_bx8 : w2.cell? ⟨w.heap.size, 8, none⟩ = some (.int .u8 C) := bx.cell 8
  have q_bx9 : w2.cell? ⟨w.heap.size, 9, none⟩ = some (.int .u16 F) := bx.cell 9
  have q_bx10 : w2.cell? ⟨w.heap.size, 10, none⟩ = some (.slice Sa ss.length sc) := bx.cell 10
  have l_bx : w.heap.size < w2.heap.size := bx.lt
  by_cases h300 : 300 < ss.length
  · go_wp2_with fail
    refine (awake_any _).mono ?_
    rintro e w3 ⟨rfl, hb⟩
    clear q_bx0 q_bx1 q_bx2 q_bx3 q_bx4 q_bx5 q_bx6 q_bx7 q_bx8 q_bx9 q_bx10 l_bx
    have bx : Blk w3 (w.heap.size) 48 #[.int .i64 p0, .int .i64 p1, .int .i64 p2, .int .i64 a, .int .i64 b, .int .i64 f, .int .i64 c, .int .i64 m, .int .u8 C, .int .u16 F, .slice Sa ss.length sc] := ((bx).alloc _).on hb
    have bs : Blk w3 (w2.heap.size) 23 #[.int .i64 0, .int .i64 0, .int .i64 0, .int .i64 0, .int .i64 0, .int .i64 0, .int .i64 0] := (Blk.new _ _ _).on hb
    have hbz := hb.size
    have HB3 := Lib.hid (((HB2.out).alloc (by first | exact Nat.le_refl _ | omega | (simp; done) | (simp; omega)) _).trans (hb.mono (by first | exact Nat.le_refl _ | omega | (simp; done) | (simp; omega))))
    have hz3 : w.heap.size ≤ w3.heap.size := HB3.out.size
    clear hb hbz
    go_wp2_with fail
    go_ret
    exact ⟨rfl, HB3.out⟩
  have HBX2 := Lib.hid bx
  have HW2 := HB2
  have hxl : w.heap.size < w2.heap.size := bx.lt
  go_wp2_with fail
  clear q_bx0 q_bx1 q_bx2 q_bx3 q_bx4 q_bx5 q_bx6 q_bx7 q_bx8 q_bx9 q_bx10 l_bx
  go_loopw [7, 8, 9, 10, 11, 12, 13, 14, 15, 16, 17, 18, 19, 20, 21] (fun u7 u8 u9 _ _ _ _ _ _ _ _ _ _ _ _ wr => ∃ (k : Nat) (nx now : Int), k ≤ ss.length ∧ u9 = .int .i64 k ∧ u7 = .int .i64 nx ∧ u8 = .int .i64 now ∧ OrdW F C w2 nx now wr) (fun _ _ u9 _ _ _ _ _ _ _ _ _ _ _ _ _ => ss.length - (intOf u9).toNat)
  case atStart => exact ⟨0, F, 0, Nat.zero_le _, rfl, rfl, rfl, ⟨(Below.refl _ _).alloc (Nat.le_refl _) _, ⟨0, 0, 0, 0, 0, 0, 0⟩, OrdInv.start F C, Blk.new _ _ _⟩⟩
  case round =>
    obtain ⟨k, nx, now, hk, rfl, rfl, rfl, hlow, ⟨sh, nxs, fl, ac, fi, wa, li⟩, hI, hB⟩ := hrel
    have hzr : w2.heap.size ≤ wr.heap.size := hlow.size
    have HLOW := Lib.hid hlow
    have HI := Lib.hid hI
    have bs : Blk wr w2.heap.size 23 #[.int .i64 sh, .int .i64 nxs, .int .i64 fl, .int .i64 ac, .int .i64 fi, .int .i64 wa, .int .i64 li] := hB
    have bx : Blk wr w.heap.size 48 #[.int .i64 p0, .int .i64 p1, .int .i64 p2, .int .i64 a, .int .i64 b, .int .i64 f, .int .i64 c, .int .i64 m, .int .u8 C, .int .u16 F, .slice Sa ss.length sc] := HBX2.out.below hlow hxl
    have hnx0 : F ≤ nx := hI.lo
    have hnx1 : nx ≤ F + C := hI.hi
    have hnow0 : 0 ≤ now := hI.nw
    have hwa : 0 ≤ wa ∧ wa ≤ 2147483648 := ⟨(MS.ok_iff.1 hI.e).1.2.2.2.2.2.2.2.2.2.2.2.2.1, (MS.ok_iff.1 hI.e).1.2.2.2.2.2.2.2.2.2.2.2.2.2⟩
    clear hlow hI hB
    have hoo : w.heap.size < wr.heap.size := by omega
    have hxlz : w.heap.size ≤ w2.heap.size := by omega
    by_cases hlt : k < ss.length
    rotate_left
    · have hki : ¬ (k : Int) < ss.length := by omega
      have q_bx0 : wr.cell? ⟨w.heap.size, 0, none⟩ = some (.int .i64 p0) := bx.cell 0
      have q_bx1 : wr.cell? ⟨w.heap.size, 1, none⟩ = some (.int .i64 p1) := bx.cell 1
      have q_bx2 : wr.cell? ⟨w.heap.size, 2, none⟩ = some (.int .i64 p2) := bx.cell 2
      have q_bx3 : wr.cell? ⟨w.heap.size, 3, none⟩ = some (.int .i64 a) := bx.cell 3
      have q_bx4 : wr.cell? ⟨w.heap.size, 4, none⟩ = some (.int .i64 b) := bx.cell 4
      have q_bx5 : wr.cell? ⟨w.heap.size, 5, none⟩ = some (.int .i64 f) := bx.cell 5
      have q_bx6 : wr.cell? ⟨w.heap.size, 6, none⟩ = some (.int .i64 c) := bx.cell 6
      have q_bx7 : wr.cell? ⟨w.heap.size, 7, none⟩ = some (.int .i64 m) := bx.cell 7
      have q_bx8 : wr.cell? ⟨w.heap.size, 8, none⟩ = some (.int .u8 C) := bx.cell 8
      have q_bx9 : wr.cell? ⟨w.heap.size, 9, none⟩ = some (.int .u16 F) := bx.cell 9
      have q_bx10 : wr.cell? ⟨w.heap.size, 10, none⟩ = some (.slice Sa ss.length sc) := bx.cell 10
      have q_bs0 : wr.cell? ⟨w2.heap.size, 0, none⟩ = some (.int .i64 sh) := bs.cell 0
      have q_bs1 : wr.cell? ⟨w2.heap.size, 1, none⟩ = some (.int .i64 nxs) := bs.cell 1
      have q_bs2 : wr.cell? ⟨w2.heap.size, 2, none⟩ = some (.int .i64 fl) := bs.cell 2
      have q_bs3 : wr.cell? ⟨w2.heap.size, 3, none⟩ = some (.int .i64 ac) := bs.cell 3
      have q_bs4 : wr.cell? ⟨w2.heap.size, 4, none⟩ = some (.int .i64 fi) := bs.cell 4
      have q_bs5 : wr.cell? ⟨w2.heap.size, 5, none⟩ = some (.int .i64 wa) := bs.cell 5
      have q_bs6 : wr.cell? ⟨w2.heap.size, 6, none⟩ = some (.int .i64 li) := bs.cell 6
      have l_bx : w.heap.size < wr.heap.size := bx.lt
      have l_bs : w2.heap.size < wr.heap.size := bs.lt
      go_wp2_with fail
      refine (awake_any _).mono ?_
      rintro e w11 ⟨rfl, hb⟩
      clear q_bx0 q_bx1 q_bx2 q_bx3 q_bx4 q_bx5 q_bx6 q_bx7 q_bx8 q_bx9 q_bx10 q_bs0 q_bs1 q_bs2 q_bs3 q_bs4 q_bs5 q_bs6 l_bx l_bs
      have bx : Blk w11 (w.heap.size) 48 #[.int .i64 p0, .int .i64 p1, .int .i64 p2, .int .i64 a, .int .i64 b, .int .i64 f, .int .i64 c, .int .i64 m, .int .u8 C, .int .u16 F, .slice Sa ss.length sc] := (bx).on hb
      have bs : Blk w11 (w2.heap.size) 23 #[.int .i64 sh, .int .i64 nxs, .int .i64 fl, .int .i64 ac, .int .i64 fi, .int .i64 wa, .int .i64 li] := (bs).on hb
      have hbz := hb.size
      have HB11 := Lib.hid ((HLOW.out).trans (hb.mono (by first | exact Nat.le_refl _ | omega | (simp; done) | (simp; omega))))
      have hz11 : w2.heap.size ≤ w11.heap.size := HB11.out.size
      clear hb hbz
      go_wp2_with fail
      go_ret
      exact ⟨rfl, (HW2.out.trans (HB11.out.mono hxlz))⟩
    have hki : (k : Int) < ss.length := by omega
    obtain ⟨sb, so, rfl, hsb, hsc⟩ := ss_get HS2.out hlt
    obtain ⟨hv0, hv1⟩ := HSV.out _ (List.getElem_mem hlt)
    generalize ss[k] = v at *
    obtain ⟨N, hN⟩ : ∃ N, N = (if now < wa then wa else now) := ⟨_, rfl⟩
    have hm : (if now < wa then wa else now) = N := hN.symm
    have hN1 : now ≤ N := by rw [hN]; split <;> omega
    have hN2 : wa ≤ N := by rw [hN]; split <;> omega
    have hN3 : N ≤ 2147483648 ∨ N = now := by rw [hN]; split <;> omega
    have HSC := Lib.hid hsc
    clear hN hsc
    by_cases hT : 1073741824 < N
    · have g0 : decide (1073741824 < N) = true := decide_eq_true hT
      have q_bx0 : wr.cell? ⟨w.heap.size, 0, none⟩ = some (.int .i64 p0) := bx.cell 0
      have q_bx1 : wr.cell? ⟨w.heap.size, 1, none⟩ = some (.int .i64 p1) := bx.cell 1
      have q_bx2 : wr.cell? ⟨w.heap.size, 2, none⟩ = some (.int .i64 p2) := bx.cell 2
      have q_bx3 : wr.cell? ⟨w.heap.size, 3, none⟩ = some (.int .i64 a) := bx.cell 3
      have q_bx4 : wr.cell? ⟨w.heap.size, 4, none⟩ = some (.int .i64 b) := bx.cell 4
      have q_bx5 : wr.cell? ⟨w.heap.size, 5, none⟩ = some (.int .i64 f) := bx.cell 5
      have q_bx6 : wr.cell? ⟨w.heap.size, 6, none⟩ = some (.int .i64 c) := bx.cell 6
      have q_bx7 : wr.cell? ⟨w.heap.size, 7, none⟩ = some (.int .i64 m) := bx.cell 7
      have q_bx8 : wr.cell? ⟨w.heap.size, 8, none⟩ = some (.int .u8 C) := bx.cell 8
      have q_bx9 : wr.cell? ⟨w.heap.size, 9, none⟩ = some (.int .u16 F) := bx.cell 9
      have q_bx10 : wr.cell? ⟨w.heap.size, 10, none⟩ = some (.slice (some ⟨sb, so, none⟩) ss.length sc) := bx.cell 10
      have q_bs0 : wr.cell? ⟨w2.heap.size, 0, none⟩ = some (.int .i64 sh) := bs.cell 0
      have q_bs1 : wr.cell? ⟨w2.heap.size, 1, none⟩ = some (.int .i64 nxs) := bs.cell 1
      have q_bs2 : wr.cell? ⟨w2.heap.size, 2, none⟩ = some (.int .i64 fl) := bs.cell 2
      have q_bs3 : wr.cell? ⟨w2.heap.size, 3, none⟩ = some (.int .i64 ac) := bs.cell 3
      have q_bs4 : wr.cell? ⟨w2.heap.size, 4, none⟩ = some (.int .i64 fi) := bs.cell 4
      have q_bs5 : wr.cell? ⟨w2.heap.size, 5, none⟩ = some (.int .i64 wa) := bs.cell 5
      have q_bs6 : wr.cell? ⟨w2.heap.size, 6, none⟩ = some (.int .i64 li) := bs.cell 6
      have l_bx : w.heap.size < wr.heap.size := bx.lt
      have l_bs : w2.heap.size < wr.heap.size := bs.lt
      go_wp2_with fail
      refine (awake_any _).mono ?_
      rintro e w11 ⟨rfl, hb⟩
      clear q_bx0 q_bx1 q_bx2 q_bx3 q_bx4 q_bx5 q_bx6 q_bx7 q_bx8 q_bx9 q_bx10 q_bs0 q_bs1 q_bs2 q_bs3 q_bs4 q_bs5 q_bs6 l_bx l_bs
      have bx : Blk w11 (w.heap.size) 48 #[.int .i64 p0, .int .i64 p1, .int .i64 p2, .int .i64 a, .int .i64 b, .int .i64 f, .int .i64 c, .int .i64 m, .int .u8 C, .int .u16 F, .slice (some ⟨sb, so, none⟩) ss.length sc] := (bx).on hb
      have bs : Blk w11 (w2.heap.size) 23 #[.int .i64 sh, .int .i64 nxs, .int .i64 fl, .int .i64 ac, .int .i64 fi, .int .i64 wa, .int .i64 li] := (bs).on hb
      have hbz := hb.size
      have HB11 := Lib.hid ((HLOW.out).trans (hb.mono (by first | exact Nat.le_refl _ | omega | (simp; done) | (simp; omega))))
      have hz11 : w2.heap.size ≤ w11.heap.size := HB11.out.size
      clear hb hbz
      go_wp2_with fail
      go_ret
      exact ⟨rfl, (HW2.out.trans (HB11.out.mono hxlz))⟩
    have hNb : 0 ≤ N ∧ N ≤ 1073741824 := by omega
    have g00 : decide (1073741824 < N) = false := decide_eq_false hT
    have hbk : blkB ⟨sh, nxs, fl, ac, fi, wa, li⟩ N = false := blk_n HI.out.fl hN2
    have q_bx0 : wr.cell? ⟨w.heap.size, 0, none⟩ = some (.int .i64 p0) := bx.cell 0
    have q_bx1 : wr.cell? ⟨w.heap.size, 1, none⟩ = some (.int .i64 p1) := bx.cell 1
    have q_bx2 : wr.cell? ⟨w.heap.size, 2, none⟩ = some (.int .i64 p2) := bx.cell 2
    have q_bx3 : wr.cell? ⟨w.heap.size, 3, none⟩ = some (.int .i64 a) := bx.cell 3
    have q_bx4 : wr.cell? ⟨w.heap.size, 4, none⟩ = some (.int .i64 b) := bx.cell 4
    have q_bx5 : wr.cell? ⟨w.heap.size, 5, none⟩ = some (.int .i64 f) := bx.cell 5
    have q_bx6 : wr.cell? ⟨w.heap.size, 6, none⟩ = some (.int .i64 c) := bx.cell 6
    have q_bx7 : wr.cell? ⟨w.heap.size, 7, none⟩ = some (.int .i64 m) := bx.cell 7
    have q_bx8 : wr.cell? ⟨w.heap.size, 8, none⟩ = some (.int .u8 C) := bx.cell 8
    have q_bx9 : wr.cell? ⟨w.heap.size, 9, none⟩ = some (.int .u16 F) := bx.cell 9
    have q_bx10 : wr.cell? ⟨w.heap.size, 10, none⟩ = some (.slice (some ⟨sb, so, none⟩) ss.length sc) := bx.cell 10
    have q_bs0 : wr.cell? ⟨w2.heap.size, 0, none⟩ = some (.int .i64 sh) := bs.cell 0
    have q_bs1 : wr.cell? ⟨w2.heap.size, 1, none⟩ = some (.int .i64 nxs) := bs.cell 1
    have q_bs2 : wr.cell? ⟨w2.heap.size, 2, none⟩ = some (.int .i64 fl) := bs.cell 2
    have q_bs3 : wr.cell? ⟨w2.heap.size, 3, none⟩ = some (.int .i64 ac) := bs.cell 3
    have q_bs4 : wr.cell? ⟨w2.heap.size, 4, none⟩ = some (.int .i64 fi) := bs.cell 4
    have q_bs5 : wr.cell? ⟨w2.heap.size, 5, none⟩ = some (.int .i64 wa) := bs.cell 5
    have q_bs6 : wr.cell? ⟨w2.heap.size, 6, none⟩ = some (.int .i64 li) := bs.cell 6
    have l_bx : w.heap.size < wr.heap.size := bx.lt
    have l_bs : w2.heap.size < wr.heap.size := bs.lt
    go_wp2_with fail
    refine (Blocked_any sh nxs fl ac fi wa li N _).mono ?_
    rintro e w11 ⟨rfl, hb⟩
    clear q_bx0 q_bx1 q_bx2 q_bx3 q_bx4 q_bx5 q_bx6 q_bx7 q_bx8 q_bx9 q_bx10 q_bs0 q_bs1 q_bs2 q_bs3 q_bs4 q_bs5 q_bs6 l_bx l_bs
    have bx : Blk w11 (w.heap.size) 48 #[.int .i64 p0, .int .i64 p1, .int .i64 p2, .int .i64 a, .int .i64 b, .int .i64 f, .int .i64 c, .int .i64 m, .int .u8 C, .int .u16 F, .slice (some ⟨sb, so, none⟩) ss.length sc] := (bx).on hb
    have bs : Blk w11 (w2.heap.size) 23 #[.int .i64 sh, .int .i64 nxs, .int .i64 fl, .int .i64 ac, .int .i64 fi, .int .i64 wa, .int .i64 li] := (bs).on hb
    have hbz := hb.size
    have HB11 := Lib.hid ((HLOW.out).trans (hb.mono (by first | exact Nat.le_refl _ | omega | (simp; done) | (simp; omega))))
    have hz11 : w2.heap.size ≤ w11.heap.size := HB11.out.size
    clear hb hbz
    rw [hbk]
    clear hbk hm
    have q_bx0 : w11.cell? ⟨w.heap.size, 0, none⟩ = some (.int .i64 p0) := bx.cell 0
    have q_bx1 : w11.cell? ⟨w.heap.size, 1, none⟩ = some (.int .i64 p1) := bx.cell 1
    have q_bx2 : w11.cell? ⟨w.heap.size, 2, none⟩ = some (.int .i64 p2) := bx.cell 2
    have q_bx3 : w11.cell? ⟨w.heap.size, 3, none⟩ = some (.int .i64 a) := bx.cell 3
    have q_bx4 : w11.cell? ⟨w.heap.size, 4, none⟩ = some (.int .i64 b) := bx.cell 4
    have q_bx5 : w11.cell? ⟨w.heap.size, 5, none⟩ = some (.int .i64 f) := bx.cell 5
    have q_bx6 : w11.cell? ⟨w.heap.size, 6, none⟩ = some (.int .i64 c) := bx.cell 6
    have q_bx7 : w11.cell? ⟨w.heap.size, 7, none⟩ = some (.int .i64 m) := bx.cell 7
    have q_bx8 : w11.cell? ⟨w.heap.size, 8, none⟩ = some (.int .u8 C) := bx.cell 8
    have q_bx9 : w11.cell? ⟨w.heap.size, 9, none⟩ = some (.int .u16 F) := bx.cell 9
    have q_bx10 : w11.cell? ⟨w.heap.size, 10, none⟩ = some (.slice (some ⟨sb, so, none⟩) ss.length sc) := bx.cell 10
    have q_bs0 : w11.cell? ⟨w2.heap.size, 0, none⟩ = some (.int .i64 sh) := bs.cell 0
    have q_bs1 : w11.cell? ⟨w2.heap.size, 1, none⟩ = some (.int .i64 nxs) := bs.cell 1
    have q_bs2 : w11.cell? ⟨w2.heap.size, 2, none⟩ = some (.int .i64 fl) := bs.cell 2
    have q_bs3 : w11.cell? ⟨w2.heap.size, 3, none⟩ = some (.int .i64 ac) := bs.cell 3
    have q_bs4 : w11.cell? ⟨w2.heap.size, 4, none⟩ = some (.int .i64 fi) := bs.cell 4
    have q_bs5 : w11.cell? ⟨w2.heap.size, 5, none⟩ = some (.int .i64 wa) := bs.cell 5
    have q_bs6 : w11.cell? ⟨w2.heap.size, 6, none⟩ = some (.int .i64 li) := bs.cell 6
    have l_bx : w.heap.size < w11.heap.size := bx.lt
    have l_bs : w2.heap.size < w11.heap.size := bs.lt
    go_wp2_with fail
    refine (Poll_any sh nxs fl ac fi wa li p0 p1 p2 N A ca l _ ((HL2.out.below (HB11.out)).more (HB11.out).size) (by omega) HSB.out).mono ?_
    rintro e w30 ⟨A1, c1, b1, rfl, hr1, hm1, hb⟩
    clear q_bx0 q_bx1 q_bx2 q_bx3 q_bx4 q_bx5 q_bx6 q_bx7 q_bx8 q_bx9 q_bx10 q_bs0 q_bs1 q_bs2 q_bs3 q_bs4 q_bs5 q_bs6 l_bx l_bs
    have bx : Blk w30 (w.heap.size) 48 #[.int .i64 p0, .int .i64 p1, .int .i64 p2, .int .i64 a, .int .i64 b, .int .i64 f, .int .i64 c, .int .i64 m, .int .u8 C, .int .u16 F, .slice (some ⟨sb, so, none⟩) ss.length sc] := bx.on hb
    have bs : Blk w30 (w2.heap.size) 23 #[.int .i64 sh, .int .i64 nxs, .int .i64 fl, .int .i64 ac, .int .i64 fi, .int .i64 wa, .int .i64 li] := bs.on hb
    have HB30 := Lib.hid (HB11.out.trans (hb.mono HB11.out.size))
    have hz30 : w2.heap.size ≤ w30.heap.size := HB30.out.size
    clear hb
    rw [HLM.out] at hm1 ⊢
    generalize hX : pollS ⟨sh, nxs, fl, ac, fi, wa, li⟩ ⟨p0, p1, p2⟩ (recsR F C) N = X at *
    obtain ⟨⟨t0, t1, t2, t3, t4, t5, t6⟩, B, E⟩ := X
    have hp := HI.out.poll (p := ⟨p0, p1, p2⟩) ⟨hF0, hF1⟩ hC hNb hN2 hN1 hX
    simp only at hm1
    subst hm1
    have HP := Lib.hid hp
    clear hX hp
    simp only [MS.cs]
    by_cases hE : E = 0
    rotate_left
    · obtain rfl := HP.out.1 hE
      have q_bx0 : w30.cell? ⟨w.heap.size, 0, none⟩ = some (.int .i64 p0) := bx.cell 0
      have q_bx1 : w30.cell? ⟨w.heap.size, 1, none⟩ = some (.int .i64 p1) := bx.cell 1
      have q_bx2 : w30.cell? ⟨w.heap.size, 2, none⟩ = some (.int .i64 p2) := bx.cell 2
      have q_bx3 : w30.cell? ⟨w.heap.size, 3, none⟩ = some (.int .i64 a) := bx.cell 3
      have q_bx4 : w30.cell? ⟨w.heap.size, 4, none⟩ = some (.int .i64 b) := bx.cell 4
      have q_bx5 : w30.cell? ⟨w.heap.size, 5, none⟩ = some (.int .i64 f) := bx.cell 5
      have q_bx6 : w30.cell? ⟨w.heap.size, 6, none⟩ = some (.int .i64 c) := bx.cell 6
      have q_bx7 : w30.cell? ⟨w.heap.size, 7, none⟩ = some (.int .i64 m) := bx.cell 7
      have q_bx8 : w30.cell? ⟨w.heap.size, 8, none⟩ = some (.int .u8 C) := bx.cell 8
      have q_bx9 : w30.cell? ⟨w.heap.size, 9, none⟩ = some (.int .u16 F) := bx.cell 9
      have q_bx10 : w30.cell? ⟨w.heap.size, 10, none⟩ = some (.slice (some ⟨sb, so, none⟩) ss.length sc) := bx.cell 10
      have q_bs0 : w30.cell? ⟨w2.heap.size, 0, none⟩ = some (.int .i64 sh) := bs.cell 0
      have q_bs1 : w30.cell? ⟨w2.heap.size, 1, none⟩ = some (.int .i64 nxs) := bs.cell 1
      have q_bs2 : w30.cell? ⟨w2.heap.size, 2, none⟩ = some (.int .i64 fl) := bs.cell 2
      have q_bs3 : w30.cell? ⟨w2.heap.size, 3, none⟩ = some (.int .i64 ac) := bs.cell 3
      have q_bs4 : w30.cell? ⟨w2.heap.size, 4, none⟩ = some (.int .i64 fi) := bs.cell 4
      have q_bs5 : w30.cell? ⟨w2.heap.size, 5, none⟩ = some (.int .i64 wa) := bs.cell 5
      have q_bs6 : w30.cell? ⟨w2.heap.size, 6, none⟩ = some (.int .i64 li) := bs.cell 6
      have l_bx : w.heap.size < w30.heap.size := bx.lt
      have l_bs : w2.heap.size < w30.heap.size := bs.lt
      go_wp2_with fail
      refine (awake_any _).mono ?_
      rintro e w31 ⟨rfl, hb⟩
      clear q_bx0 q_bx1 q_bx2 q_bx3 q_bx4 q_bx5 q_bx6 q_bx7 q_bx8 q_bx9 q_bx10 q_bs0 q_bs1 q_bs2 q_bs3 q_bs4 q_bs5 q_bs6 l_bx l_bs
      have bx : Blk w31 (w.heap.size) 48 #[.int .i64 p0, .int .i64 p1, .int .i64 p2, .int .i64 a, .int .i64 b, .int .i64 f, .int .i64 c, .int .i64 m, .int .u8 C, .int .u16 F, .slice (some ⟨sb, so, none⟩) ss.length sc] := ((bx).alloc _).on hb
      have bs : Blk w31 (w2.heap.size) 23 #[.int .i64 sh, .int .i64 nxs, .int .i64 fl, .int .i64 ac, .int .i64 fi, .int .i64 wa, .int .i64 li] := ((bs).alloc _).on hb
      have bt : Blk w31 (w30.heap.size) 23 #[.int .i64 t0, .int .i64 t1, .int .i64 t2, .int .i64 t3, .int .i64 t4, .int .i64 t5, .int .i64 t6] := (Blk.new _ _ _).on hb
      have hbz := hb.size
      have HB31 := Lib.hid (((HB30.out).alloc (by first | exact Nat.le_refl _ | omega | (simp; done) | (simp; omega)) _).trans (hb.mono (by first | exact Nat.le_refl _ | omega | (simp; done) | (simp; omega))))
      have hz31 : w2.heap.size ≤ w31.heap.size := HB31.out.size
      clear hb hbz
      go_wp2_with fail
      go_ret
      exact ⟨rfl, (HW2.out.trans (HB31.out.mono hxlz))⟩
    subst hE
    by_cases hb0 : b1.length = 0
    · have hbn := List.eq_nil_of_length_eq_zero hb0
      obtain ⟨hts, hnF⟩ := HP.out.2.1 rfl (by rw [hbn]; rfl)
      have g0 : ((b1.length : Int) == 0) = true := by rw [hb0]; rfl
      have g1 : (nx == F + (l.length : Int)) = true := by rw [HLC.out]; exact beq_iff_eq.2 hnF
      have q_bx0 : w30.cell? ⟨w.heap.size, 0, none⟩ = some (.int .i64 p0) := bx.cell 0
      have q_bx1 : w30.cell? ⟨w.heap.size, 1, none⟩ = some (.int .i64 p1) := bx.cell 1
      have q_bx2 : w30.cell? ⟨w.heap.size, 2, none⟩ = some (.int .i64 p2) := bx.cell 2
      have q_bx3 : w30.cell? ⟨w.heap.size, 3, none⟩ = some (.int .i64 a) := bx.cell 3
      have q_bx4 : w30.cell? ⟨w.heap.size, 4, none⟩ = some (.int .i64 b) := bx.cell 4
      have q_bx5 : w30.cell? ⟨w.heap.size, 5, none⟩ = some (.int .i64 f) := bx.cell 5
      have q_bx6 : w30.cell? ⟨w.heap.size, 6, none⟩ = some (.int .i64 c) := bx.cell 6
      have q_bx7 : w30.cell? ⟨w.heap.size, 7, none⟩ = some (.int .i64 m) := bx.cell 7
      have q_bx8 : w30.cell? ⟨w.heap.size, 8, none⟩ = some (.int .u8 C) := bx.cell 8
      have q_bx9 : w30.cell? ⟨w.heap.size, 9, none⟩ = some (.int .u16 F) := bx.cell 9
      have q_bx10 : w30.cell? ⟨w.heap.size, 10, none⟩ = some (.slice (some ⟨sb, so, none⟩) ss.length sc) := bx.cell 10
      have q_bs0 : w30.cell? ⟨w2.heap.size, 0, none⟩ = some (.int .i64 sh) := bs.cell 0
      have q_bs1 : w30.cell? ⟨w2.heap.size, 1, none⟩ = some (.int .i64 nxs) := bs.cell 1
      have q_bs2 : w30.cell? ⟨w2.heap.size, 2, none⟩ = some (.int .i64 fl) := bs.cell 2
      have q_bs3 : w30.cell? ⟨w2.heap.size, 3, none⟩ = some (.int .i64 ac) := bs.cell 3
      have q_bs4 : w30.cell? ⟨w2.heap.size, 4, none⟩ = some (.int .i64 fi) := bs.cell 4
      have q_bs5 : w30.cell? ⟨w2.heap.size, 5, none⟩ = some (.int .i64 wa) := bs.cell 5
      have q_bs6 : w30.cell? ⟨w2.heap.size, 6, none⟩ = some (.int .i64 li) := bs.cell 6
      have l_bx : w.heap.size < w30.heap.size := bx.lt
      have l_bs : w2.heap.size < w30.heap.size := bs.lt
      simp only [MS.mk.injEq] at hts
      obtain ⟨rfl, rfl, rfl, rfl, rfl, rfl, rfl⟩ := hts
      clear hbn hb0 hnF
      go_wp2_with fail
      refine (awake_any _).mono ?_
      rintro e w31 ⟨rfl, hb⟩
      have HZ := Lib.hid (HB30.out.trans (((alV _).trans (hb.mono (by simp))).mono hz30))
      clear hb
      go_wp2_with fail
      go_ret
      exact ⟨rfl, (HW2.out.trans (HZ.out.mono hxlz))⟩
    obtain ⟨p1_, p2_, p3_, p4_, p5_, p6_, p7_, p8_, p9_⟩ := HP.out.2.2 rfl (by intro h; exact hb0 (by simpa using congrArg List.length h))
    rw [List.length_map] at p4_ p5_ p6_ p7_ p9_
    simp only at p1_ p2_ p3_ p4_ p5_ p6_ p7_ p8_ p9_
    have HFL := Lib.hid (show Fly F C ⟨t0, t1, t2, t3, t4, t5, t6⟩ nx b1.length N from ⟨p1_, p2_, p3_, p4_, hnx0, p6_, p9_, p8_⟩)
    have g0 : ((b1.length : Int) == 0) = false := beq_eq_false_iff_ne.2 (by omega)
    have g1 : (t1 != nx) = false := by rw [p3_]; exact bne_self_eq_false _
    have g2 : (t2 != (b1.length : Int)) = false := by rw [p4_]; exact bne_self_eq_false _
    have g3 : decide (p0 < (b1.length : Int)) = false := decide_eq_false (by omega)
    have hbk : blkB ⟨t0, t1, t2, t3, t4, t5, t6⟩ N = true := blk_f p1_ (by show t2 ≠ 0; omega)
    have hbl : b1.length ≤ 255 := by omega
    have o30 : w2.heap.size < w30.heap.size := bs.lt
    have HP5 := Lib.hid p5_
    have HBK := Lib.hid hbk
    clear p1_ p2_ p3_ p4_ p5_ p7_ p8_ hbk hb0 HP
    have q_bx0 : w30.cell? ⟨w.heap.size, 0, none⟩ = some (.int .i64 p0) := bx.cell 0
    have q_bx1 : w30.cell? ⟨w.heap.size, 1, none⟩ = some (.int .i64 p1) := bx.cell 1
    have q_bx2 : w30.cell? ⟨w.heap.size, 2, none⟩ = some (.int .i64 p2) := bx.cell 2
    have q_bx3 : w30.cell? ⟨w.heap.size, 3, none⟩ = some (.int .i64 a) := bx.cell 3
    have q_bx4 : w30.cell? ⟨w.heap.size, 4, none⟩ = some (.int .i64 b) := bx.cell 4
    have q_bx5 : w30.cell? ⟨w.heap.size, 5, none⟩ = some (.int .i64 f) := bx.cell 5
    have q_bx6 : w30.cell? ⟨w.heap.size, 6, none⟩ = some (.int .i64 c) := bx.cell 6
    have q_bx7 : w30.cell? ⟨w.heap.size, 7, none⟩ = some (.int .i64 m) := bx.cell 7
    have q_bx8 : w30.cell? ⟨w.heap.size, 8, none⟩ = some (.int .u8 C) := bx.cell 8
    have q_bx9 : w30.cell? ⟨w.heap.size, 9, none⟩ = some (.int .u16 F) := bx.cell 9
    have q_bx10 : w30.cell? ⟨w.heap.size, 10, none⟩ = some (.slice (some ⟨sb, so, none⟩) ss.length sc) := bx.cell 10
    have q_bs0 : w30.cell? ⟨w2.heap.size, 0, none⟩ = some (.int .i64 sh) := bs.cell 0
    have q_bs1 : w30.cell? ⟨w2.heap.size, 1, none⟩ = some (.int .i64 nxs) := bs.cell 1
    have q_bs2 : w30.cell? ⟨w2.heap.size, 2, none⟩ = some (.int .i64 fl) := bs.cell 2
    have q_bs3 : w30.cell? ⟨w2.heap.size, 3, none⟩ = some (.int .i64 ac) := bs.cell 3
    have q_bs4 : w30.cell? ⟨w2.heap.size, 4, none⟩ = some (.int .i64 fi) := bs.cell 4
    have q_bs5 : w30.cell? ⟨w2.heap.size, 5, none⟩ = some (.int .i64 wa) := bs.cell 5
    have q_bs6 : w30.cell? ⟨w2.heap.size, 6, none⟩ = some (.int .i64 li) := bs.cell 6
    have l_bx : w.heap.size < w30.heap.size := bx.lt
    have l_bs : w2.heap.size < w30.heap.size := bs.lt
    have HAL := Lib.hid (alV (w := w30) (.cells #[.int .i64 t0, .int .i64 t1, .int .i64 t2, .int .i64 t3, .int .i64 t4, .int .i64 t5, .int .i64 t6] 23))
    have HR1 := Lib.hid ((hr1.below HAL.out).more HAL.out.size)
    clear hr1
    go_wp2_with fail
    clear q_bx0 q_bx1 q_bx2 q_bx3 q_bx4 q_bx5 q_bx6 q_bx7 q_bx8 q_bx9 q_bx10 q_bs0 q_bs1 q_bs2 q_bs3 q_bs4 q_bs5 q_bs6 l_bx l_bs
    have bx : Blk ((w30).alloc (.cells #[.int .i64 t0, .int .i64 t1, .int .i64 t2, .int .i64 t3, .int .i64 t4, .int .i64 t5, .int .i64 t6] 23)) (w.heap.size) 48 #[.int .i64 p0, .int .i64 p1, .int .i64 p2, .int .i64 a, .int .i64 b, .int .i64 f, .int .i64 c, .int .i64 m, .int .u8 C, .int .u16 F, .slice (some ⟨sb, so, none⟩) ss.length sc] := (bx).alloc _
    have bs : Blk ((w30).alloc (.cells #[.int .i64 t0, .int .i64 t1, .int .i64 t2, .int .i64 t3, .int .i64 t4, .int .i64 t5, .int .i64 t6] 23)) (w2.heap.size) 23 #[.int .i64 sh, .int .i64 nxs, .int .i64 fl, .int .i64 ac, .int .i64 fi, .int .i64 wa, .int .i64 li] := (bs).alloc _
    have bt : Blk ((w30).alloc (.cells #[.int .i64 t0, .int .i64 t1, .int .i64 t2, .int .i64 t3, .int .i64 t4, .int .i64 t5, .int .i64 t6] 23)) (w30.heap.size) 23 #[.int .i64 t0, .int .i64 t1, .int .i64 t2, .int .i64 t3, .int .i64 t4, .int .i64 t5, .int .i64 t6] := Blk.new _ _ _
    have HB31 := Lib.hid (show Below w2.heap.size w2 ((w30).alloc (.cells #[.int .i64 t0, .int .i64 t1, .int .i64 t2, .int .i64 t3, .int .i64 t4, .int .i64 t5, .int .i64 t6] 23)) from (HB30.out).alloc (by first | exact Nat.le_refl _ | omega | (simp; done) | (simp; omega)) _)
    generalize (w30).alloc (.cells #[.int .i64 t0, .int .i64 t1, .int .i64 t2, .int .i64 t3, .int .i64 t4, .int .i64 t5, .int .i64 t6] 23) = w31 at *
    have hz31 : w2.heap.size ≤ w31.heap.size := HB31.out.size
    obtain ⟨bb, oo, rfl, hbb, -⟩ := HR1.out.seq HP5.out (k := 0) (by omega)
    go_loop [13] (fun u13 => ∃ j : Nat, j ≤ b1.length ∧ u13 = .int .i64 j) (fun u13 => b1.length - (intOf u13).toNat)
    case atStart => exact ⟨0, Nat.zero_le _, rfl⟩
    case round =>
      obtain ⟨j, hj, rfl⟩ := hrel
      by_cases hj2 : j < b1.length
      · obtain ⟨bb', oo', e', hbb', hc⟩ := HR1.out.seq HP5.out hj2
        obtain ⟨rfl, rfl⟩ : bb = bb' ∧ oo = oo' := by injection e' with e'; injection e' with e1 e2; exact ⟨e1, e2⟩
        clear e'
        have hji : (j : Int) < b1.length := by omega
        go_wp2_with fail
        go_round
        case rel => exact ⟨j + 1, by omega, by go_num⟩
        case measure => simp [intOf]; omega
      · have hji : ¬ (j : Int) < b1.length := by omega
        have q_bx0 : w31.cell? ⟨w.heap.size, 0, none⟩ = some (.int .i64 p0) := bx.cell 0
        have q_bx1 : w31.cell? ⟨w.heap.size, 1, none⟩ = some (.int .i64 p1) := bx.cell 1
        have q_bx2 : w31.cell? ⟨w.heap.size, 2, none⟩ = some (.int .i64 p2) := bx.cell 2
        have q_bx3 : w31.cell? ⟨w.heap.size, 3, none⟩ = some (.int .i64 a) := bx.cell 3
        have q_bx4 : w31.cell? ⟨w.heap.size, 4, none⟩ = some (.int .i64 b) := bx.cell 4
        have q_bx5 : w31.cell? ⟨w.heap.size, 5, none⟩ = some (.int .i64 f) := bx.cell 5
        have q_bx6 : w31.cell? ⟨w.heap.size, 6, none⟩ = some (.int .i64 c) := bx.cell 6
        have q_bx7 : w31.cell? ⟨w.heap.size, 7, none⟩ = some (.int .i64 m) := bx.cell 7
        have q_bx8 : w31.cell? ⟨w.heap.size, 8, none⟩ = some (.int .u8 C) := bx.cell 8
        have q_bx9 : w31.cell? ⟨w.heap.size, 9, none⟩ = some (.int .u16 F) := bx.cell 9
        have q_bx10 : w31.cell? ⟨w.heap.size, 10, none⟩ = some (.slice (some ⟨sb, so, none⟩) ss.length sc) := bx.cell 10
        have q_bs0 : w31.cell? ⟨w2.heap.size, 0, none⟩ = some (.int .i64 sh) := bs.cell 0
        have q_bs1 : w31.cell? ⟨w2.heap.size, 1, none⟩ = some (.int .i64 nxs) := bs.cell 1
        have q_bs2 : w31.cell? ⟨w2.heap.size, 2, none⟩ = some (.int .i64 fl) := bs.cell 2
        have q_bs3 : w31.cell? ⟨w2.heap.size, 3, none⟩ = some (.int .i64 ac) := bs.cell 3
        have q_bs4 : w31.cell? ⟨w2.heap.size, 4, none⟩ = some (.int .i64 fi) := bs.cell 4
        have q_bs5 : w31.cell? ⟨w2.heap.size, 5, none⟩ = some (.int .i64 wa) := bs.cell 5
        have q_bs6 : w31.cell? ⟨w2.heap.size, 6, none⟩ = some (.int .i64 li) := bs.cell 6
        have q_bt0 : w31.cell? ⟨w30.heap.size, 0, none⟩ = some (.int .i64 t0) := bt.cell 0
        have q_bt1 : w31.cell? ⟨w30.heap.size, 1, none⟩ = some (.int .i64 t1) := bt.cell 1
        have q_bt2 : w31.cell? ⟨w30.heap.size, 2, none⟩ = some (.int .i64 t2) := bt.cell 2
        have q_bt3 : w31.cell? ⟨w30.heap.size, 3, none⟩ = some (.int .i64 t3) := bt.cell 3
        have q_bt4 : w31.cell? ⟨w30.heap.size, 4, none⟩ = some (.int .i64 t4) := bt.cell 4
        have q_bt5 : w31.cell? ⟨w30.heap.size, 5, none⟩ = some (.int .i64 t5) := bt.cell 5
        have q_bt6 : w31.cell? ⟨w30.heap.size, 6, none⟩ = some (.int .i64 t6) := bt.cell 6
        have l_bx : w.heap.size < w31.heap.size := bx.lt
        have l_bs : w2.heap.size < w31.heap.size := bs.lt
        have l_bt : w30.heap.size < w31.heap.size := bt.lt
        go_wp2_with fail
        refine (Blocked_any t0 t1 t2 t3 t4 t5 t6 N _).mono ?_
        rintro e w32 ⟨rfl, hb⟩
        clear q_bx0 q_bx1 q_bx2 q_bx3 q_bx4 q_bx5 q_bx6 q_bx7 q_bx8 q_bx9 q_bx10 q_bs0 q_bs1 q_bs2 q_bs3 q_bs4 q_bs5 q_bs6 q_bt0 q_bt1 q_bt2 q_bt3 q_bt4 q_bt5 q_bt6 l_bx l_bs l_bt
        have bx : Blk w32 (w.heap.size) 48 #[.int .i64 p0, .int .i64 p1, .int .i64 p2, .int .i64 a, .int .i64 b, .int .i64 f, .int .i64 c, .int .i64 m, .int .u8 C, .int .u16 F, .slice (some ⟨sb, so, none⟩) ss.length sc] := (bx).on hb
        have bs : Blk w32 (w2.heap.size) 23 #[.int .i64 sh, .int .i64 nxs, .int .i64 fl, .int .i64 ac, .int .i64 fi, .int .i64 wa, .int .i64 li] := (bs).on hb
        have bt : Blk w32 (w30.heap.size) 23 #[.int .i64 t0, .int .i64 t1, .int .i64 t2, .int .i64 t3, .int .i64 t4, .int .i64 t5, .int .i64 t6] := (bt).on hb
        have hbz := hb.size
        have HB32 := Lib.hid ((HB31.out).trans (hb.mono (by first | exact Nat.le_refl _ | omega | (simp; done) | (simp; omega))))
        have hz32 : w2.heap.size ≤ w32.heap.size := HB32.out.size
        clear hb hbz
        rw [HBK.out]
        have hsc : w32.cell? ⟨sb, so + k, none⟩ = some (.int .u8 v) := (HB32.out.cell (p := ⟨sb, so + k, none⟩) hsb).trans HSC.out
        have hsbw : sb < w32.heap.size := by omega
        clear HR1 HP5
        by_cases hv : v = 1
        · subst hv
          have q_bx0 : w32.cell? ⟨w.heap.size, 0, none⟩ = some (.int .i64 p0) := bx.cell 0
          have q_bx1 : w32.cell? ⟨w.heap.size, 1, none⟩ = some (.int .i64 p1) := bx.cell 1
          have q_bx2 : w32.cell? ⟨w.heap.size, 2, none⟩ = some (.int .i64 p2) := bx.cell 2
          have q_bx3 : w32.cell? ⟨w.heap.size, 3, none⟩ = some (.int .i64 a) := bx.cell 3
          have q_bx4 : w32.cell? ⟨w.heap.size, 4, none⟩ = some (.int .i64 b) := bx.cell 4
          have q_bx5 : w32.cell? ⟨w.heap.size, 5, none⟩ = some (.int .i64 f) := bx.cell 5
          have q_bx6 : w32.cell? ⟨w.heap.size, 6, none⟩ = some (.int .i64 c) := bx.cell 6
          have q_bx7 : w32.cell? ⟨w.heap.size, 7, none⟩ = some (.int .i64 m) := bx.cell 7
          have q_bx8 : w32.cell? ⟨w.heap.size, 8, none⟩ = some (.int .u8 C) := bx.cell 8
          have q_bx9 : w32.cell? ⟨w.heap.size, 9, none⟩ = some (.int .u16 F) := bx.cell 9
          have q_bx10 : w32.cell? ⟨w.heap.size, 10, none⟩ = some (.slice (some ⟨sb, so, none⟩) ss.length sc) := bx.cell 10
          have q_bs0 : w32.cell? ⟨w2.heap.size, 0, none⟩ = some (.int .i64 sh) := bs.cell 0
          have q_bs1 : w32.cell? ⟨w2.heap.size, 1, none⟩ = some (.int .i64 nxs) := bs.cell 1
          have q_bs2 : w32.cell? ⟨w2.heap.size, 2, none⟩ = some (.int .i64 fl) := bs.cell 2
          have q_bs3 : w32.cell? ⟨w2.heap.size, 3, none⟩ = some (.int .i64 ac) := bs.cell 3
          have q_bs4 : w32.cell? ⟨w2.heap.size, 4, none⟩ = some (.int .i64 fi) := bs.cell 4
          have q_bs5 : w32.cell? ⟨w2.heap.size, 5, none⟩ = some (.int .i64 wa) := bs.cell 5
          have q_bs6 : w32.cell? ⟨w2.heap.size, 6, none⟩ = some (.int .i64 li) := bs.cell 6
          have q_bt0 : w32.cell? ⟨w30.heap.size, 0, none⟩ = some (.int .i64 t0) := bt.cell 0
          have q_bt1 : w32.cell? ⟨w30.heap.size, 1, none⟩ = some (.int .i64 t1) := bt.cell 1
          have q_bt2 : w32.cell? ⟨w30.heap.size, 2, none⟩ = some (.int .i64 t2) := bt.cell 2
          have q_bt3 : w32.cell? ⟨w30.heap.size, 3, none⟩ = some (.int .i64 t3) := bt.cell 3
          have q_bt4 : w32.cell? ⟨w30.heap.size, 4, none⟩ = some (.int .i64 t4) := bt.cell 4
          have q_bt5 : w32.cell? ⟨w30.heap.size, 5, none⟩ = some (.int .i64 t5) := bt.cell 5
          have q_bt6 : w32.cell? ⟨w30.heap.size, 6, none⟩ = some (.int .i64 t6) := bt.cell 6
          have l_bx : w.heap.size < w32.heap.size := bx.lt
          have l_bs : w2.heap.size < w32.heap.size := bs.lt
          have l_bt : w30.heap.size < w32.heap.size := bt.lt
          go_wp2_with fail
          refine (Fail_any t0 t1 t2 t3 t4 t5 t6 a b f c m N _).mono ?_
          rintro e w33 ⟨rfl, hb⟩
          clear q_bx0 q_bx1 q_bx2 q_bx3 q_bx4 q_bx5 q_bx6 q_bx7 q_bx8 q_bx9 q_bx10 q_bs0 q_bs1 q_bs2 q_bs3 q_bs4 q_bs5 q_bs6 q_bt0 q_bt1 q_bt2 q_bt3 q_bt4 q_bt5 q_bt6 l_bx l_bs l_bt
          have bx : Blk w33 (w.heap.size) 48 #[.int .i64 p0, .int .i64 p1, .int .i64 p2, .int .i64 a, .int .i64 b, .int .i64 f, .int .i64 c, .int .i64 m, .int .u8 C, .int .u16 F, .slice (some ⟨sb, so, none⟩) ss.length sc] := (bx).on hb
          have bs : Blk w33 (w2.heap.size) 23 #[.int .i64 sh, .int .i64 nxs, .int .i64 fl, .int .i64 ac, .int .i64 fi, .int .i64 wa, .int .i64 li] := (bs).on hb
          have bt : Blk w33 (w30.heap.size) 23 #[.int .i64 t0, .int .i64 t1, .int .i64 t2, .int .i64 t3, .int .i64 t4, .int .i64 t5, .int .i64 t6] := (bt).on hb
          have hbz := hb.size
          have HB33 := Lib.hid ((HB32.out).trans (hb.mono (by first | exact Nat.le_refl _ | omega | (simp; done) | (simp; omega))))
          have hz33 : w2.heap.size ≤ w33.heap.size := HB33.out.size
          clear hb hbz
          generalize hR : failS ⟨t0, t1, t2, t3, t4, t5, t6⟩ ⟨a, b, f, c, m⟩ N = R
          obtain ⟨⟨u0_, u1_, u2_, u3_, u4_, u5_, u6_⟩, gv, e⟩ := R
          obtain ⟨f1, f2, f3⟩ := HFL.out.fail hNb hR
          clear hR
          simp only [MR3, MS.cs]
          by_cases he : e = 0
          rotate_left
          · obtain rfl := f1 he
            have q_bx0 : w33.cell? ⟨w.heap.size, 0, none⟩ = some (.int .i64 p0) := bx.cell 0
            have q_bx1 : w33.cell? ⟨w.heap.size, 1, none⟩ = some (.int .i64 p1) := bx.cell 1
            have q_bx2 : w33.cell? ⟨w.heap.size, 2, none⟩ = some (.int .i64 p2) := bx.cell 2
            have q_bx3 : w33.cell? ⟨w.heap.size, 3, none⟩ = some (.int .i64 a) := bx.cell 3
            have q_bx4 : w33.cell? ⟨w.heap.size, 4, none⟩ = some (.int .i64 b) := bx.cell 4
            have q_bx5 : w33.cell? ⟨w.heap.size, 5, none⟩ = some (.int .i64 f) := bx.cell 5
            have q_bx6 : w33.cell? ⟨w.heap.size, 6, none⟩ = some (.int .i64 c) := bx.cell 6
            have q_bx7 : w33.cell? ⟨w.heap.size, 7, none⟩ = some (.int .i64 m) := bx.cell 7
            have q_bx8 : w33.cell? ⟨w.heap.size, 8, none⟩ = some (.int .u8 C) := bx.cell 8
            have q_bx9 : w33.cell? ⟨w.heap.size, 9, none⟩ = some (.int .u16 F) := bx.cell 9
            have q_bx10 : w33.cell? ⟨w.heap.size, 10, none⟩ = some (.slice (some ⟨sb, so, none⟩) ss.length sc) := bx.cell 10
            have q_bs0 : w33.cell? ⟨w2.heap.size, 0, none⟩ = some (.int .i64 sh) := bs.cell 0
            have q_bs1 : w33.cell? ⟨w2.heap.size, 1, none⟩ = some (.int .i64 nxs) := bs.cell 1
            have q_bs2 : w33.cell? ⟨w2.heap.size, 2, none⟩ = some (.int .i64 fl) := bs.cell 2
            have q_bs3 : w33.cell? ⟨w2.heap.size, 3, none⟩ = some (.int .i64 ac) := bs.cell 3
            have q_bs4 : w33.cell? ⟨w2.heap.size, 4, none⟩ = some (.int .i64 fi) := bs.cell 4
            have q_bs5 : w33.cell? ⟨w2.heap.size, 5, none⟩ = some (.int .i64 wa) := bs.cell 5
            have q_bs6 : w33.cell? ⟨w2.heap.size, 6, none⟩ = some (.int .i64 li) := bs.cell 6
            have q_bt0 : w33.cell? ⟨w30.heap.size, 0, none⟩ = some (.int .i64 t0) := bt.cell 0
            have q_bt1 : w33.cell? ⟨w30.heap.size, 1, none⟩ = some (.int .i64 t1) := bt.cell 1
            have q_bt2 : w33.cell? ⟨w30.heap.size, 2, none⟩ = some (.int .i64 t2) := bt.cell 2
            have q_bt3 : w33.cell? ⟨w30.heap.size, 3, none⟩ = some (.int .i64 t3) := bt.cell 3
            have q_bt4 : w33.cell? ⟨w30.heap.size, 4, none⟩ = some (.int .i64 t4) := bt.cell 4
            have q_bt5 : w33.cell? ⟨w30.heap.size, 5, none⟩ = some (.int .i64 t5) := bt.cell 5
            have q_bt6 : w33.cell? ⟨w30.heap.size, 6, none⟩ = some (.int .i64 t6) := bt.cell 6
            have l_bx : w.heap.size < w33.heap.size := bx.lt
            have l_bs : w2.heap.size < w33.heap.size := bs.lt
            have l_bt : w30.heap.size < w33.heap.size := bt.lt
            go_wp2_with fail
            refine (awake_any _).mono ?_
            rintro e w34 ⟨rfl, hb⟩
            clear q_bx0 q_bx1 q_bx2 q_bx3 q_bx4 q_bx5 q_bx6 q_bx7 q_bx8 q_bx9 q_bx10 q_bs0 q_bs1 q_bs2 q_bs3 q_bs4 q_bs5 q_bs6 q_bt0 q_bt1 q_bt2 q_bt3 q_bt4 q_bt5 q_bt6 l_bx l_bs l_bt
            have bx : Blk w34 (w.heap.size) 48 #[.int .i64 p0, .int .i64 p1, .int .i64 p2, .int .i64 a, .int .i64 b, .int .i64 f, .int .i64 c, .int .i64 m, .int .u8 C, .int .u16 F, .slice (some ⟨sb, so, none⟩) ss.length sc] := ((bx).alloc _).on hb
            have bs : Blk w34 (w2.heap.size) 23 #[.int .i64 sh, .int .i64 nxs, .int .i64 fl, .int .i64 ac, .int .i64 fi, .int .i64 wa, .int .i64 li] := ((bs).alloc _).on hb
            have bt : Blk w34 (w30.heap.size) 23 #[.int .i64 t0, .int .i64 t1, .int .i64 t2, .int .i64 t3, .int .i64 t4, .int .i64 t5, .int .i64 t6] := ((bt).alloc _).on hb
            have bu : Blk w34 (w33.heap.size) 23 #[.int .i64 u0_, .int .i64 u1_, .int .i64 u2_, .int .i64 u3_, .int .i64 u4_, .int .i64 u5_, .int .i64 u6_] := (Blk.new _ _ _).on hb
            have hbz := hb.size
            have HB34 := Lib.hid (((HB33.out).alloc (by first | exact Nat.le_refl _ | omega | (simp; done) | (simp; omega)) _).trans (hb.mono (by first | exact Nat.le_refl _ | omega | (simp; done) | (simp; omega))))
            have hz34 : w2.heap.size ≤ w34.heap.size := HB34.out.size
            clear hb hbz
            go_wp2_with fail
            go_ret
            exact ⟨rfl, (HW2.out.trans (HB34.out.mono hxlz))⟩
          subst he
          cases gv
          · obtain ⟨h1, hx2, hI2⟩ := f3 rfl rfl
            simp only at h1
            have HI2 := Lib.hid hI2
            have HE := Lib.hid hI2.e
            have k1 : (u2_ != 0) = false := by rw [h1]; rfl
            simp only at hx2
            have k2 : (u1_ != nx) = false := by rw [hx2]; exact bne_self_eq_false _
            clear h1 hI2 hx2 f1 f2 f3
            have q_bx0 : w33.cell? ⟨w.heap.size, 0, none⟩ = some (.int .i64 p0) := bx.cell 0
            have q_bx1 : w33.cell? ⟨w.heap.size, 1, none⟩ = some (.int .i64 p1) := bx.cell 1
            have q_bx2 : w33.cell? ⟨w.heap.size, 2, none⟩ = some (.int .i64 p2) := bx.cell 2
            have q_bx3 : w33.cell? ⟨w.heap.size, 3, none⟩ = some (.int .i64 a) := bx.cell 3
            have q_bx4 : w33.cell? ⟨w.heap.size, 4, none⟩ = some (.int .i64 b) := bx.cell 4
            have q_bx5 : w33.cell? ⟨w.heap.size, 5, none⟩ = some (.int .i64 f) := bx.cell 5
            have q_bx6 : w33.cell? ⟨w.heap.size, 6, none⟩ = some (.int .i64 c) := bx.cell 6
            have q_bx7 : w33.cell? ⟨w.heap.size, 7, none⟩ = some (.int .i64 m) := bx.cell 7
            have q_bx8 : w33.cell? ⟨w.heap.size, 8, none⟩ = some (.int .u8 C) := bx.cell 8
            have q_bx9 : w33.cell? ⟨w.heap.size, 9, none⟩ = some (.int .u16 F) := bx.cell 9
            have q_bx10 : w33.cell? ⟨w.heap.size, 10, none⟩ = some (.slice (some ⟨sb, so, none⟩) ss.length sc) := bx.cell 10
            have q_bs0 : w33.cell? ⟨w2.heap.size, 0, none⟩ = some (.int .i64 sh) := bs.cell 0
            have q_bs1 : w33.cell? ⟨w2.heap.size, 1, none⟩ = some (.int .i64 nxs) := bs.cell 1
            have q_bs2 : w33.cell? ⟨w2.heap.size, 2, none⟩ = some (.int .i64 fl) := bs.cell 2
            have q_bs3 : w33.cell? ⟨w2.heap.size, 3, none⟩ = some (.int .i64 ac) := bs.cell 3
            have q_bs4 : w33.cell? ⟨w2.heap.size, 4, none⟩ = some (.int .i64 fi) := bs.cell 4
            have q_bs5 : w33.cell? ⟨w2.heap.size, 5, none⟩ = some (.int .i64 wa) := bs.cell 5
            have q_bs6 : w33.cell? ⟨w2.heap.size, 6, none⟩ = some (.int .i64 li) := bs.cell 6
            have q_bt0 : w33.cell? ⟨w30.heap.size, 0, none⟩ = some (.int .i64 t0) := bt.cell 0
            have q_bt1 : w33.cell? ⟨w30.heap.size, 1, none⟩ = some (.int .i64 t1) := bt.cell 1
            have q_bt2 : w33.cell? ⟨w30.heap.size, 2, none⟩ = some (.int .i64 t2) := bt.cell 2
            have q_bt3 : w33.cell? ⟨w30.heap.size, 3, none⟩ = some (.int .i64 t3) := bt.cell 3
            have q_bt4 : w33.cell? ⟨w30.heap.size, 4, none⟩ = some (.int .i64 t4) := bt.cell 4
            have q_bt5 : w33.cell? ⟨w30.heap.size, 5, none⟩ = some (.int .i64 t5) := bt.cell 5
            have q_bt6 : w33.cell? ⟨w30.heap.size, 6, none⟩ = some (.int .i64 t6) := bt.cell 6
            have l_bx : w.heap.size < w33.heap.size := bx.lt
            have l_bs : w2.heap.size < w33.heap.size := bs.lt
            have l_bt : w30.heap.size < w33.heap.size := bt.lt
            have f_bs0 : w33.frozen? ⟨w2.heap.size, 0, none⟩ = false := bs.frozen 0
            have f_bs1 : w33.frozen? ⟨w2.heap.size, 1, none⟩ = false := bs.frozen 1
            have f_bs2 : w33.frozen? ⟨w2.heap.size, 2, none⟩ = false := bs.frozen 2
            have f_bs3 : w33.frozen? ⟨w2.heap.size, 3, none⟩ = false := bs.frozen 3
            have f_bs4 : w33.frozen? ⟨w2.heap.size, 4, none⟩ = false := bs.frozen 4
            have f_bs5 : w33.frozen? ⟨w2.heap.size, 5, none⟩ = false := bs.frozen 5
            have f_bs6 : w33.frozen? ⟨w2.heap.size, 6, none⟩ = false := bs.frozen 6
            go_wp2_with fail
            refine (MCheck_lit u0_ u1_ u2_ u3_ u4_ u5_ u6_ _).mono ?_
            rintro e w34 ⟨rfl, hb⟩
            have n_bx_bu : w.heap.size < w33.heap.size := by have := bx.lt; omega
            have n_bs_bu : w2.heap.size < w33.heap.size := by have := bs.lt; omega
            have n_bt_bu : w30.heap.size < w33.heap.size := by have := bt.lt; omega
            clear q_bx0 q_bx1 q_bx2 q_bx3 q_bx4 q_bx5 q_bx6 q_bx7 q_bx8 q_bx9 q_bx10 q_bs0 q_bs1 q_bs2 q_bs3 q_bs4 q_bs5 q_bs6 q_bt0 q_bt1 q_bt2 q_bt3 q_bt4 q_bt5 q_bt6 l_bx l_bs l_bt f_bs0 f_bs1 f_bs2 f_bs3 f_bs4 f_bs5 f_bs6
            have bx : Blk w34 (w.heap.size) 48 #[.int .i64 p0, .int .i64 p1, .int .i64 p2, .int .i64 a, .int .i64 b, .int .i64 f, .int .i64 c, .int .i64 m, .int .u8 C, .int .u16 F, .slice (some ⟨sb, so, none⟩) ss.length sc] := ((Blk.far7 (bx) (g' := w2.heap.size) (by omega) _ _ _ _ _ _ _).alloc _).on hb
            have bs : Blk w34 (w2.heap.size) 23 #[.int .i64 u0_, .int .i64 u1_, .int .i64 u2_, .int .i64 u3_, .int .i64 u4_, .int .i64 u5_, .int .i64 u6_] := ((Blk.set7 (bs) _ _ _ _ _ _ _).alloc _).on hb
            have bt : Blk w34 (w30.heap.size) 23 #[.int .i64 t0, .int .i64 t1, .int .i64 t2, .int .i64 t3, .int .i64 t4, .int .i64 t5, .int .i64 t6] := ((Blk.far7 (bt) (g' := w2.heap.size) (by omega) _ _ _ _ _ _ _).alloc _).on hb
            have hbz := hb.size
            have hbv : Below w2.heap.size w2 (((((((((w33).setCell ⟨w2.heap.size, 0, none⟩ (.int .i64 u0_)).setCell ⟨w2.heap.size, 1, none⟩ (.int .i64 u1_)).setCell ⟨w2.heap.size, 2, none⟩ (.int .i64 u2_)).setCell ⟨w2.heap.size, 3, none⟩ (.int .i64 u3_)).setCell ⟨w2.heap.size, 4, none⟩ (.int .i64 u4_)).setCell ⟨w2.heap.size, 5, none⟩ (.int .i64 u5_)).setCell ⟨w2.heap.size, 6, none⟩ (.int .i64 u6_)).alloc (.cells #[.int .i64 u0_, .int .i64 u1_, .int .i64 u2_, .int .i64 u3_, .int .i64 u4_, .int .i64 u5_, .int .i64 u6_] 23)) := (below_set7 (HB33.out) (H := w2.heap.size) (by first | exact Nat.le_refl _ | omega) _ _ _ _ _ _ _).alloc (below_set7 (HB33.out) (H := w2.heap.size) (by first | exact Nat.le_refl _ | omega) _ _ _ _ _ _ _).size _
            have HB34 := Lib.hid (hbv.trans (hb.mono hbv.size))
            clear hbv
            have hz34 : w2.heap.size ≤ w34.heap.size := HB34.out.size
            clear hb hbz
            rw [HE.out]
            have q_bx0 : w34.cell? ⟨w.heap.size, 0, none⟩ = some (.int .i64 p0) := bx.cell 0
            have q_bx1 : w34.cell? ⟨w.heap.size, 1, none⟩ = some (.int .i64 p1) := bx.cell 1
            have q_bx2 : w34.cell? ⟨w.heap.size, 2, none⟩ = some (.int .i64 p2) := bx.cell 2
            have q_bx3 : w34.cell? ⟨w.heap.size, 3, none⟩ = some (.int .i64 a) := bx.cell 3
            have q_bx4 : w34.cell? ⟨w.heap.size, 4, none⟩ = some (.int .i64 b) := bx.cell 4
            have q_bx5 : w34.cell? ⟨w.heap.size, 5, none⟩ = some (.int .i64 f) := bx.cell 5
            have q_bx6 : w34.cell? ⟨w.heap.size, 6, none⟩ = some (.int .i64 c) := bx.cell 6
            have q_bx7 : w34.cell? ⟨w.heap.size, 7, none⟩ = some (.int .i64 m) := bx.cell 7
            have q_bx8 : w34.cell? ⟨w.heap.size, 8, none⟩ = some (.int .u8 C) := bx.cell 8
            have q_bx9 : w34.cell? ⟨w.heap.size, 9, none⟩ = some (.int .u16 F) := bx.cell 9
            have q_bx10 : w34.cell? ⟨w.heap.size, 10, none⟩ = some (.slice (some ⟨sb, so, none⟩) ss.length sc) := bx.cell 10
            have q_bs0 : w34.cell? ⟨w2.heap.size, 0, none⟩ = some (.int .i64 u0_) := bs.cell 0
            have q_bs1 : w34.cell? ⟨w2.heap.size, 1, none⟩ = some (.int .i64 u1_) := bs.cell 1
            have q_bs2 : w34.cell? ⟨w2.heap.size, 2, none⟩ = some (.int .i64 u2_) := bs.cell 2
            have q_bs3 : w34.cell? ⟨w2.heap.size, 3, none⟩ = some (.int .i64 u3_) := bs.cell 3
            have q_bs4 : w34.cell? ⟨w2.heap.size, 4, none⟩ = some (.int .i64 u4_) := bs.cell 4
            have q_bs5 : w34.cell? ⟨w2.heap.size, 5, none⟩ = some (.int .i64 u5_) := bs.cell 5
            have q_bs6 : w34.cell? ⟨w2.heap.size, 6, none⟩ = some (.int .i64 u6_) := bs.cell 6
            have q_bt0 : w34.cell? ⟨w30.heap.size, 0, none⟩ = some (.int .i64 t0) := bt.cell 0
            have q_bt1 : w34.cell? ⟨w30.heap.size, 1, none⟩ = some (.int .i64 t1) := bt.cell 1
            have q_bt2 : w34.cell? ⟨w30.heap.size, 2, none⟩ = some (.int .i64 t2) := bt.cell 2
            have q_bt3 : w34.cell? ⟨w30.heap.size, 3, none⟩ = some (.int .i64 t3) := bt.cell 3
            have q_bt4 : w34.cell? ⟨w30.heap.size, 4, none⟩ = some (.int .i64 t4) := bt.cell 4
            have q_bt5 : w34.cell? ⟨w30.heap.size, 5, none⟩ = some (.int .i64 t5) := bt.cell 5
            have q_bt6 : w34.cell? ⟨w30.heap.size, 6, none⟩ = some (.int .i64 t6) := bt.cell 6
            have l_bx : w.heap.size < w34.heap.size := bx.lt
            have l_bs : w2.heap.size < w34.heap.size := bs.lt
            have l_bt : w30.heap.size < w34.heap.size := bt.lt
            go_wp2_with fail
            go_roundw
            case rel => exact ⟨k + 1, nx, N, by omega, by go_num, by first | rfl | (congr 1; omega), rfl, ⟨HB34.out, ⟨u0_, u1_, u2_, u3_, u4_, u5_, u6_⟩, HI2.out, bs⟩⟩
            case measure => simp [intOf]; omega
          · obtain ⟨hm1, h1, hx2, hI2⟩ := f2 rfl rfl
            simp only at h1
            have HI2 := Lib.hid hI2
            have HE := Lib.hid hI2.e
            have k1 : (u2_ != 0) = false := by rw [h1]; rfl
            have k3 : ((b1.length : Int) != 1) = false := by rw [hm1]; rfl
            simp only at hx2
            have k2 : (u1_ != nx + 1) = false := by rw [hx2]; exact bne_self_eq_false _
            clear h1 hI2 hx2 f1 f2 f3 hm1
            have q_bx0 : w33.cell? ⟨w.heap.size, 0, none⟩ = some (.int .i64 p0) := bx.cell 0
            have q_bx1 : w33.cell? ⟨w.heap.size, 1, none⟩ = some (.int .i64 p1) := bx.cell 1
            have q_bx2 : w33.cell? ⟨w.heap.size, 2, none⟩ = some (.int .i64 p2) := bx.cell 2
            have q_bx3 : w33.cell? ⟨w.heap.size, 3, none⟩ = some (.int .i64 a) := bx.cell 3
            have q_bx4 : w33.cell? ⟨w.heap.size, 4, none⟩ = some (.int .i64 b) := bx.cell 4
            have q_bx5 : w33.cell? ⟨w.heap.size, 5, none⟩ = some (.int .i64 f) := bx.cell 5
            have q_bx6 : w33.cell? ⟨w.heap.size, 6, none⟩ = some (.int .i64 c) := bx.cell 6
            have q_bx7 : w33.cell? ⟨w.heap.size, 7, none⟩ = some (.int .i64 m) := bx.cell 7
            have q_bx8 : w33.cell? ⟨w.heap.size, 8, none⟩ = some (.int .u8 C) := bx.cell 8
            have q_bx9 : w33.cell? ⟨w.heap.size, 9, none⟩ = some (.int .u16 F) := bx.cell 9
            have q_bx10 : w33.cell? ⟨w.heap.size, 10, none⟩ = some (.slice (some ⟨sb, so, none⟩) ss.length sc) := bx.cell 10
            have q_bs0 : w33.cell? ⟨w2.heap.size, 0, none⟩ = some (.int .i64 sh) := bs.cell 0
            have q_bs1 : w33.cell? ⟨w2.heap.size, 1, none⟩ = some (.int .i64 nxs) := bs.cell 1
            have q_bs2 : w33.cell? ⟨w2.heap.size, 2, none⟩ = some (.int .i64 fl) := bs.cell 2
            have q_bs3 : w33.cell? ⟨w2.heap.size, 3, none⟩ = some (.int .i64 ac) := bs.cell 3
            have q_bs4 : w33.cell? ⟨w2.heap.size, 4, none⟩ = some (.int .i64 fi) := bs.cell 4
            have q_bs5 : w33.cell? ⟨w2.heap.size, 5, none⟩ = some (.int .i64 wa) := bs.cell 5
            have q_bs6 : w33.cell? ⟨w2.heap.size, 6, none⟩ = some (.int .i64 li) := bs.cell 6
            have q_bt0 : w33.cell? ⟨w30.heap.size, 0, none⟩ = some (.int .i64 t0) := bt.cell 0
            have q_bt1 : w33.cell? ⟨w30.heap.size, 1, none⟩ = some (.int .i64 t1) := bt.cell 1
            have q_bt2 : w33.cell? ⟨w30.heap.size, 2, none⟩ = some (.int .i64 t2) := bt.cell 2
            have q_bt3 : w33.cell? ⟨w30.heap.size, 3, none⟩ = some (.int .i64 t3) := bt.cell 3
            have q_bt4 : w33.cell? ⟨w30.heap.size, 4, none⟩ = some (.int .i64 t4) := bt.cell 4
            have q_bt5 : w33.cell? ⟨w30.heap.size, 5, none⟩ = some (.int .i64 t5) := bt.cell 5
            have q_bt6 : w33.cell? ⟨w30.heap.size, 6, none⟩ = some (.int .i64 t6) := bt.cell 6
            have l_bx : w.heap.size < w33.heap.size := bx.lt
            have l_bs : w2.heap.size < w33.heap.size := bs.lt
            have l_bt : w30.heap.size < w33.heap.size := bt.lt
            have f_bs0 : w33.frozen? ⟨w2.heap.size, 0, none⟩ = false := bs.frozen 0
            have f_bs1 : w33.frozen? ⟨w2.heap.size, 1, none⟩ = false := bs.frozen 1
            have f_bs2 : w33.frozen? ⟨w2.heap.size, 2, none⟩ = false := bs.frozen 2
            have f_bs3 : w33.frozen? ⟨w2.heap.size, 3, none⟩ = false := bs.frozen 3
            have f_bs4 : w33.frozen? ⟨w2.heap.size, 4, none⟩ = false := bs.frozen 4
            have f_bs5 : w33.frozen? ⟨w2.heap.size, 5, none⟩ = false := bs.frozen 5
            have f_bs6 : w33.frozen? ⟨w2.heap.size, 6, none⟩ = false := bs.frozen 6
            go_wp2_with fail
            refine (MCheck_lit u0_ u1_ u2_ u3_ u4_ u5_ u6_ _).mono ?_
            rintro e w34 ⟨rfl, hb⟩
            have n_bx_bu : w.heap.size < w33.heap.size := by have := bx.lt; omega
            have n_bs_bu : w2.heap.size < w33.heap.size := by have := bs.lt; omega
            have n_bt_bu : w30.heap.size < w33.heap.size := by have := bt.lt; omega
            clear q_bx0 q_bx1 q_bx2 q_bx3 q_bx4 q_bx5 q_bx6 q_bx7 q_bx8 q_bx9 q_bx10 q_bs0 q_bs1 q_bs2 q_bs3 q_bs4 q_bs5 q_bs6 q_bt0 q_bt1 q_bt2 q_bt3 q_bt4 q_bt5 q_bt6 l_bx l_bs l_bt f_bs0 f_bs1 f_bs2 f_bs3 f_bs4 f_bs5 f_bs6
            have bx : Blk w34 (w.heap.size) 48 #[.int .i64 p0, .int .i64 p1, .int .i64 p2, .int .i64 a, .int .i64 b, .int .i64 f, .int .i64 c, .int .i64 m, .int .u8 C, .int .u16 F, .slice (some ⟨sb, so, none⟩) ss.length sc] := ((Blk.far7 (bx) (g' := w2.heap.size) (by omega) _ _ _ _ _ _ _).alloc _).on hb
            have bs : Blk w34 (w2.heap.size) 23 #[.int .i64 u0_, .int .i64 u1_, .int .i64 u2_, .int .i64 u3_, .int .i64 u4_, .int .i64 u5_, .int .i64 u6_] := ((Blk.set7 (bs) _ _ _ _ _ _ _).alloc _).on hb
            have bt : Blk w34 (w30.heap.size) 23 #[.int .i64 t0, .int .i64 t1, .int .i64 t2, .int .i64 t3, .int .i64 t4, .int .i64 t5, .int .i64 t6] := ((Blk.far7 (bt) (g' := w2.heap.size) (by omega) _ _ _ _ _ _ _).alloc _).on hb
            have hbz := hb.size
            have hbv : Below w2.heap.size w2 (((((((((w33).setCell ⟨w2.heap.size, 0, none⟩ (.int .i64 u0_)).setCell ⟨w2.heap.size, 1, none⟩ (.int .i64 u1_)).setCell ⟨w2.heap.size, 2, none⟩ (.int .i64 u2_)).setCell ⟨w2.heap.size, 3, none⟩ (.int .i64 u3_)).setCell ⟨w2.heap.size, 4, none⟩ (.int .i64 u4_)).setCell ⟨w2.heap.size, 5, none⟩ (.int .i64 u5_)).setCell ⟨w2.heap.size, 6, none⟩ (.int .i64 u6_)).alloc (.cells #[.int .i64 u0_, .int .i64 u1_, .int .i64 u2_, .int .i64 u3_, .int .i64 u4_, .int .i64 u5_, .int .i64 u6_] 23)) := (below_set7 (HB33.out) (H := w2.heap.size) (by first | exact Nat.le_refl _ | omega) _ _ _ _ _ _ _).alloc (below_set7 (HB33.out) (H := w2.heap.size) (by first | exact Nat.le_refl _ | omega) _ _ _ _ _ _ _).size _
            have HB34 := Lib.hid (hbv.trans (hb.mono hbv.size))
            clear hbv
            have hz34 : w2.heap.size ≤ w34.heap.size := HB34.out.size
            clear hb hbz
            rw [HE.out]
            have q_bx0 : w34.cell? ⟨w.heap.size, 0, none⟩ = some (.int .i64 p0) := bx.cell 0
            have q_bx1 : w34.cell? ⟨w.heap.size, 1, none⟩ = some (.int .i64 p1) := bx.cell 1
            have q_bx2 : w34.cell? ⟨w.heap.size, 2, none⟩ = some (.int .i64 p2) := bx.cell 2
            have q_bx3 : w34.cell? ⟨w.heap.size, 3, none⟩ = some (.int .i64 a) := bx.cell 3
            have q_bx4 : w34.cell? ⟨w.heap.size, 4, none⟩ = some (.int .i64 b) := bx.cell 4
            have q_bx5 : w34.cell? ⟨w.heap.size, 5, none⟩ = some (.int .i64 f) := bx.cell 5
            have q_bx6 : w34.cell? ⟨w.heap.size, 6, none⟩ = some (.int .i64 c) := bx.cell 6
            have q_bx7 : w34.cell? ⟨w.heap.size, 7, none⟩ = some (.int .i64 m) := bx.cell 7
            have q_bx8 : w34.cell? ⟨w.heap.size, 8, none⟩ = some (.int .u8 C) := bx.cell 8
            have q_bx9 : w34.cell? ⟨w.heap.size, 9, none⟩ = some (.int .u16 F) := bx.cell 9
            have q_bx10 : w34.cell? ⟨w.heap.size, 10, none⟩ = some (.slice (some ⟨sb, so, none⟩) ss.length sc) := bx.cell 10
            have q_bs0 : w34.cell? ⟨w2.heap.size, 0, none⟩ = some (.int .i64 u0_) := bs.cell 0
            have q_bs1 : w34.cell? ⟨w2.heap.size, 1, none⟩ = some (.int .i64 u1_) := bs.cell 1
            have q_bs2 : w34.cell? ⟨w2.heap.size, 2, none⟩ = some (.int .i64 u2_) := bs.cell 2
            have q_bs3 : w34.cell? ⟨w2.heap.size, 3, none⟩ = some (.int .i64 u3_) := bs.cell 3
            have q_bs4 : w34.cell? ⟨w2.heap.size, 4, none⟩ = some (.int .i64 u4_) := bs.cell 4
            have q_bs5 : w34.cell? ⟨w2.heap.size, 5, none⟩ = some (.int .i64 u5_) := bs.cell 5
            have q_bs6 : w34.cell? ⟨w2.heap.size, 6, none⟩ = some (.int .i64 u6_) := bs.cell 6
            have q_bt0 : w34.cell? ⟨w30.heap.size, 0, none⟩ = some (.int .i64 t0) := bt.cell 0
            have q_bt1 : w34.cell? ⟨w30.heap.size, 1, none⟩ = some (.int .i64 t1) := bt.cell 1
            have q_bt2 : w34.cell? ⟨w30.heap.size, 2, none⟩ = some (.int .i64 t2) := bt.cell 2
            have q_bt3 : w34.cell? ⟨w30.heap.size, 3, none⟩ = some (.int .i64 t3) := bt.cell 3
            have q_bt4 : w34.cell? ⟨w30.heap.size, 4, none⟩ = some (.int .i64 t4) := bt.cell 4
            have q_bt5 : w34.cell? ⟨w30.heap.size, 5, none⟩ = some (.int .i64 t5) := bt.cell 5
            have q_bt6 : w34.cell? ⟨w30.heap.size, 6, none⟩ = some (.int .i64 t6) := bt.cell 6
            have l_bx : w.heap.size < w34.heap.size := bx.lt
            have l_bs : w2.heap.size < w34.heap.size := bs.lt
            have l_bt : w30.heap.size < w34.heap.size := bt.lt
            go_wp2_with fail
            go_roundw
            case rel => exact ⟨k + 1, (nx + 1), N, by omega, by go_num, by first | rfl | (congr 1; omega), rfl, ⟨HB34.out, ⟨u0_, u1_, u2_, u3_, u4_, u5_, u6_⟩, HI2.out, bs⟩⟩
            case measure => simp [intOf]; omega
        · have v1 : (v == 1) = false := beq_eq_false_iff_ne.2 hv
          by_cases hv2 : v = 0 ∨ (b1.length : Int) ≤ v - 2
          · have v2 : (v == 0) = true ∨ ((v == 0) = false ∧ decide ((b1.length : Int) ≤ v - 2) = true) := by by_cases h : v = 0; exact .inl (beq_iff_eq.2 h); exact .inr ⟨beq_eq_false_iff_ne.2 h, decide_eq_true (by omega)⟩
            clear hv hv2
            rcases v2 with v2 | ⟨v2, v3⟩
            all_goals
              have q_bx0 : w32.cell? ⟨w.heap.size, 0, none⟩ = some (.int .i64 p0) := bx.cell 0
              have q_bx1 : w32.cell? ⟨w.heap.size, 1, none⟩ = some (.int .i64 p1) := bx.cell 1
              have q_bx2 : w32.cell? ⟨w.heap.size, 2, none⟩ = some (.int .i64 p2) := bx.cell 2
              have q_bx3 : w32.cell? ⟨w.heap.size, 3, none⟩ = some (.int .i64 a) := bx.cell 3
              have q_bx4 : w32.cell? ⟨w.heap.size, 4, none⟩ = some (.int .i64 b) := bx.cell 4
              have q_bx5 : w32.cell? ⟨w.heap.size, 5, none⟩ = some (.int .i64 f) := bx.cell 5
              have q_bx6 : w32.cell? ⟨w.heap.size, 6, none⟩ = some (.int .i64 c) := bx.cell 6
              have q_bx7 : w32.cell? ⟨w.heap.size, 7, none⟩ = some (.int .i64 m) := bx.cell 7
              have q_bx8 : w32.cell? ⟨w.heap.size, 8, none⟩ = some (.int .u8 C) := bx.cell 8
              have q_bx9 : w32.cell? ⟨w.heap.size, 9, none⟩ = some (.int .u16 F) := bx.cell 9
              have q_bx10 : w32.cell? ⟨w.heap.size, 10, none⟩ = some (.slice (some ⟨sb, so, none⟩) ss.length sc) := bx.cell 10
              have q_bs0 : w32.cell? ⟨w2.heap.size, 0, none⟩ = some (.int .i64 sh) := bs.cell 0
              have q_bs1 : w32.cell? ⟨w2.heap.size, 1, none⟩ = some (.int .i64 nxs) := bs.cell 1
              have q_bs2 : w32.cell? ⟨w2.heap.size, 2, none⟩ = some (.int .i64 fl) := bs.cell 2
              have q_bs3 : w32.cell? ⟨w2.heap.size, 3, none⟩ = some (.int .i64 ac) := bs.cell 3
              have q_bs4 : w32.cell? ⟨w2.heap.size, 4, none⟩ = some (.int .i64 fi) := bs.cell 4
              have q_bs5 : w32.cell? ⟨w2.heap.size, 5, none⟩ = some (.int .i64 wa) := bs.cell 5
              have q_bs6 : w32.cell? ⟨w2.heap.size, 6, none⟩ = some (.int .i64 li) := bs.cell 6
              have q_bt0 : w32.cell? ⟨w30.heap.size, 0, none⟩ = some (.int .i64 t0) := bt.cell 0
              have q_bt1 : w32.cell? ⟨w30.heap.size, 1, none⟩ = some (.int .i64 t1) := bt.cell 1
              have q_bt2 : w32.cell? ⟨w30.heap.size, 2, none⟩ = some (.int .i64 t2) := bt.cell 2
              have q_bt3 : w32.cell? ⟨w30.heap.size, 3, none⟩ = some (.int .i64 t3) := bt.cell 3
              have q_bt4 : w32.cell? ⟨w30.heap.size, 4, none⟩ = some (.int .i64 t4) := bt.cell 4
              have q_bt5 : w32.cell? ⟨w30.heap.size, 5, none⟩ = some (.int .i64 t5) := bt.cell 5
              have q_bt6 : w32.cell? ⟨w30.heap.size, 6, none⟩ = some (.int .i64 t6) := bt.cell 6
              have l_bx : w.heap.size < w32.heap.size := bx.lt
              have l_bs : w2.heap.size < w32.heap.size := bs.lt
              have l_bt : w30.heap.size < w32.heap.size := bt.lt
              go_wp2_with fail
              refine (Succeed_any t0 t1 t2 t3 t4 t5 t6 _).mono ?_
              rintro e w33 ⟨rfl, hb⟩
              clear q_bx0 q_bx1 q_bx2 q_bx3 q_bx4 q_bx5 q_bx6 q_bx7 q_bx8 q_bx9 q_bx10 q_bs0 q_bs1 q_bs2 q_bs3 q_bs4 q_bs5 q_bs6 q_bt0 q_bt1 q_bt2 q_bt3 q_bt4 q_bt5 q_bt6 l_bx l_bs l_bt
              have bx : Blk w33 (w.heap.size) 48 #[.int .i64 p0, .int .i64 p1, .int .i64 p2, .int .i64 a, .int .i64 b, .int .i64 f, .int .i64 c, .int .i64 m, .int .u8 C, .int .u16 F, .slice (some ⟨sb, so, none⟩) ss.length sc] := (bx).on hb
              have bs : Blk w33 (w2.heap.size) 23 #[.int .i64 sh, .int .i64 nxs, .int .i64 fl, .int .i64 ac, .int .i64 fi, .int .i64 wa, .int .i64 li] := (bs).on hb
              have bt : Blk w33 (w30.heap.size) 23 #[.int .i64 t0, .int .i64 t1, .int .i64 t2, .int .i64 t3, .int .i64 t4, .int .i64 t5, .int .i64 t6] := (bt).on hb
              have hbz := hb.size
              have HB33 := Lib.hid ((HB32.out).trans (hb.mono (by first | exact Nat.le_refl _ | omega | (simp; done) | (simp; omega))))
              have hz33 : w2.heap.size ≤ w33.heap.size := HB33.out.size
              clear hb hbz
              generalize hR : sucS ⟨t0, t1, t2, t3, t4, t5, t6⟩ = R
              obtain ⟨⟨u0_, u1_, u2_, u3_, u4_, u5_, u6_⟩, e⟩ := R
              obtain ⟨rfl, hx2, hI2⟩ := HFL.out.suc ⟨hF0, hF1⟩ hC hNb.1 hR
              clear hR
              simp only [MR, MS.cs]
              have HI2 := Lib.hid hI2
              have HE := Lib.hid hI2.e
              simp only at hx2
              have k2 : (u1_ != nx + (b1.length : Int)) = false := by rw [hx2]; exact bne_self_eq_false _
              clear hI2 hx2
              have q_bx0 : w33.cell? ⟨w.heap.size, 0, none⟩ = some (.int .i64 p0) := bx.cell 0
              have q_bx1 : w33.cell? ⟨w.heap.size, 1, none⟩ = some (.int .i64 p1) := bx.cell 1
              have q_bx2 : w33.cell? ⟨w.heap.size, 2, none⟩ = some (.int .i64 p2) := bx.cell 2
              have q_bx3 : w33.cell? ⟨w.heap.size, 3, none⟩ = some (.int .i64 a) := bx.cell 3
              have q_bx4 : w33.cell? ⟨w.heap.size, 4, none⟩ = some (.int .i64 b) := bx.cell 4
              have q_bx5 : w33.cell? ⟨w.heap.size, 5, none⟩ = some (.int .i64 f) := bx.cell 5
              have q_bx6 : w33.cell? ⟨w.heap.size, 6, none⟩ = some (.int .i64 c) := bx.cell 6
              have q_bx7 : w33.cell? ⟨w.heap.size, 7, none⟩ = some (.int .i64 m) := bx.cell 7
              have q_bx8 : w33.cell? ⟨w.heap.size, 8, none⟩ = some (.int .u8 C) := bx.cell 8
              have q_bx9 : w33.cell? ⟨w.heap.size, 9, none⟩ = some (.int .u16 F) := bx.cell 9
              have q_bx10 : w33.cell? ⟨w.heap.size, 10, none⟩ = some (.slice (some ⟨sb, so, none⟩) ss.length sc) := bx.cell 10
              have q_bs0 : w33.cell? ⟨w2.heap.size, 0, none⟩ = some (.int .i64 sh) := bs.cell 0
              have q_bs1 : w33.cell? ⟨w2.heap.size, 1, none⟩ = some (.int .i64 nxs) := bs.cell 1
              have q_bs2 : w33.cell? ⟨w2.heap.size, 2, none⟩ = some (.int .i64 fl) := bs.cell 2
              have q_bs3 : w33.cell? ⟨w2.heap.size, 3, none⟩ = some (.int .i64 ac) := bs.cell 3
              have q_bs4 : w33.cell? ⟨w2.heap.size, 4, none⟩ = some (.int .i64 fi) := bs.cell 4
              have q_bs5 : w33.cell? ⟨w2.heap.size, 5, none⟩ = some (.int .i64 wa) := bs.cell 5
              have q_bs6 : w33.cell? ⟨w2.heap.size, 6, none⟩ = some (.int .i64 li) := bs.cell 6
              have q_bt0 : w33.cell? ⟨w30.heap.size, 0, none⟩ = some (.int .i64 t0) := bt.cell 0
              have q_bt1 : w33.cell? ⟨w30.heap.size, 1, none⟩ = some (.int .i64 t1) := bt.cell 1
              have q_bt2 : w33.cell? ⟨w30.heap.size, 2, none⟩ = some (.int .i64 t2) := bt.cell 2
              have q_bt3 : w33.cell? ⟨w30.heap.size, 3, none⟩ = some (.int .i64 t3) := bt.cell 3
              have q_bt4 : w33.cell? ⟨w30.heap.size, 4, none⟩ = some (.int .i64 t4) := bt.cell 4
              have q_bt5 : w33.cell? ⟨w30.heap.size, 5, none⟩ = some (.int .i64 t5) := bt.cell 5
              have q_bt6 : w33.cell? ⟨w30.heap.size, 6, none⟩ = some (.int .i64 t6) := bt.cell 6
              have l_bx : w.heap.size < w33.heap.size := bx.lt
              have l_bs : w2.heap.size < w33.heap.size := bs.lt
              have l_bt : w30.heap.size < w33.heap.size := bt.lt
              have f_bs0 : w33.frozen? ⟨w2.heap.size, 0, none⟩ = false := bs.frozen 0
              have f_bs1 : w33.frozen? ⟨w2.heap.size, 1, none⟩ = false := bs.frozen 1
              have f_bs2 : w33.frozen? ⟨w2.heap.size, 2, none⟩ = false := bs.frozen 2
              have f_bs3 : w33.frozen? ⟨w2.heap.size, 3, none⟩ = false := bs.frozen 3
              have f_bs4 : w33.frozen? ⟨w2.heap.size, 4, none⟩ = false := bs.frozen 4
              have f_bs5 : w33.frozen? ⟨w2.heap.size, 5, none⟩ = false := bs.frozen 5
              have f_bs6 : w33.frozen? ⟨w2.heap.size, 6, none⟩ = false := bs.frozen 6
              go_wp2_with fail
              refine (MCheck_lit u0_ u1_ u2_ u3_ u4_ u5_ u6_ _).mono ?_
              rintro e w34 ⟨rfl, hb⟩
              have n_bx_bu : w.heap.size < w33.heap.size := by have := bx.lt; omega
              have n_bs_bu : w2.heap.size < w33.heap.size := by have := bs.lt; omega
              have n_bt_bu : w30.heap.size < w33.heap.size := by have := bt.lt; omega
              clear q_bx0 q_bx1 q_bx2 q_bx3 q_bx4 q_bx5 q_bx6 q_bx7 q_bx8 q_bx9 q_bx10 q_bs0 q_bs1 q_bs2 q_bs3 q_bs4 q_bs5 q_bs6 q_bt0 q_bt1 q_bt2 q_bt3 q_bt4 q_bt5 q_bt6 l_bx l_bs l_bt f_bs0 f_bs1 f_bs2 f_bs3 f_bs4 f_bs5 f_bs6
              have bx : Blk w34 (w.heap.size) 48 #[.int .i64 p0, .int .i64 p1, .int .i64 p2, .int .i64 a, .int .i64 b, .int .i64 f, .int .i64 c, .int .i64 m, .int .u8 C, .int .u16 F, .slice (some ⟨sb, so, none⟩) ss.length sc] := ((Blk.far7 (bx) (g' := w2.heap.size) (by omega) _ _ _ _ _ _ _).alloc _).on hb
              have bs : Blk w34 (w2.heap.size) 23 #[.int .i64 u0_, .int .i64 u1_, .int .i64 u2_, .int .i64 u3_, .int .i64 u4_, .int .i64 u5_, .int .i64 u6_] := ((Blk.set7 (bs) _ _ _ _ _ _ _).alloc _).on hb
              have bt : Blk w34 (w30.heap.size) 23 #[.int .i64 t0, .int .i64 t1, .int .i64 t2, .int .i64 t3, .int .i64 t4, .int .i64 t5, .int .i64 t6] := ((Blk.far7 (bt) (g' := w2.heap.size) (by omega) _ _ _ _ _ _ _).alloc _).on hb
              have hbz := hb.size
              have hbv : Below w2.heap.size w2 (((((((((w33).setCell ⟨w2.heap.size, 0, none⟩ (.int .i64 u0_)).setCell ⟨w2.heap.size, 1, none⟩ (.int .i64 u1_)).setCell ⟨w2.heap.size, 2, none⟩ (.int .i64 u2_)).setCell ⟨w2.heap.size, 3, none⟩ (.int .i64 u3_)).setCell ⟨w2.heap.size, 4, none⟩ (.int .i64 u4_)).setCell ⟨w2.heap.size, 5, none⟩ (.int .i64 u5_)).setCell ⟨w2.heap.size, 6, none⟩ (.int .i64 u6_)).alloc (.cells #[.int .i64 u0_, .int .i64 u1_, .int .i64 u2_, .int .i64 u3_, .int .i64 u4_, .int .i64 u5_, .int .i64 u6_] 23)) := (below_set7 (HB33.out) (H := w2.heap.size) (by first | exact Nat.le_refl _ | omega) _ _ _ _ _ _ _).alloc (below_set7 (HB33.out) (H := w2.heap.size) (by first | exact Nat.le_refl _ | omega) _ _ _ _ _ _ _).size _
              have HB34 := Lib.hid (hbv.trans (hb.mono hbv.size))
              clear hbv
              have hz34 : w2.heap.size ≤ w34.heap.size := HB34.out.size
              clear hb hbz
              rw [HE.out]
              have q_bx0 : w34.cell? ⟨w.heap.size, 0, none⟩ = some (.int .i64 p0) := bx.cell 0
              have q_bx1 : w34.cell? ⟨w.heap.size, 1, none⟩ = some (.int .i64 p1) := bx.cell 1
              have q_bx2 : w34.cell? ⟨w.heap.size, 2, none⟩ = some (.int .i64 p2) := bx.cell 2
              have q_bx3 : w34.cell? ⟨w.heap.size, 3, none⟩ = some (.int .i64 a) := bx.cell 3
              have q_bx4 : w34.cell? ⟨w.heap.size, 4, none⟩ = some (.int .i64 b) := bx.cell 4
              have q_bx5 : w34.cell? ⟨w.heap.size, 5, none⟩ = some (.int .i64 f) := bx.cell 5
              have q_bx6 : w34.cell? ⟨w.heap.size, 6, none⟩ = some (.int .i64 c) := bx.cell 6
              have q_bx7 : w34.cell? ⟨w.heap.size, 7, none⟩ = some (.int .i64 m) := bx.cell 7
              have q_bx8 : w34.cell? ⟨w.heap.size, 8, none⟩ = some (.int .u8 C) := bx.cell 8
              have q_bx9 : w34.cell? ⟨w.heap.size, 9, none⟩ = some (.int .u16 F) := bx.cell 9
              have q_bx10 : w34.cell? ⟨w.heap.size, 10, none⟩ = some (.slice (some ⟨sb, so, none⟩) ss.length sc) := bx.cell 10
              have q_bs0 : w34.cell? ⟨w2.heap.size, 0, none⟩ = some (.int .i64 u0_) := bs.cell 0
              have q_bs1 : w34.cell? ⟨w2.heap.size, 1, none⟩ = some (.int .i64 u1_) := bs.cell 1
              have q_bs2 : w34.cell? ⟨w2.heap.size, 2, none⟩ = some (.int .i64 u2_) := bs.cell 2
              have q_bs3 : w34.cell? ⟨w2.heap.size, 3, none⟩ = some (.int .i64 u3_) := bs.cell 3
              have q_bs4 : w34.cell? ⟨w2.heap.size, 4, none⟩ = some (.int .i64 u4_) := bs.cell 4
              have q_bs5 : w34.cell? ⟨w2.heap.size, 5, none⟩ = some (.int .i64 u5_) := bs.cell 5
              have q_bs6 : w34.cell? ⟨w2.heap.size, 6, none⟩ = some (.int .i64 u6_) := bs.cell 6
              have q_bt0 : w34.cell? ⟨w30.heap.size, 0, none⟩ = some (.int .i64 t0) := bt.cell 0
              have q_bt1 : w34.cell? ⟨w30.heap.size, 1, none⟩ = some (.int .i64 t1) := bt.cell 1
              have q_bt2 : w34.cell? ⟨w30.heap.size, 2, none⟩ = some (.int .i64 t2) := bt.cell 2
              have q_bt3 : w34.cell? ⟨w30.heap.size, 3, none⟩ = some (.int .i64 t3) := bt.cell 3
              have q_bt4 : w34.cell? ⟨w30.heap.size, 4, none⟩ = some (.int .i64 t4) := bt.cell 4
              have q_bt5 : w34.cell? ⟨w30.heap.size, 5, none⟩ = some (.int .i64 t5) := bt.cell 5
              have q_bt6 : w34.cell? ⟨w30.heap.size, 6, none⟩ = some (.int .i64 t6) := bt.cell 6
              have l_bx : w.heap.size < w34.heap.size := bx.lt
              have l_bs : w2.heap.size < w34.heap.size := bs.lt
              have l_bt : w30.heap.size < w34.heap.size := bt.lt
              go_wp2_with fail
              go_roundw
              case rel => exact ⟨k + 1, (nx + (b1.length : Int)), N, by omega, by go_num, by first | rfl | (congr 1; omega), rfl, ⟨HB34.out, ⟨u0_, u1_, u2_, u3_, u4_, u5_, u6_⟩, HI2.out, bs⟩⟩
              case measure => simp [intOf]; omega
          · have v2 : (v == 0) = false := beq_eq_false_iff_ne.2 (by omega)
            have v3 : decide ((b1.length : Int) ≤ v - 2) = false := decide_eq_false (by omega)
            have v4 : 0 ≤ v - 2 ∧ v - 2 < (b1.length : Int) := by omega
            clear hv2 hv
            have q_bx0 : w32.cell? ⟨w.heap.size, 0, none⟩ = some (.int .i64 p0) := bx.cell 0
            have q_bx1 : w32.cell? ⟨w.heap.size, 1, none⟩ = some (.int .i64 p1) := bx.cell 1
            have q_bx2 : w32.cell? ⟨w.heap.size, 2, none⟩ = some (.int .i64 p2) := bx.cell 2
            have q_bx3 : w32.cell? ⟨w.heap.size, 3, none⟩ = some (.int .i64 a) := bx.cell 3
            have q_bx4 : w32.cell? ⟨w.heap.size, 4, none⟩ = some (.int .i64 b) := bx.cell 4
            have q_bx5 : w32.cell? ⟨w.heap.size, 5, none⟩ = some (.int .i64 f) := bx.cell 5
            have q_bx6 : w32.cell? ⟨w.heap.size, 6, none⟩ = some (.int .i64 c) := bx.cell 6
            have q_bx7 : w32.cell? ⟨w.heap.size, 7, none⟩ = some (.int .i64 m) := bx.cell 7
            have q_bx8 : w32.cell? ⟨w.heap.size, 8, none⟩ = some (.int .u8 C) := bx.cell 8
            have q_bx9 : w32.cell? ⟨w.heap.size, 9, none⟩ = some (.int .u16 F) := bx.cell 9
            have q_bx10 : w32.cell? ⟨w.heap.size, 10, none⟩ = some (.slice (some ⟨sb, so, none⟩) ss.length sc) := bx.cell 10
            have q_bs0 : w32.cell? ⟨w2.heap.size, 0, none⟩ = some (.int .i64 sh) := bs.cell 0
            have q_bs1 : w32.cell? ⟨w2.heap.size, 1, none⟩ = some (.int .i64 nxs) := bs.cell 1
            have q_bs2 : w32.cell? ⟨w2.heap.size, 2, none⟩ = some (.int .i64 fl) := bs.cell 2
            have q_bs3 : w32.cell? ⟨w2.heap.size, 3, none⟩ = some (.int .i64 ac) := bs.cell 3
            have q_bs4 : w32.cell? ⟨w2.heap.size, 4, none⟩ = some (.int .i64 fi) := bs.cell 4
            have q_bs5 : w32.cell? ⟨w2.heap.size, 5, none⟩ = some (.int .i64 wa) := bs.cell 5
            have q_bs6 : w32.cell? ⟨w2.heap.size, 6, none⟩ = some (.int .i64 li) := bs.cell 6
            have q_bt0 : w32.cell? ⟨w30.heap.size, 0, none⟩ = some (.int .i64 t0) := bt.cell 0
            have q_bt1 : w32.cell? ⟨w30.heap.size, 1, none⟩ = some (.int .i64 t1) := bt.cell 1
            have q_bt2 : w32.cell? ⟨w30.heap.size, 2, none⟩ = some (.int .i64 t2) := bt.cell 2
            have q_bt3 : w32.cell? ⟨w30.heap.size, 3, none⟩ = some (.int .i64 t3) := bt.cell 3
            have q_bt4 : w32.cell? ⟨w30.heap.size, 4, none⟩ = some (.int .i64 t4) := bt.cell 4
            have q_bt5 : w32.cell? ⟨w30.heap.size, 5, none⟩ = some (.int .i64 t5) := bt.cell 5
            have q_bt6 : w32.cell? ⟨w30.heap.size, 6, none⟩ = some (.int .i64 t6) := bt.cell 6
            have l_bx : w.heap.size < w32.heap.size := bx.lt
            have l_bs : w2.heap.size < w32.heap.size := bs.lt
            have l_bt : w30.heap.size < w32.heap.size := bt.lt
            go_wp2_with fail
            refine (Partial_any t0 t1 t2 t3 t4 t5 t6 (v - 2) _).mono ?_
            rintro e w33 ⟨rfl, hb⟩
            clear q_bx0 q_bx1 q_bx2 q_bx3 q_bx4 q_bx5 q_bx6 q_bx7 q_bx8 q_bx9 q_bx10 q_bs0 q_bs1 q_bs2 q_bs3 q_bs4 q_bs5 q_bs6 q_bt0 q_bt1 q_bt2 q_bt3 q_bt4 q_bt5 q_bt6 l_bx l_bs l_bt
            have bx : Blk w33 (w.heap.size) 48 #[.int .i64 p0, .int .i64 p1, .int .i64 p2, .int .i64 a, .int .i64 b, .int .i64 f, .int .i64 c, .int .i64 m, .int .u8 C, .int .u16 F, .slice (some ⟨sb, so, none⟩) ss.length sc] := (bx).on hb
            have bs : Blk w33 (w2.heap.size) 23 #[.int .i64 sh, .int .i64 nxs, .int .i64 fl, .int .i64 ac, .int .i64 fi, .int .i64 wa, .int .i64 li] := (bs).on hb
            have bt : Blk w33 (w30.heap.size) 23 #[.int .i64 t0, .int .i64 t1, .int .i64 t2, .int .i64 t3, .int .i64 t4, .int .i64 t5, .int .i64 t6] := (bt).on hb
            have hbz := hb.size
            have HB33 := Lib.hid ((HB32.out).trans (hb.mono (by first | exact Nat.le_refl _ | omega | (simp; done) | (simp; omega))))
            have hz33 : w2.heap.size ≤ w33.heap.size := HB33.out.size
            clear hb hbz
            generalize hR : parS ⟨t0, t1, t2, t3, t4, t5, t6⟩ (v - 2) = R
            obtain ⟨⟨u0_, u1_, u2_, u3_, u4_, u5_, u6_⟩, e⟩ := R
            obtain ⟨rfl, hli, hx2, hI2⟩ := HFL.out.par ⟨hF0, hF1⟩ hC hNb.1 v4 hR
            clear hR
            simp only at hli
            simp only [MR, MS.cs]
            have HI2 := Lib.hid hI2
            have HE := Lib.hid hI2.e
            have k1 : (u6_ != (b1.length : Int) - (v - 2)) = false := by rw [hli]; exact bne_self_eq_false _
            simp only at hx2
            have k2 : (u1_ != nx + v - 2) = false := by rw [hx2, show nx + (v - 2) = nx + v - 2 by omega]; exact bne_self_eq_false _
            clear hI2 hli hx2
            have q_bx0 : w33.cell? ⟨w.heap.size, 0, none⟩ = some (.int .i64 p0) := bx.cell 0
            have q_bx1 : w33.cell? ⟨w.heap.size, 1, none⟩ = some (.int .i64 p1) := bx.cell 1
            have q_bx2 : w33.cell? ⟨w.heap.size, 2, none⟩ = some (.int .i64 p2) := bx.cell 2
            have q_bx3 : w33.cell? ⟨w.heap.size, 3, none⟩ = some (.int .i64 a) := bx.cell 3
            have q_bx4 : w33.cell? ⟨w.heap.size, 4, none⟩ = some (.int .i64 b) := bx.cell 4
            have q_bx5 : w33.cell? ⟨w.heap.size, 5, none⟩ = some (.int .i64 f) := bx.cell 5
            have q_bx6 : w33.cell? ⟨w.heap.size, 6, none⟩ = some (.int .i64 c) := bx.cell 6
            have q_bx7 : w33.cell? ⟨w.heap.size, 7, none⟩ = some (.int .i64 m) := bx.cell 7
            have q_bx8 : w33.cell? ⟨w.heap.size, 8, none⟩ = some (.int .u8 C) := bx.cell 8
            have q_bx9 : w33.cell? ⟨w.heap.size, 9, none⟩ = some (.int .u16 F) := bx.cell 9
            have q_bx10 : w33.cell? ⟨w.heap.size, 10, none⟩ = some (.slice (some ⟨sb, so, none⟩) ss.length sc) := bx.cell 10
            have q_bs0 : w33.cell? ⟨w2.heap.size, 0, none⟩ = some (.int .i64 sh) := bs.cell 0
            have q_bs1 : w33.cell? ⟨w2.heap.size, 1, none⟩ = some (.int .i64 nxs) := bs.cell 1
            have q_bs2 : w33.cell? ⟨w2.heap.size, 2, none⟩ = some (.int .i64 fl) := bs.cell 2
            have q_bs3 : w33.cell? ⟨w2.heap.size, 3, none⟩ = some (.int .i64 ac) := bs.cell 3
            have q_bs4 : w33.cell? ⟨w2.heap.size, 4, none⟩ = some (.int .i64 fi) := bs.cell 4
            have q_bs5 : w33.cell? ⟨w2.heap.size, 5, none⟩ = some (.int .i64 wa) := bs.cell 5
            have q_bs6 : w33.cell? ⟨w2.heap.size, 6, none⟩ = some (.int .i64 li) := bs.cell 6
            have q_bt0 : w33.cell? ⟨w30.heap.size, 0, none⟩ = some (.int .i64 t0) := bt.cell 0
            have q_bt1 : w33.cell? ⟨w30.heap.size, 1, none⟩ = some (.int .i64 t1) := bt.cell 1
            have q_bt2 : w33.cell? ⟨w30.heap.size, 2, none⟩ = some (.int .i64 t2) := bt.cell 2
            have q_bt3 : w33.cell? ⟨w30.heap.size, 3, none⟩ = some (.int .i64 t3) := bt.cell 3
            have q_bt4 : w33.cell? ⟨w30.heap.size, 4, none⟩ = some (.int .i64 t4) := bt.cell 4
            have q_bt5 : w33.cell? ⟨w30.heap.size, 5, none⟩ = some (.int .i64 t5) := bt.cell 5
            have q_bt6 : w33.cell? ⟨w30.heap.size, 6, none⟩ = some (.int .i64 t6) := bt.cell 6
            have l_bx : w.heap.size < w33.heap.size := bx.lt
            have l_bs : w2.heap.size < w33.heap.size := bs.lt
            have l_bt : w30.heap.size < w33.heap.size := bt.lt
            have f_bs0 : w33.frozen? ⟨w2.heap.size, 0, none⟩ = false := bs.frozen 0
            have f_bs1 : w33.frozen? ⟨w2.heap.size, 1, none⟩ = false := bs.frozen 1
            have f_bs2 : w33.frozen? ⟨w2.heap.size, 2, none⟩ = false := bs.frozen 2
            have f_bs3 : w33.frozen? ⟨w2.heap.size, 3, none⟩ = false := bs.frozen 3
            have f_bs4 : w33.frozen? ⟨w2.heap.size, 4, none⟩ = false := bs.frozen 4
            have f_bs5 : w33.frozen? ⟨w2.heap.size, 5, none⟩ = false := bs.frozen 5
            have f_bs6 : w33.frozen? ⟨w2.heap.size, 6, none⟩ = false := bs.frozen 6
            go_wp2_with fail
            refine (MCheck_lit u0_ u1_ u2_ u3_ u4_ u5_ u6_ _).mono ?_
            rintro e w34 ⟨rfl, hb⟩
            have n_bx_bu : w.heap.size < w33.heap.size := by have := bx.lt; omega
            have n_bs_bu : w2.heap.size < w33.heap.size := by have := bs.lt; omega
            have n_bt_bu : w30.heap.size < w33.heap.size := by have := bt.lt; omega
            clear q_bx0 q_bx1 q_bx2 q_bx3 q_bx4 q_bx5 q_bx6 q_bx7 q_bx8 q_bx9 q_bx10 q_bs0 q_bs1 q_bs2 q_bs3 q_bs4 q_bs5 q_bs6 q_bt0 q_bt1 q_bt2 q_bt3 q_bt4 q_bt5 q_bt6 l_bx l_bs l_bt f_bs0 f_bs1 f_bs2 f_bs3 f_bs4 f_bs5 f_bs6
            have bx : Blk w34 (w.heap.size) 48 #[.int .i64 p0, .int .i64 p1, .int .i64 p2, .int .i64 a, .int .i64 b, .int .i64 f, .int .i64 c, .int .i64 m, .int .u8 C, .int .u16 F, .slice (some ⟨sb, so, none⟩) ss.length sc] := ((Blk.far7 (bx) (g' := w2.heap.size) (by omega) _ _ _ _ _ _ _).alloc _).on hb
            have bs : Blk w34 (w2.heap.size) 23 #[.int .i64 u0_, .int .i64 u1_, .int .i64 u2_, .int .i64 u3_, .int .i64 u4_, .int .i64 u5_, .int .i64 u6_] := ((Blk.set7 (bs) _ _ _ _ _ _ _).alloc _).on hb
            have bt : Blk w34 (w30.heap.size) 23 #[.int .i64 t0, .int .i64 t1, .int .i64 t2, .int .i64 t3, .int .i64 t4, .int .i64 t5, .int .i64 t6] := ((Blk.far7 (bt) (g' := w2.heap.size) (by omega) _ _ _ _ _ _ _).alloc _).on hb
            have hbz := hb.size
            have hbv : Below w2.heap.size w2 (((((((((w33).setCell ⟨w2.heap.size, 0, none⟩ (.int .i64 u0_)).setCell ⟨w2.heap.size, 1, none⟩ (.int .i64 u1_)).setCell ⟨w2.heap.size, 2, none⟩ (.int .i64 u2_)).setCell ⟨w2.heap.size, 3, none⟩ (.int .i64 u3_)).setCell ⟨w2.heap.size, 4, none⟩ (.int .i64 u4_)).setCell ⟨w2.heap.size, 5, none⟩ (.int .i64 u5_)).setCell ⟨w2.heap.size, 6, none⟩ (.int .i64 u6_)).alloc (.cells #[.int .i64 u0_, .int .i64 u1_, .int .i64 u2_, .int .i64 u3_, .int .i64 u4_, .int .i64 u5_, .int .i64 u6_] 23)) := (below_set7 (HB33.out) (H := w2.heap.size) (by first | exact Nat.le_refl _ | omega) _ _ _ _ _ _ _).alloc (below_set7 (HB33.out) (H := w2.heap.size) (by first | exact Nat.le_refl _ | omega) _ _ _ _ _ _ _).size _
            have HB34 := Lib.hid (hbv.trans (hb.mono hbv.size))
            clear hbv
            have hz34 : w2.heap.size ≤ w34.heap.size := HB34.out.size
            clear hb hbz
            rw [HE.out]
            have q_bx0 : w34.cell? ⟨w.heap.size, 0, none⟩ = some (.int .i64 p0) := bx.cell 0
            have q_bx1 : w34.cell? ⟨w.heap.size, 1, none⟩ = some (.int .i64 p1) := bx.cell 1
            have q_bx2 : w34.cell? ⟨w.heap.size, 2, none⟩ = some (.int .i64 p2) := bx.cell 2
            have q_bx3 : w34.cell? ⟨w.heap.size, 3, none⟩ = some (.int .i64 a) := bx.cell 3
            have q_bx4 : w34.cell? ⟨w.heap.size, 4, none⟩ = some (.int .i64 b) := bx.cell 4
            have q_bx5 : w34.cell? ⟨w.heap.size, 5, none⟩ = some (.int .i64 f) := bx.cell 5
            have q_bx6 : w34.cell? ⟨w.heap.size, 6, none⟩ = some (.int .i64 c) := bx.cell 6
            have q_bx7 : w34.cell? ⟨w.heap.size, 7, none⟩ = some (.int .i64 m) := bx.cell 7
            have q_bx8 : w34.cell? ⟨w.heap.size, 8, none⟩ = some (.int .u8 C) := bx.cell 8
            have q_bx9 : w34.cell? ⟨w.heap.size, 9, none⟩ = some (.int .u16 F) := bx.cell 9
            have q_bx10 : w34.cell? ⟨w.heap.size, 10, none⟩ = some (.slice (some ⟨sb, so, none⟩) ss.length sc) := bx.cell 10
            have q_bs0 : w34.cell? ⟨w2.heap.size, 0, none⟩ = some (.int .i64 u0_) := bs.cell 0
            have q_bs1 : w34.cell? ⟨w2.heap.size, 1, none⟩ = some (.int .i64 u1_) := bs.cell 1
            have q_bs2 : w34.cell? ⟨w2.heap.size, 2, none⟩ = some (.int .i64 u2_) := bs.cell 2
            have q_bs3 : w34.cell? ⟨w2.heap.size, 3, none⟩ = some (.int .i64 u3_) := bs.cell 3
            have q_bs4 : w34.cell? ⟨w2.heap.size, 4, none⟩ = some (.int .i64 u4_) := bs.cell 4
            have q_bs5 : w34.cell? ⟨w2.heap.size, 5, none⟩ = some (.int .i64 u5_) := bs.cell 5
            have q_bs6 : w34.cell? ⟨w2.heap.size, 6, none⟩ = some (.int .i64 u6_) := bs.cell 6
            have q_bt0 : w34.cell? ⟨w30.heap.size, 0, none⟩ = some (.int .i64 t0) := bt.cell 0
            have q_bt1 : w34.cell? ⟨w30.heap.size, 1, none⟩ = some (.int .i64 t1) := bt.cell 1
            have q_bt2 : w34.cell? ⟨w30.heap.size, 2, none⟩ = some (.int .i64 t2) := bt.cell 2
            have q_bt3 : w34.cell? ⟨w30.heap.size, 3, none⟩ = some (.int .i64 t3) := bt.cell 3
            have q_bt4 : w34.cell? ⟨w30.heap.size, 4, none⟩ = some (.int .i64 t4) := bt.cell 4
            have q_bt5 : w34.cell? ⟨w30.heap.size, 5, none⟩ = some (.int .i64 t5) := bt.cell 5
            have q_bt6 : w34.cell? ⟨w30.heap.size, 6, none⟩ = some (.int .i64 t6) := bt.cell 6
            have l_bx : w.heap.size < w34.heap.size := bx.lt
            have l_bs : w2.heap.size < w34.heap.size := bs.lt
            have l_bt : w30.heap.size < w34.heap.size := bt.lt
            go_wp2_with fail
            go_roundw
            case rel => exact ⟨k + 1, (nx + (v - 2)), N, by omega, by go_num, by first | rfl | (congr 1; omega), rfl, ⟨HB34.out, ⟨u0_, u1_, u2_, u3_, u4_, u5_, u6_⟩, HI2.out, bs⟩⟩
            case measure => simp [intOf]; omega
end Go.Proofs.Ytojghgeemdpmpaa
