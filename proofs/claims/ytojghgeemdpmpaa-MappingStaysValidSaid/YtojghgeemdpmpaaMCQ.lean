/- The example of the chapter: walked. -/
import Derived.Test.YtojghgeemdpmpaaMCI
import Derived.Test.YtojghgeemdpmpaaMCN
import Derived.Test.YtojghgeemdpmpaaMCP
namespace Go.Proofs.Ytojghgeemdpmpaa
open Go.RowKit
open Go.Sort (grow)
open BO (RP)

theorem aw0 : pollS ⟨0, 0, 0, 0, 0, 0, 0⟩ ⟨4, 100, 0⟩ (recsR 0 4) 0 = (⟨0, 0, 4, 1, 0, 0, 0⟩, recsR 0 4, 0) := by kernel_rfl
theorem aw1 : failS ⟨0, 0, 4, 1, 0, 0, 0⟩ ⟨2, 5, 1, 5, 100⟩ 1 = (⟨0, 0, 0, 0, 0, 1, 2⟩, false, 0) := by kernel_rfl
theorem aw2 : pollS ⟨0, 0, 0, 0, 0, 1, 2⟩ ⟨4, 100, 0⟩ (recsR 0 4) 1 = (⟨0, 0, 2, 1, 1, 1, 2⟩, recsR 0 2, 0) := by kernel_rfl
theorem aw3 : sucS ⟨0, 0, 2, 1, 1, 1, 2⟩ = (⟨0, 2, 0, 0, 0, 0, 0⟩, 0) := by kernel_rfl
theorem aw4 : pollS ⟨0, 2, 0, 0, 0, 0, 0⟩ ⟨4, 100, 0⟩ (recsR 0 4) 2 = (⟨0, 2, 2, 1, 2, 0, 0⟩, recsR 2 2, 0) := by kernel_rfl
theorem aw5 : failS ⟨0, 2, 2, 1, 2, 0, 0⟩ ⟨2, 5, 1, 5, 100⟩ 2 = (⟨0, 2, 0, 0, 0, 2, 1⟩, false, 0) := by kernel_rfl
theorem aw6 : pollS ⟨0, 2, 0, 0, 0, 2, 1⟩ ⟨4, 100, 0⟩ (recsR 0 4) 3 = (⟨0, 2, 1, 1, 3, 2, 1⟩, recsR 2 1, 0) := by kernel_rfl
theorem aw7 : failS ⟨0, 2, 1, 1, 3, 2, 1⟩ ⟨2, 5, 1, 5, 100⟩ 4 = (⟨0, 2, 0, 1, 3, 9, 1⟩, false, 0) := by kernel_rfl
theorem aw8 : pollS ⟨0, 2, 0, 1, 3, 9, 1⟩ ⟨4, 100, 0⟩ (recsR 0 4) 8 = (⟨0, 0, 0, 0, 0, 0, 0⟩, [], 17) := by kernel_rfl
theorem aw9 : pollS ⟨0, 2, 0, 1, 3, 9, 1⟩ ⟨4, 100, 0⟩ (recsR 0 4) 9 = (⟨0, 2, 1, 2, 3, 9, 1⟩, recsR 2 1, 0) := by kernel_rfl
theorem aw10 : failS ⟨0, 2, 1, 2, 3, 9, 1⟩ ⟨2, 5, 1, 5, 100⟩ 9 = (⟨0, 3, 0, 0, 0, 0, 0⟩, true, 0) := by kernel_rfl
theorem aw11 : parS ⟨0, 2, 1, 2, 3, 9, 1⟩ 1 = (⟨0, 0, 0, 0, 0, 0, 0⟩, 2) := by kernel_rfl
theorem aws : ckS ⟨0, 0, 0, 0, 0, 0, 0⟩ = (⟨0, 0, 0, 0, 0, 0, 0⟩, 0) := by kernel_rfl
theorem awb : blkB ⟨0, 0, 4, 1, 0, 0, 0⟩ 0 = true := by kernel_rfl
theorem awe : MS.e ⟨0, 2, 1, 2, 3, 9, 1⟩ = 0 := by kernel_rfl
theorem aw_sum {l : List RecX} (h : l.map (·.r) = recsR 0 4) : okB l := okB_r (by rw [h]; decide)
theorem aw_len {l : List RecX} {a : Int} {n : Nat} (h : l.map (·.r) = recsR a n) : l.length = n := by have := congrArg List.length h; simpa [recsR_length] using this
theorem RecsAt.seq {w : World} {B : Nat} {A : Option Addr} {l : List RecX} {a : Int} {n : Nat} (h : RecsAt w B A l) (hl : l.map (·.r) = recsR a n) {k : Nat} (hk : k < n) : ∃ b o, A = some ⟨b, o, none⟩ ∧ b < B ∧ w.cell? ⟨b, o + k * 10 + 1, none⟩ = some (.int .i64 (a + k)) := by
  have hn := aw_len hl
  obtain ⟨b, o, e, hb, ht⟩ := h.ten (k := k) (by omega)
  refine ⟨b, o, e, hb, ht.c1.trans ?_⟩
  have hx : (l.map (·.r))[k]? = (recsR a n)[k]? := by rw [hl]
  simp [recsR, show k < n from hk, show k < l.length by omega] at hx
  rw [hx]
  rfl
theorem Only.setb {g : Nat} {w w1 : World} (h : Only g g w w1) (x0 x1 x2 x3 x4 x5 x6 : Value) : Only g g w (((((((w1.setCell ⟨g, 0, none⟩ x0).setCell ⟨g, 1, none⟩ x1).setCell ⟨g, 2, none⟩ x2).setCell ⟨g, 3, none⟩ x3).setCell ⟨g, 4, none⟩ x4).setCell ⟨g, 5, none⟩ x5).setCell ⟨g, 6, none⟩ x6) := h.set7 (.inl rfl) _ _ _ _ _ _ _
set_option maxHeartbeats 16000000 in
set_option maxRecDepth 100000 in
theorem awake_any (w : World) : Calls Try.prog 14 #[] w fun e w' => e = .returned (.bool true) ∧ Below w.heap.size w w' := by
  go_enter Try.func14, Try.ntmps14
  go_wp2_with fail
  refine (records_any' 0 4 _ (by omega) (by omega)).mono ?_
  rintro e w1 ⟨A, c, l, rfl, hl, hlm, hb⟩
  have bp : Blk w1 w.heap.size 25 #[.int .i64 4, .int .i64 100, .int .i64 0] := ((Blk.new _ _ _).alloc _).on hb
  have br : Blk w1 (w.heap.size + 1) 27 #[.int .i64 2, .int .i64 5, .int .i64 1, .int .i64 5, .int .i64 100] := (Blk.new1 _ _ _ _).on hb
  have HB0 := Lib.hid (show Below w.heap.size w w1 from (((Below.refl _ _).alloc (Nat.le_refl _) _).alloc (by simp) _).trans (hb.mono (by simp; omega)))
  have HLM := Lib.hid hlm
  have HL := Lib.hid hl
  clear hlm hl hb
  go_wp2_with fail
  refine (Start_any 0 0 _).mono ?_
  rintro e w2 ⟨rfl, hb⟩
  rw [aws]
  simp only [MR, MS.cs]
  have bp : Blk w2 w.heap.size 25 #[.int .i64 4, .int .i64 100, .int .i64 0] := bp.on hb
  have br : Blk w2 (w.heap.size + 1) 27 #[.int .i64 2, .int .i64 5, .int .i64 1, .int .i64 5, .int .i64 100] := br.on hb
  have HL2 := Lib.hid ((HL.out.below hb).more hb.size)
  have HB1 := Lib.hid (HB0.out.trans (hb.mono HB0.out.size))
  clear hb HL HB0
  have hz2 := HB1.out.size
  have hbp2 := bp.lt
  have hbr2 := br.lt
  have HSB := Lib.hid (aw_sum HLM.out)
  have HLN := Lib.hid (show l.length ≤ 1034834473170 by rw [aw_len HLM.out]; decide)
  have HBP2 := Lib.hid bp
  have HBR2 := Lib.hid br
  have q_bp0 : w2.cell? ⟨w.heap.size, 0, none⟩ = some (.int .i64 4) := bp.cell 0
  have q_bp1 : w2.cell? ⟨w.heap.size, 1, none⟩ = some (.int .i64 100) := bp.cell 1
  have q_bp2 : w2.cell? ⟨w.heap.size, 2, none⟩ = some (.int .i64 0) := bp.cell 2
  have q_br0 : w2.cell? ⟨w.heap.size + 1, 0, none⟩ = some (.int .i64 2) := br.cell 0
  have q_br1 : w2.cell? ⟨w.heap.size + 1, 1, none⟩ = some (.int .i64 5) := br.cell 1
  have q_br2 : w2.cell? ⟨w.heap.size + 1, 2, none⟩ = some (.int .i64 1) := br.cell 2
  have q_br3 : w2.cell? ⟨w.heap.size + 1, 3, none⟩ = some (.int .i64 5) := br.cell 3
  have q_br4 : w2.cell? ⟨w.heap.size + 1, 4, none⟩ = some (.int .i64 100) := br.cell 4
  go_wp2_with fail
  refine (Poll_any 0 0 0 0 0 0 0 4 100 0 0 A c l _ ((HL2.out.below ((Below.refl _ _).alloc (Nat.le_refl _) _)).more ((Below.refl _ _).alloc (Nat.le_refl _) _).size) HLN.out HSB.out).mono ?_
  rintro e w3 ⟨A3, c3, b3, rfl, hr, hm, hb⟩
  clear q_bp0 q_bp1 q_bp2 q_br0 q_br1 q_br2 q_br3 q_br4
  rw [HLM.out, aw0] at hm
  rw [HLM.out, aw0]
  simp only [MS.cs]
  have bs : Blk w3 w2.heap.size 23 #[.int .i64 0, .int .i64 0, .int .i64 0, .int .i64 0, .int .i64 0, .int .i64 0, .int .i64 0] := (Blk.new _ _ _).on hb
  have HW3 := Lib.hid (show Below w2.heap.size w2 w3 from ((Below.refl _ _).alloc (Nat.le_refl _) _).trans (hb.mono ((Below.refl _ _).alloc (Nat.le_refl _) _).size))
  have bp : Blk w3 w.heap.size 25 #[.int .i64 4, .int .i64 100, .int .i64 0] := HBP2.out.below HW3.out hbp2
  have br : Blk w3 (w.heap.size + 1) 27 #[.int .i64 2, .int .i64 5, .int .i64 1, .int .i64 5, .int .i64 100] := HBR2.out.below HW3.out hbr2
  have hz3 : w2.heap.size < w3.heap.size := bs.lt
  have hl3 : b3.length = 4 := aw_len hm
  rw [hl3]
  clear hr hm hl3
  clear hb
  have q_bs0 : w3.cell? ⟨w2.heap.size, 0, none⟩ = some (.int .i64 0) := bs.cell 0
  have q_bs1 : w3.cell? ⟨w2.heap.size, 1, none⟩ = some (.int .i64 0) := bs.cell 1
  have q_bs2 : w3.cell? ⟨w2.heap.size, 2, none⟩ = some (.int .i64 0) := bs.cell 2
  have q_bs3 : w3.cell? ⟨w2.heap.size, 3, none⟩ = some (.int .i64 0) := bs.cell 3
  have q_bs4 : w3.cell? ⟨w2.heap.size, 4, none⟩ = some (.int .i64 0) := bs.cell 4
  have q_bs5 : w3.cell? ⟨w2.heap.size, 5, none⟩ = some (.int .i64 0) := bs.cell 5
  have q_bs6 : w3.cell? ⟨w2.heap.size, 6, none⟩ = some (.int .i64 0) := bs.cell 6
  have f_bs0 : w3.frozen? ⟨w2.heap.size, 0, none⟩ = false := bs.frozen 0
  have f_bs1 : w3.frozen? ⟨w2.heap.size, 1, none⟩ = false := bs.frozen 1
  have f_bs2 : w3.frozen? ⟨w2.heap.size, 2, none⟩ = false := bs.frozen 2
  have f_bs3 : w3.frozen? ⟨w2.heap.size, 3, none⟩ = false := bs.frozen 3
  have f_bs4 : w3.frozen? ⟨w2.heap.size, 4, none⟩ = false := bs.frozen 4
  have f_bs5 : w3.frozen? ⟨w2.heap.size, 5, none⟩ = false := bs.frozen 5
  have f_bs6 : w3.frozen? ⟨w2.heap.size, 6, none⟩ = false := bs.frozen 6
  have q_bp0 : w3.cell? ⟨w.heap.size, 0, none⟩ = some (.int .i64 4) := bp.cell 0
  have q_bp1 : w3.cell? ⟨w.heap.size, 1, none⟩ = some (.int .i64 100) := bp.cell 1
  have q_bp2 : w3.cell? ⟨w.heap.size, 2, none⟩ = some (.int .i64 0) := bp.cell 2
  have q_br0 : w3.cell? ⟨w.heap.size + 1, 0, none⟩ = some (.int .i64 2) := br.cell 0
  have q_br1 : w3.cell? ⟨w.heap.size + 1, 1, none⟩ = some (.int .i64 5) := br.cell 1
  have q_br2 : w3.cell? ⟨w.heap.size + 1, 2, none⟩ = some (.int .i64 1) := br.cell 2
  have q_br3 : w3.cell? ⟨w.heap.size + 1, 3, none⟩ = some (.int .i64 5) := br.cell 3
  have q_br4 : w3.cell? ⟨w.heap.size + 1, 4, none⟩ = some (.int .i64 100) := br.cell 4
  go_wp2_with fail
  refine (Blocked_any 0 0 4 1 0 0 0 0 _).mono ?_
  rintro e w4 ⟨rfl, hb⟩
  clear q_bs0 q_bs1 q_bs2 q_bs3 q_bs4 q_bs5 q_bs6 f_bs0 f_bs1 f_bs2 f_bs3 f_bs4 f_bs5 f_bs6 q_bp0 q_bp1 q_bp2 q_br0 q_br1 q_br2 q_br3 q_br4
  rw [awb]
  have bs : Blk w4 w2.heap.size 23 #[.int .i64 0, .int .i64 0, .int .i64 4, .int .i64 1, .int .i64 0, .int .i64 0, .int .i64 0] := (bs.set7 _ _ _ _ _ _ _).on hb
  have HW4 := Lib.hid (show Below w2.heap.size w2 w4 from (below_set7 HW3.out (H := w2.heap.size) (Nat.le_refl _) _ _ _ _ _ _ _).trans (hb.mono (below_set7 HW3.out (H := w2.heap.size) (Nat.le_refl _) _ _ _ _ _ _ _).size))
  have bp : Blk w4 w.heap.size 25 #[.int .i64 4, .int .i64 100, .int .i64 0] := HBP2.out.below HW4.out hbp2
  have br : Blk w4 (w.heap.size + 1) 27 #[.int .i64 2, .int .i64 5, .int .i64 1, .int .i64 5, .int .i64 100] := HBR2.out.below HW4.out hbr2
  have hz4 : w2.heap.size < w4.heap.size := bs.lt
  clear hb
  have q_bs0 : w4.cell? ⟨w2.heap.size, 0, none⟩ = some (.int .i64 0) := bs.cell 0
  have q_bs1 : w4.cell? ⟨w2.heap.size, 1, none⟩ = some (.int .i64 0) := bs.cell 1
  have q_bs2 : w4.cell? ⟨w2.heap.size, 2, none⟩ = some (.int .i64 4) := bs.cell 2
  have q_bs3 : w4.cell? ⟨w2.heap.size, 3, none⟩ = some (.int .i64 1) := bs.cell 3
  have q_bs4 : w4.cell? ⟨w2.heap.size, 4, none⟩ = some (.int .i64 0) := bs.cell 4
  have q_bs5 : w4.cell? ⟨w2.heap.size, 5, none⟩ = some (.int .i64 0) := bs.cell 5
  have q_bs6 : w4.cell? ⟨w2.heap.size, 6, none⟩ = some (.int .i64 0) := bs.cell 6
  have f_bs0 : w4.frozen? ⟨w2.heap.size, 0, none⟩ = false := bs.frozen 0
  have f_bs1 : w4.frozen? ⟨w2.heap.size, 1, none⟩ = false := bs.frozen 1
  have f_bs2 : w4.frozen? ⟨w2.heap.size, 2, none⟩ = false := bs.frozen 2
  have f_bs3 : w4.frozen? ⟨w2.heap.size, 3, none⟩ = false := bs.frozen 3
  have f_bs4 : w4.frozen? ⟨w2.heap.size, 4, none⟩ = false := bs.frozen 4
  have f_bs5 : w4.frozen? ⟨w2.heap.size, 5, none⟩ = false := bs.frozen 5
  have f_bs6 : w4.frozen? ⟨w2.heap.size, 6, none⟩ = false := bs.frozen 6
  have q_bp0 : w4.cell? ⟨w.heap.size, 0, none⟩ = some (.int .i64 4) := bp.cell 0
  have q_bp1 : w4.cell? ⟨w.heap.size, 1, none⟩ = some (.int .i64 100) := bp.cell 1
  have q_bp2 : w4.cell? ⟨w.heap.size, 2, none⟩ = some (.int .i64 0) := bp.cell 2
  have q_br0 : w4.cell? ⟨w.heap.size + 1, 0, none⟩ = some (.int .i64 2) := br.cell 0
  have q_br1 : w4.cell? ⟨w.heap.size + 1, 1, none⟩ = some (.int .i64 5) := br.cell 1
  have q_br2 : w4.cell? ⟨w.heap.size + 1, 2, none⟩ = some (.int .i64 1) := br.cell 2
  have q_br3 : w4.cell? ⟨w.heap.size + 1, 3, none⟩ = some (.int .i64 5) := br.cell 3
  have q_br4 : w4.cell? ⟨w.heap.size + 1, 4, none⟩ = some (.int .i64 100) := br.cell 4
  go_wp2_with fail
  refine (Fail_any 0 0 4 1 0 0 0 2 5 1 5 100 1 _).mono ?_
  rintro e w5 ⟨rfl, hb⟩
  clear q_bs0 q_bs1 q_bs2 q_bs3 q_bs4 q_bs5 q_bs6 f_bs0 f_bs1 f_bs2 f_bs3 f_bs4 f_bs5 f_bs6 q_bp0 q_bp1 q_bp2 q_br0 q_br1 q_br2 q_br3 q_br4
  rw [aw1]
  simp only [MR3, MS.cs]
  have bs : Blk w5 w2.heap.size 23 #[.int .i64 0, .int .i64 0, .int .i64 4, .int .i64 1, .int .i64 0, .int .i64 0, .int .i64 0] := bs.on hb
  have HW5 := Lib.hid (show Below w2.heap.size w2 w5 from HW4.out.trans (hb.mono HW4.out.size))
  have bp : Blk w5 w.heap.size 25 #[.int .i64 4, .int .i64 100, .int .i64 0] := HBP2.out.below HW5.out hbp2
  have br : Blk w5 (w.heap.size + 1) 27 #[.int .i64 2, .int .i64 5, .int .i64 1, .int .i64 5, .int .i64 100] := HBR2.out.below HW5.out hbr2
  have hz5 : w2.heap.size < w5.heap.size := bs.lt
  clear hb
  have q_bs0 : w5.cell? ⟨w2.heap.size, 0, none⟩ = some (.int .i64 0) := bs.cell 0
  have q_bs1 : w5.cell? ⟨w2.heap.size, 1, none⟩ = some (.int .i64 0) := bs.cell 1
  have q_bs2 : w5.cell? ⟨w2.heap.size, 2, none⟩ = some (.int .i64 4) := bs.cell 2
  have q_bs3 : w5.cell? ⟨w2.heap.size, 3, none⟩ = some (.int .i64 1) := bs.cell 3
  have q_bs4 : w5.cell? ⟨w2.heap.size, 4, none⟩ = some (.int .i64 0) := bs.cell 4
  have q_bs5 : w5.cell? ⟨w2.heap.size, 5, none⟩ = some (.int .i64 0) := bs.cell 5
  have q_bs6 : w5.cell? ⟨w2.heap.size, 6, none⟩ = some (.int .i64 0) := bs.cell 6
  have f_bs0 : w5.frozen? ⟨w2.heap.size, 0, none⟩ = false := bs.frozen 0
  have f_bs1 : w5.frozen? ⟨w2.heap.size, 1, none⟩ = false := bs.frozen 1
  have f_bs2 : w5.frozen? ⟨w2.heap.size, 2, none⟩ = false := bs.frozen 2
  have f_bs3 : w5.frozen? ⟨w2.heap.size, 3, none⟩ = false := bs.frozen 3
  have f_bs4 : w5.frozen? ⟨w2.heap.size, 4, none⟩ = false := bs.frozen 4
  have f_bs5 : w5.frozen? ⟨w2.heap.size, 5, none⟩ = false := bs.frozen 5
  have f_bs6 : w5.frozen? ⟨w2.heap.size, 6, none⟩ = false := bs.frozen 6
  have q_bp0 : w5.cell? ⟨w.heap.size, 0, none⟩ = some (.int .i64 4) := bp.cell 0
  have q_bp1 : w5.cell? ⟨w.heap.size, 1, none⟩ = some (.int .i64 100) := bp.cell 1
  have q_bp2 : w5.cell? ⟨w.heap.size, 2, none⟩ = some (.int .i64 0) := bp.cell 2
  have q_br0 : w5.cell? ⟨w.heap.size + 1, 0, none⟩ = some (.int .i64 2) := br.cell 0
  have q_br1 : w5.cell? ⟨w.heap.size + 1, 1, none⟩ = some (.int .i64 5) := br.cell 1
  have q_br2 : w5.cell? ⟨w.heap.size + 1, 2, none⟩ = some (.int .i64 1) := br.cell 2
  have q_br3 : w5.cell? ⟨w.heap.size + 1, 3, none⟩ = some (.int .i64 5) := br.cell 3
  have q_br4 : w5.cell? ⟨w.heap.size + 1, 4, none⟩ = some (.int .i64 100) := br.cell 4
  go_wp2_with fail
  refine (Poll_any 0 0 0 0 0 1 2 4 100 0 1 A c l _ ((HL2.out.below (below_set7 HW5.out (H := w2.heap.size) (Nat.le_refl _) _ _ _ _ _ _ _)).more (below_set7 HW5.out (H := w2.heap.size) (Nat.le_refl _) _ _ _ _ _ _ _).size) HLN.out HSB.out).mono ?_
  rintro e w6 ⟨A6, c6, b6, rfl, hr, hm, hb⟩
  clear q_bs0 q_bs1 q_bs2 q_bs3 q_bs4 q_bs5 q_bs6 f_bs0 f_bs1 f_bs2 f_bs3 f_bs4 f_bs5 f_bs6 q_bp0 q_bp1 q_bp2 q_br0 q_br1 q_br2 q_br3 q_br4
  rw [HLM.out, aw2] at hm
  rw [HLM.out, aw2]
  simp only [MS.cs]
  have bs : Blk w6 w2.heap.size 23 #[.int .i64 0, .int .i64 0, .int .i64 0, .int .i64 0, .int .i64 0, .int .i64 1, .int .i64 2] := (bs.set7 _ _ _ _ _ _ _).on hb
  have HW6 := Lib.hid (show Below w2.heap.size w2 w6 from (below_set7 HW5.out (H := w2.heap.size) (Nat.le_refl _) _ _ _ _ _ _ _).trans (hb.mono (below_set7 HW5.out (H := w2.heap.size) (Nat.le_refl _) _ _ _ _ _ _ _).size))
  have bp : Blk w6 w.heap.size 25 #[.int .i64 4, .int .i64 100, .int .i64 0] := HBP2.out.below HW6.out hbp2
  have br : Blk w6 (w.heap.size + 1) 27 #[.int .i64 2, .int .i64 5, .int .i64 1, .int .i64 5, .int .i64 100] := HBR2.out.below HW6.out hbr2
  have hz6 : w2.heap.size < w6.heap.size := bs.lt
  have hl6 : b6.length = 2 := aw_len hm
  rw [hl6]
  obtain ⟨bb, oo, rfl, hbb, hc⟩ := hr.seq hm (k := 1) (by omega)
  have HC11 := Lib.hid (show w6.cell? ⟨bb, oo + 10 + 1, none⟩ = some (.int .i64 1) from hc)
  have HNE := Lib.hid (show bb ≠ w2.heap.size from row_ne hr (Ints.of bs) (by omega) ⟨bb, oo, none⟩ rfl)
  clear hc
  clear hr hm hl6
  clear hb
  have q_bs0 : w6.cell? ⟨w2.heap.size, 0, none⟩ = some (.int .i64 0) := bs.cell 0
  have q_bs1 : w6.cell? ⟨w2.heap.size, 1, none⟩ = some (.int .i64 0) := bs.cell 1
  have q_bs2 : w6.cell? ⟨w2.heap.size, 2, none⟩ = some (.int .i64 0) := bs.cell 2
  have q_bs3 : w6.cell? ⟨w2.heap.size, 3, none⟩ = some (.int .i64 0) := bs.cell 3
  have q_bs4 : w6.cell? ⟨w2.heap.size, 4, none⟩ = some (.int .i64 0) := bs.cell 4
  have q_bs5 : w6.cell? ⟨w2.heap.size, 5, none⟩ = some (.int .i64 1) := bs.cell 5
  have q_bs6 : w6.cell? ⟨w2.heap.size, 6, none⟩ = some (.int .i64 2) := bs.cell 6
  have f_bs0 : w6.frozen? ⟨w2.heap.size, 0, none⟩ = false := bs.frozen 0
  have f_bs1 : w6.frozen? ⟨w2.heap.size, 1, none⟩ = false := bs.frozen 1
  have f_bs2 : w6.frozen? ⟨w2.heap.size, 2, none⟩ = false := bs.frozen 2
  have f_bs3 : w6.frozen? ⟨w2.heap.size, 3, none⟩ = false := bs.frozen 3
  have f_bs4 : w6.frozen? ⟨w2.heap.size, 4, none⟩ = false := bs.frozen 4
  have f_bs5 : w6.frozen? ⟨w2.heap.size, 5, none⟩ = false := bs.frozen 5
  have f_bs6 : w6.frozen? ⟨w2.heap.size, 6, none⟩ = false := bs.frozen 6
  have q_bp0 : w6.cell? ⟨w.heap.size, 0, none⟩ = some (.int .i64 4) := bp.cell 0
  have q_bp1 : w6.cell? ⟨w.heap.size, 1, none⟩ = some (.int .i64 100) := bp.cell 1
  have q_bp2 : w6.cell? ⟨w.heap.size, 2, none⟩ = some (.int .i64 0) := bp.cell 2
  have q_br0 : w6.cell? ⟨w.heap.size + 1, 0, none⟩ = some (.int .i64 2) := br.cell 0
  have q_br1 : w6.cell? ⟨w.heap.size + 1, 1, none⟩ = some (.int .i64 5) := br.cell 1
  have q_br2 : w6.cell? ⟨w.heap.size + 1, 2, none⟩ = some (.int .i64 1) := br.cell 2
  have q_br3 : w6.cell? ⟨w.heap.size + 1, 3, none⟩ = some (.int .i64 5) := br.cell 3
  have q_br4 : w6.cell? ⟨w.heap.size + 1, 4, none⟩ = some (.int .i64 100) := br.cell 4
  go_wp2_with fail
  refine (Succeed_any 0 0 2 1 1 1 2 _).mono ?_
  rintro e w7 ⟨rfl, hb⟩
  clear q_bs0 q_bs1 q_bs2 q_bs3 q_bs4 q_bs5 q_bs6 f_bs0 f_bs1 f_bs2 f_bs3 f_bs4 f_bs5 f_bs6 q_bp0 q_bp1 q_bp2 q_br0 q_br1 q_br2 q_br3 q_br4
  rw [aw3]
  simp only [MR, MS.cs]
  have bs : Blk w7 w2.heap.size 23 #[.int .i64 0, .int .i64 0, .int .i64 2, .int .i64 1, .int .i64 1, .int .i64 1, .int .i64 2] := (bs.set7 _ _ _ _ _ _ _).on hb
  have HW7 := Lib.hid (show Below w2.heap.size w2 w7 from (below_set7 HW6.out (H := w2.heap.size) (Nat.le_refl _) _ _ _ _ _ _ _).trans (hb.mono (below_set7 HW6.out (H := w2.heap.size) (Nat.le_refl _) _ _ _ _ _ _ _).size))
  have bp : Blk w7 w.heap.size 25 #[.int .i64 4, .int .i64 100, .int .i64 0] := HBP2.out.below HW7.out hbp2
  have br : Blk w7 (w.heap.size + 1) 27 #[.int .i64 2, .int .i64 5, .int .i64 1, .int .i64 5, .int .i64 100] := HBR2.out.below HW7.out hbr2
  have hz7 : w2.heap.size < w7.heap.size := bs.lt
  have c11 : w7.cell? ⟨bb, oo + 10 + 1, none⟩ = some (.int .i64 1) := (((Only.refl w2.heap.size w2.heap.size w6).setb _ _ _ _ _ _ _).below hb |>.cell ⟨bb, oo + 10 + 1, none⟩ hbb HNE.out HNE.out).trans HC11.out
  have hbb2 : bb < w7.heap.size := Nat.lt_of_lt_of_le hbb (by have := hb.size; simpa [World.setCell] using this)
  have n1 : ¬ bb = w2.heap.size := HNE.out
  have n2 : ¬ w2.heap.size = bb := fun h => HNE.out h.symm
  clear hb
  have q_bs0 : w7.cell? ⟨w2.heap.size, 0, none⟩ = some (.int .i64 0) := bs.cell 0
  have q_bs1 : w7.cell? ⟨w2.heap.size, 1, none⟩ = some (.int .i64 0) := bs.cell 1
  have q_bs2 : w7.cell? ⟨w2.heap.size, 2, none⟩ = some (.int .i64 2) := bs.cell 2
  have q_bs3 : w7.cell? ⟨w2.heap.size, 3, none⟩ = some (.int .i64 1) := bs.cell 3
  have q_bs4 : w7.cell? ⟨w2.heap.size, 4, none⟩ = some (.int .i64 1) := bs.cell 4
  have q_bs5 : w7.cell? ⟨w2.heap.size, 5, none⟩ = some (.int .i64 1) := bs.cell 5
  have q_bs6 : w7.cell? ⟨w2.heap.size, 6, none⟩ = some (.int .i64 2) := bs.cell 6
  have f_bs0 : w7.frozen? ⟨w2.heap.size, 0, none⟩ = false := bs.frozen 0
  have f_bs1 : w7.frozen? ⟨w2.heap.size, 1, none⟩ = false := bs.frozen 1
  have f_bs2 : w7.frozen? ⟨w2.heap.size, 2, none⟩ = false := bs.frozen 2
  have f_bs3 : w7.frozen? ⟨w2.heap.size, 3, none⟩ = false := bs.frozen 3
  have f_bs4 : w7.frozen? ⟨w2.heap.size, 4, none⟩ = false := bs.frozen 4
  have f_bs5 : w7.frozen? ⟨w2.heap.size, 5, none⟩ = false := bs.frozen 5
  have f_bs6 : w7.frozen? ⟨w2.heap.size, 6, none⟩ = false := bs.frozen 6
  have q_bp0 : w7.cell? ⟨w.heap.size, 0, none⟩ = some (.int .i64 4) := bp.cell 0
  have q_bp1 : w7.cell? ⟨w.heap.size, 1, none⟩ = some (.int .i64 100) := bp.cell 1
  have q_bp2 : w7.cell? ⟨w.heap.size, 2, none⟩ = some (.int .i64 0) := bp.cell 2
  have q_br0 : w7.cell? ⟨w.heap.size + 1, 0, none⟩ = some (.int .i64 2) := br.cell 0
  have q_br1 : w7.cell? ⟨w.heap.size + 1, 1, none⟩ = some (.int .i64 5) := br.cell 1
  have q_br2 : w7.cell? ⟨w.heap.size + 1, 2, none⟩ = some (.int .i64 1) := br.cell 2
  have q_br3 : w7.cell? ⟨w.heap.size + 1, 3, none⟩ = some (.int .i64 5) := br.cell 3
  have q_br4 : w7.cell? ⟨w.heap.size + 1, 4, none⟩ = some (.int .i64 100) := br.cell 4
  go_wp2_with fail
  refine (Poll_any 0 2 0 0 0 0 0 4 100 0 2 A c l _ ((HL2.out.below (below_set7 HW7.out (H := w2.heap.size) (Nat.le_refl _) _ _ _ _ _ _ _)).more (below_set7 HW7.out (H := w2.heap.size) (Nat.le_refl _) _ _ _ _ _ _ _).size) HLN.out HSB.out).mono ?_
  rintro e w8 ⟨A8, c8, b8, rfl, hr, hm, hb⟩
  clear q_bs0 q_bs1 q_bs2 q_bs3 q_bs4 q_bs5 q_bs6 f_bs0 f_bs1 f_bs2 f_bs3 f_bs4 f_bs5 f_bs6 q_bp0 q_bp1 q_bp2 q_br0 q_br1 q_br2 q_br3 q_br4
  rw [HLM.out, aw4] at hm
  rw [HLM.out, aw4]
  simp only [MS.cs]
  have bs : Blk w8 w2.heap.size 23 #[.int .i64 0, .int .i64 2, .int .i64 0, .int .i64 0, .int .i64 0, .int .i64 0, .int .i64 0] := (bs.set7 _ _ _ _ _ _ _).on hb
  have HW8 := Lib.hid (show Below w2.heap.size w2 w8 from (below_set7 HW7.out (H := w2.heap.size) (Nat.le_refl _) _ _ _ _ _ _ _).trans (hb.mono (below_set7 HW7.out (H := w2.heap.size) (Nat.le_refl _) _ _ _ _ _ _ _).size))
  have bp : Blk w8 w.heap.size 25 #[.int .i64 4, .int .i64 100, .int .i64 0] := HBP2.out.below HW8.out hbp2
  have br : Blk w8 (w.heap.size + 1) 27 #[.int .i64 2, .int .i64 5, .int .i64 1, .int .i64 5, .int .i64 100] := HBR2.out.below HW8.out hbr2
  have hz8 : w2.heap.size < w8.heap.size := bs.lt
  have hl8 : b8.length = 2 := aw_len hm
  rw [hl8]
  clear hr hm hl8
  clear hb
  have q_bs0 : w8.cell? ⟨w2.heap.size, 0, none⟩ = some (.int .i64 0) := bs.cell 0
  have q_bs1 : w8.cell? ⟨w2.heap.size, 1, none⟩ = some (.int .i64 2) := bs.cell 1
  have q_bs2 : w8.cell? ⟨w2.heap.size, 2, none⟩ = some (.int .i64 0) := bs.cell 2
  have q_bs3 : w8.cell? ⟨w2.heap.size, 3, none⟩ = some (.int .i64 0) := bs.cell 3
  have q_bs4 : w8.cell? ⟨w2.heap.size, 4, none⟩ = some (.int .i64 0) := bs.cell 4
  have q_bs5 : w8.cell? ⟨w2.heap.size, 5, none⟩ = some (.int .i64 0) := bs.cell 5
  have q_bs6 : w8.cell? ⟨w2.heap.size, 6, none⟩ = some (.int .i64 0) := bs.cell 6
  have f_bs0 : w8.frozen? ⟨w2.heap.size, 0, none⟩ = false := bs.frozen 0
  have f_bs1 : w8.frozen? ⟨w2.heap.size, 1, none⟩ = false := bs.frozen 1
  have f_bs2 : w8.frozen? ⟨w2.heap.size, 2, none⟩ = false := bs.frozen 2
  have f_bs3 : w8.frozen? ⟨w2.heap.size, 3, none⟩ = false := bs.frozen 3
  have f_bs4 : w8.frozen? ⟨w2.heap.size, 4, none⟩ = false := bs.frozen 4
  have f_bs5 : w8.frozen? ⟨w2.heap.size, 5, none⟩ = false := bs.frozen 5
  have f_bs6 : w8.frozen? ⟨w2.heap.size, 6, none⟩ = false := bs.frozen 6
  have q_bp0 : w8.cell? ⟨w.heap.size, 0, none⟩ = some (.int .i64 4) := bp.cell 0
  have q_bp1 : w8.cell? ⟨w.heap.size, 1, none⟩ = some (.int .i64 100) := bp.cell 1
  have q_bp2 : w8.cell? ⟨w.heap.size, 2, none⟩ = some (.int .i64 0) := bp.cell 2
  have q_br0 : w8.cell? ⟨w.heap.size + 1, 0, none⟩ = some (.int .i64 2) := br.cell 0
  have q_br1 : w8.cell? ⟨w.heap.size + 1, 1, none⟩ = some (.int .i64 5) := br.cell 1
  have q_br2 : w8.cell? ⟨w.heap.size + 1, 2, none⟩ = some (.int .i64 1) := br.cell 2
  have q_br3 : w8.cell? ⟨w.heap.size + 1, 3, none⟩ = some (.int .i64 5) := br.cell 3
  have q_br4 : w8.cell? ⟨w.heap.size + 1, 4, none⟩ = some (.int .i64 100) := br.cell 4
  go_wp2_with fail
  refine (Fail_any 0 2 2 1 2 0 0 2 5 1 5 100 2 _).mono ?_
  rintro e w9 ⟨rfl, hb⟩
  clear q_bs0 q_bs1 q_bs2 q_bs3 q_bs4 q_bs5 q_bs6 f_bs0 f_bs1 f_bs2 f_bs3 f_bs4 f_bs5 f_bs6 q_bp0 q_bp1 q_bp2 q_br0 q_br1 q_br2 q_br3 q_br4
  rw [aw5]
  simp only [MR3, MS.cs]
  have bs : Blk w9 w2.heap.size 23 #[.int .i64 0, .int .i64 2, .int .i64 2, .int .i64 1, .int .i64 2, .int .i64 0, .int .i64 0] := (bs.set7 _ _ _ _ _ _ _).on hb
  have HW9 := Lib.hid (show Below w2.heap.size w2 w9 from (below_set7 HW8.out (H := w2.heap.size) (Nat.le_refl _) _ _ _ _ _ _ _).trans (hb.mono (below_set7 HW8.out (H := w2.heap.size) (Nat.le_refl _) _ _ _ _ _ _ _).size))
  have bp : Blk w9 w.heap.size 25 #[.int .i64 4, .int .i64 100, .int .i64 0] := HBP2.out.below HW9.out hbp2
  have br : Blk w9 (w.heap.size + 1) 27 #[.int .i64 2, .int .i64 5, .int .i64 1, .int .i64 5, .int .i64 100] := HBR2.out.below HW9.out hbr2
  have hz9 : w2.heap.size < w9.heap.size := bs.lt
  clear hb
  have q_bs0 : w9.cell? ⟨w2.heap.size, 0, none⟩ = some (.int .i64 0) := bs.cell 0
  have q_bs1 : w9.cell? ⟨w2.heap.size, 1, none⟩ = some (.int .i64 2) := bs.cell 1
  have q_bs2 : w9.cell? ⟨w2.heap.size, 2, none⟩ = some (.int .i64 2) := bs.cell 2
  have q_bs3 : w9.cell? ⟨w2.heap.size, 3, none⟩ = some (.int .i64 1) := bs.cell 3
  have q_bs4 : w9.cell? ⟨w2.heap.size, 4, none⟩ = some (.int .i64 2) := bs.cell 4
  have q_bs5 : w9.cell? ⟨w2.heap.size, 5, none⟩ = some (.int .i64 0) := bs.cell 5
  have q_bs6 : w9.cell? ⟨w2.heap.size, 6, none⟩ = some (.int .i64 0) := bs.cell 6
  have f_bs0 : w9.frozen? ⟨w2.heap.size, 0, none⟩ = false := bs.frozen 0
  have f_bs1 : w9.frozen? ⟨w2.heap.size, 1, none⟩ = false := bs.frozen 1
  have f_bs2 : w9.frozen? ⟨w2.heap.size, 2, none⟩ = false := bs.frozen 2
  have f_bs3 : w9.frozen? ⟨w2.heap.size, 3, none⟩ = false := bs.frozen 3
  have f_bs4 : w9.frozen? ⟨w2.heap.size, 4, none⟩ = false := bs.frozen 4
  have f_bs5 : w9.frozen? ⟨w2.heap.size, 5, none⟩ = false := bs.frozen 5
  have f_bs6 : w9.frozen? ⟨w2.heap.size, 6, none⟩ = false := bs.frozen 6
  have q_bp0 : w9.cell? ⟨w.heap.size, 0, none⟩ = some (.int .i64 4) := bp.cell 0
  have q_bp1 : w9.cell? ⟨w.heap.size, 1, none⟩ = some (.int .i64 100) := bp.cell 1
  have q_bp2 : w9.cell? ⟨w.heap.size, 2, none⟩ = some (.int .i64 0) := bp.cell 2
  have q_br0 : w9.cell? ⟨w.heap.size + 1, 0, none⟩ = some (.int .i64 2) := br.cell 0
  have q_br1 : w9.cell? ⟨w.heap.size + 1, 1, none⟩ = some (.int .i64 5) := br.cell 1
  have q_br2 : w9.cell? ⟨w.heap.size + 1, 2, none⟩ = some (.int .i64 1) := br.cell 2
  have q_br3 : w9.cell? ⟨w.heap.size + 1, 3, none⟩ = some (.int .i64 5) := br.cell 3
  have q_br4 : w9.cell? ⟨w.heap.size + 1, 4, none⟩ = some (.int .i64 100) := br.cell 4
  go_wp2_with fail
  refine (Poll_any 0 2 0 0 0 2 1 4 100 0 3 A c l _ ((HL2.out.below (below_set7 HW9.out (H := w2.heap.size) (Nat.le_refl _) _ _ _ _ _ _ _)).more (below_set7 HW9.out (H := w2.heap.size) (Nat.le_refl _) _ _ _ _ _ _ _).size) HLN.out HSB.out).mono ?_
  rintro e w10 ⟨A10, c10, b10, rfl, hr, hm, hb⟩
  clear q_bs0 q_bs1 q_bs2 q_bs3 q_bs4 q_bs5 q_bs6 f_bs0 f_bs1 f_bs2 f_bs3 f_bs4 f_bs5 f_bs6 q_bp0 q_bp1 q_bp2 q_br0 q_br1 q_br2 q_br3 q_br4
  rw [HLM.out, aw6] at hm
  rw [HLM.out, aw6]
  simp only [MS.cs]
  have bs : Blk w10 w2.heap.size 23 #[.int .i64 0, .int .i64 2, .int .i64 0, .int .i64 0, .int .i64 0, .int .i64 2, .int .i64 1] := (bs.set7 _ _ _ _ _ _ _).on hb
  have HW10 := Lib.hid (show Below w2.heap.size w2 w10 from (below_set7 HW9.out (H := w2.heap.size) (Nat.le_refl _) _ _ _ _ _ _ _).trans (hb.mono (below_set7 HW9.out (H := w2.heap.size) (Nat.le_refl _) _ _ _ _ _ _ _).size))
  have bp : Blk w10 w.heap.size 25 #[.int .i64 4, .int .i64 100, .int .i64 0] := HBP2.out.below HW10.out hbp2
  have br : Blk w10 (w.heap.size + 1) 27 #[.int .i64 2, .int .i64 5, .int .i64 1, .int .i64 5, .int .i64 100] := HBR2.out.below HW10.out hbr2
  have hz10 : w2.heap.size < w10.heap.size := bs.lt
  have hl10 : b10.length = 1 := aw_len hm
  rw [hl10]
  obtain ⟨bb, oo, rfl, hbb, hc⟩ := hr.seq hm (k := 0) (by omega)
  have HC01 := Lib.hid (show w10.cell? ⟨bb, oo + 1, none⟩ = some (.int .i64 2) from hc)
  have HNE := Lib.hid (show bb ≠ w2.heap.size from row_ne hr (Ints.of bs) (by omega) ⟨bb, oo, none⟩ rfl)
  clear hc
  clear hr hm hl10
  clear hb
  have q_bs0 : w10.cell? ⟨w2.heap.size, 0, none⟩ = some (.int .i64 0) := bs.cell 0
  have q_bs1 : w10.cell? ⟨w2.heap.size, 1, none⟩ = some (.int .i64 2) := bs.cell 1
  have q_bs2 : w10.cell? ⟨w2.heap.size, 2, none⟩ = some (.int .i64 0) := bs.cell 2
  have q_bs3 : w10.cell? ⟨w2.heap.size, 3, none⟩ = some (.int .i64 0) := bs.cell 3
  have q_bs4 : w10.cell? ⟨w2.heap.size, 4, none⟩ = some (.int .i64 0) := bs.cell 4
  have q_bs5 : w10.cell? ⟨w2.heap.size, 5, none⟩ = some (.int .i64 2) := bs.cell 5
  have q_bs6 : w10.cell? ⟨w2.heap.size, 6, none⟩ = some (.int .i64 1) := bs.cell 6
  have f_bs0 : w10.frozen? ⟨w2.heap.size, 0, none⟩ = false := bs.frozen 0
  have f_bs1 : w10.frozen? ⟨w2.heap.size, 1, none⟩ = false := bs.frozen 1
  have f_bs2 : w10.frozen? ⟨w2.heap.size, 2, none⟩ = false := bs.frozen 2
  have f_bs3 : w10.frozen? ⟨w2.heap.size, 3, none⟩ = false := bs.frozen 3
  have f_bs4 : w10.frozen? ⟨w2.heap.size, 4, none⟩ = false := bs.frozen 4
  have f_bs5 : w10.frozen? ⟨w2.heap.size, 5, none⟩ = false := bs.frozen 5
  have f_bs6 : w10.frozen? ⟨w2.heap.size, 6, none⟩ = false := bs.frozen 6
  have q_bp0 : w10.cell? ⟨w.heap.size, 0, none⟩ = some (.int .i64 4) := bp.cell 0
  have q_bp1 : w10.cell? ⟨w.heap.size, 1, none⟩ = some (.int .i64 100) := bp.cell 1
  have q_bp2 : w10.cell? ⟨w.heap.size, 2, none⟩ = some (.int .i64 0) := bp.cell 2
  have q_br0 : w10.cell? ⟨w.heap.size + 1, 0, none⟩ = some (.int .i64 2) := br.cell 0
  have q_br1 : w10.cell? ⟨w.heap.size + 1, 1, none⟩ = some (.int .i64 5) := br.cell 1
  have q_br2 : w10.cell? ⟨w.heap.size + 1, 2, none⟩ = some (.int .i64 1) := br.cell 2
  have q_br3 : w10.cell? ⟨w.heap.size + 1, 3, none⟩ = some (.int .i64 5) := br.cell 3
  have q_br4 : w10.cell? ⟨w.heap.size + 1, 4, none⟩ = some (.int .i64 100) := br.cell 4
  go_wp2_with fail
  refine (Fail_any 0 2 1 1 3 2 1 2 5 1 5 100 4 _).mono ?_
  rintro e w11 ⟨rfl, hb⟩
  clear q_bs0 q_bs1 q_bs2 q_bs3 q_bs4 q_bs5 q_bs6 f_bs0 f_bs1 f_bs2 f_bs3 f_bs4 f_bs5 f_bs6 q_bp0 q_bp1 q_bp2 q_br0 q_br1 q_br2 q_br3 q_br4
  rw [aw7]
  simp only [MR3, MS.cs]
  have bs : Blk w11 w2.heap.size 23 #[.int .i64 0, .int .i64 2, .int .i64 1, .int .i64 1, .int .i64 3, .int .i64 2, .int .i64 1] := (bs.set7 _ _ _ _ _ _ _).on hb
  have HW11 := Lib.hid (show Below w2.heap.size w2 w11 from (below_set7 HW10.out (H := w2.heap.size) (Nat.le_refl _) _ _ _ _ _ _ _).trans (hb.mono (below_set7 HW10.out (H := w2.heap.size) (Nat.le_refl _) _ _ _ _ _ _ _).size))
  have bp : Blk w11 w.heap.size 25 #[.int .i64 4, .int .i64 100, .int .i64 0] := HBP2.out.below HW11.out hbp2
  have br : Blk w11 (w.heap.size + 1) 27 #[.int .i64 2, .int .i64 5, .int .i64 1, .int .i64 5, .int .i64 100] := HBR2.out.below HW11.out hbr2
  have hz11 : w2.heap.size < w11.heap.size := bs.lt
  have c01 : w11.cell? ⟨bb, oo + 1, none⟩ = some (.int .i64 2) := (((Only.refl w2.heap.size w2.heap.size w10).setb _ _ _ _ _ _ _).below hb |>.cell ⟨bb, oo + 1, none⟩ hbb HNE.out HNE.out).trans HC01.out
  have hbb2 : bb < w11.heap.size := Nat.lt_of_lt_of_le hbb (by have := hb.size; simpa [World.setCell] using this)
  have n1 : ¬ bb = w2.heap.size := HNE.out
  have n2 : ¬ w2.heap.size = bb := fun h => HNE.out h.symm
  clear hb
  have q_bs0 : w11.cell? ⟨w2.heap.size, 0, none⟩ = some (.int .i64 0) := bs.cell 0
  have q_bs1 : w11.cell? ⟨w2.heap.size, 1, none⟩ = some (.int .i64 2) := bs.cell 1
  have q_bs2 : w11.cell? ⟨w2.heap.size, 2, none⟩ = some (.int .i64 1) := bs.cell 2
  have q_bs3 : w11.cell? ⟨w2.heap.size, 3, none⟩ = some (.int .i64 1) := bs.cell 3
  have q_bs4 : w11.cell? ⟨w2.heap.size, 4, none⟩ = some (.int .i64 3) := bs.cell 4
  have q_bs5 : w11.cell? ⟨w2.heap.size, 5, none⟩ = some (.int .i64 2) := bs.cell 5
  have q_bs6 : w11.cell? ⟨w2.heap.size, 6, none⟩ = some (.int .i64 1) := bs.cell 6
  have f_bs0 : w11.frozen? ⟨w2.heap.size, 0, none⟩ = false := bs.frozen 0
  have f_bs1 : w11.frozen? ⟨w2.heap.size, 1, none⟩ = false := bs.frozen 1
  have f_bs2 : w11.frozen? ⟨w2.heap.size, 2, none⟩ = false := bs.frozen 2
  have f_bs3 : w11.frozen? ⟨w2.heap.size, 3, none⟩ = false := bs.frozen 3
  have f_bs4 : w11.frozen? ⟨w2.heap.size, 4, none⟩ = false := bs.frozen 4
  have f_bs5 : w11.frozen? ⟨w2.heap.size, 5, none⟩ = false := bs.frozen 5
  have f_bs6 : w11.frozen? ⟨w2.heap.size, 6, none⟩ = false := bs.frozen 6
  have q_bp0 : w11.cell? ⟨w.heap.size, 0, none⟩ = some (.int .i64 4) := bp.cell 0
  have q_bp1 : w11.cell? ⟨w.heap.size, 1, none⟩ = some (.int .i64 100) := bp.cell 1
  have q_bp2 : w11.cell? ⟨w.heap.size, 2, none⟩ = some (.int .i64 0) := bp.cell 2
  have q_br0 : w11.cell? ⟨w.heap.size + 1, 0, none⟩ = some (.int .i64 2) := br.cell 0
  have q_br1 : w11.cell? ⟨w.heap.size + 1, 1, none⟩ = some (.int .i64 5) := br.cell 1
  have q_br2 : w11.cell? ⟨w.heap.size + 1, 2, none⟩ = some (.int .i64 1) := br.cell 2
  have q_br3 : w11.cell? ⟨w.heap.size + 1, 3, none⟩ = some (.int .i64 5) := br.cell 3
  have q_br4 : w11.cell? ⟨w.heap.size + 1, 4, none⟩ = some (.int .i64 100) := br.cell 4
  go_wp2_with fail
  refine (Poll_any 0 2 0 1 3 9 1 4 100 0 8 A c l _ ((HL2.out.below (below_set7 HW11.out (H := w2.heap.size) (Nat.le_refl _) _ _ _ _ _ _ _)).more (below_set7 HW11.out (H := w2.heap.size) (Nat.le_refl _) _ _ _ _ _ _ _).size) HLN.out HSB.out).mono ?_
  rintro e w12 ⟨A12, c12, b12, rfl, hr, hm, hb⟩
  clear q_bs0 q_bs1 q_bs2 q_bs3 q_bs4 q_bs5 q_bs6 f_bs0 f_bs1 f_bs2 f_bs3 f_bs4 f_bs5 f_bs6 q_bp0 q_bp1 q_bp2 q_br0 q_br1 q_br2 q_br3 q_br4
  rw [HLM.out, aw8] at hm
  rw [HLM.out, aw8]
  simp only [MS.cs]
  have bs : Blk w12 w2.heap.size 23 #[.int .i64 0, .int .i64 2, .int .i64 0, .int .i64 1, .int .i64 3, .int .i64 9, .int .i64 1] := (bs.set7 _ _ _ _ _ _ _).on hb
  have HW12 := Lib.hid (show Below w2.heap.size w2 w12 from (below_set7 HW11.out (H := w2.heap.size) (Nat.le_refl _) _ _ _ _ _ _ _).trans (hb.mono (below_set7 HW11.out (H := w2.heap.size) (Nat.le_refl _) _ _ _ _ _ _ _).size))
  have bp : Blk w12 w.heap.size 25 #[.int .i64 4, .int .i64 100, .int .i64 0] := HBP2.out.below HW12.out hbp2
  have br : Blk w12 (w.heap.size + 1) 27 #[.int .i64 2, .int .i64 5, .int .i64 1, .int .i64 5, .int .i64 100] := HBR2.out.below HW12.out hbr2
  have hz12 : w2.heap.size < w12.heap.size := bs.lt
  have hl12 : b12.length = 0 := by simpa using congrArg List.length hm
  rw [hl12]
  clear hr hm hl12
  clear hb
  have q_bs0 : w12.cell? ⟨w2.heap.size, 0, none⟩ = some (.int .i64 0) := bs.cell 0
  have q_bs1 : w12.cell? ⟨w2.heap.size, 1, none⟩ = some (.int .i64 2) := bs.cell 1
  have q_bs2 : w12.cell? ⟨w2.heap.size, 2, none⟩ = some (.int .i64 0) := bs.cell 2
  have q_bs3 : w12.cell? ⟨w2.heap.size, 3, none⟩ = some (.int .i64 1) := bs.cell 3
  have q_bs4 : w12.cell? ⟨w2.heap.size, 4, none⟩ = some (.int .i64 3) := bs.cell 4
  have q_bs5 : w12.cell? ⟨w2.heap.size, 5, none⟩ = some (.int .i64 9) := bs.cell 5
  have q_bs6 : w12.cell? ⟨w2.heap.size, 6, none⟩ = some (.int .i64 1) := bs.cell 6
  have f_bs0 : w12.frozen? ⟨w2.heap.size, 0, none⟩ = false := bs.frozen 0
  have f_bs1 : w12.frozen? ⟨w2.heap.size, 1, none⟩ = false := bs.frozen 1
  have f_bs2 : w12.frozen? ⟨w2.heap.size, 2, none⟩ = false := bs.frozen 2
  have f_bs3 : w12.frozen? ⟨w2.heap.size, 3, none⟩ = false := bs.frozen 3
  have f_bs4 : w12.frozen? ⟨w2.heap.size, 4, none⟩ = false := bs.frozen 4
  have f_bs5 : w12.frozen? ⟨w2.heap.size, 5, none⟩ = false := bs.frozen 5
  have f_bs6 : w12.frozen? ⟨w2.heap.size, 6, none⟩ = false := bs.frozen 6
  have q_bp0 : w12.cell? ⟨w.heap.size, 0, none⟩ = some (.int .i64 4) := bp.cell 0
  have q_bp1 : w12.cell? ⟨w.heap.size, 1, none⟩ = some (.int .i64 100) := bp.cell 1
  have q_bp2 : w12.cell? ⟨w.heap.size, 2, none⟩ = some (.int .i64 0) := bp.cell 2
  have q_br0 : w12.cell? ⟨w.heap.size + 1, 0, none⟩ = some (.int .i64 2) := br.cell 0
  have q_br1 : w12.cell? ⟨w.heap.size + 1, 1, none⟩ = some (.int .i64 5) := br.cell 1
  have q_br2 : w12.cell? ⟨w.heap.size + 1, 2, none⟩ = some (.int .i64 1) := br.cell 2
  have q_br3 : w12.cell? ⟨w.heap.size + 1, 3, none⟩ = some (.int .i64 5) := br.cell 3
  have q_br4 : w12.cell? ⟨w.heap.size + 1, 4, none⟩ = some (.int .i64 100) := br.cell 4
  go_wp2_with fail
  refine (Poll_any 0 2 0 1 3 9 1 4 100 0 9 A c l _ ((HL2.out.below HW12.out).more HW12.out.size) HLN.out HSB.out).mono ?_
  rintro e w13 ⟨A13, c13, b13, rfl, hr, hm, hb⟩
  clear q_bs0 q_bs1 q_bs2 q_bs3 q_bs4 q_bs5 q_bs6 f_bs0 f_bs1 f_bs2 f_bs3 f_bs4 f_bs5 f_bs6 q_bp0 q_bp1 q_bp2 q_br0 q_br1 q_br2 q_br3 q_br4
  rw [HLM.out, aw9] at hm
  rw [HLM.out, aw9]
  simp only [MS.cs]
  have bs : Blk w13 w2.heap.size 23 #[.int .i64 0, .int .i64 2, .int .i64 0, .int .i64 1, .int .i64 3, .int .i64 9, .int .i64 1] := bs.on hb
  have HW13 := Lib.hid (show Below w2.heap.size w2 w13 from HW12.out.trans (hb.mono HW12.out.size))
  have bp : Blk w13 w.heap.size 25 #[.int .i64 4, .int .i64 100, .int .i64 0] := HBP2.out.below HW13.out hbp2
  have br : Blk w13 (w.heap.size + 1) 27 #[.int .i64 2, .int .i64 5, .int .i64 1, .int .i64 5, .int .i64 100] := HBR2.out.below HW13.out hbr2
  have hz13 : w2.heap.size < w13.heap.size := bs.lt
  have hl13 : b13.length = 1 := aw_len hm
  rw [hl13]
  clear hr hm hl13
  clear hb
  have q_bs0 : w13.cell? ⟨w2.heap.size, 0, none⟩ = some (.int .i64 0) := bs.cell 0
  have q_bs1 : w13.cell? ⟨w2.heap.size, 1, none⟩ = some (.int .i64 2) := bs.cell 1
  have q_bs2 : w13.cell? ⟨w2.heap.size, 2, none⟩ = some (.int .i64 0) := bs.cell 2
  have q_bs3 : w13.cell? ⟨w2.heap.size, 3, none⟩ = some (.int .i64 1) := bs.cell 3
  have q_bs4 : w13.cell? ⟨w2.heap.size, 4, none⟩ = some (.int .i64 3) := bs.cell 4
  have q_bs5 : w13.cell? ⟨w2.heap.size, 5, none⟩ = some (.int .i64 9) := bs.cell 5
  have q_bs6 : w13.cell? ⟨w2.heap.size, 6, none⟩ = some (.int .i64 1) := bs.cell 6
  have f_bs0 : w13.frozen? ⟨w2.heap.size, 0, none⟩ = false := bs.frozen 0
  have f_bs1 : w13.frozen? ⟨w2.heap.size, 1, none⟩ = false := bs.frozen 1
  have f_bs2 : w13.frozen? ⟨w2.heap.size, 2, none⟩ = false := bs.frozen 2
  have f_bs3 : w13.frozen? ⟨w2.heap.size, 3, none⟩ = false := bs.frozen 3
  have f_bs4 : w13.frozen? ⟨w2.heap.size, 4, none⟩ = false := bs.frozen 4
  have f_bs5 : w13.frozen? ⟨w2.heap.size, 5, none⟩ = false := bs.frozen 5
  have f_bs6 : w13.frozen? ⟨w2.heap.size, 6, none⟩ = false := bs.frozen 6
  have q_bp0 : w13.cell? ⟨w.heap.size, 0, none⟩ = some (.int .i64 4) := bp.cell 0
  have q_bp1 : w13.cell? ⟨w.heap.size, 1, none⟩ = some (.int .i64 100) := bp.cell 1
  have q_bp2 : w13.cell? ⟨w.heap.size, 2, none⟩ = some (.int .i64 0) := bp.cell 2
  have q_br0 : w13.cell? ⟨w.heap.size + 1, 0, none⟩ = some (.int .i64 2) := br.cell 0
  have q_br1 : w13.cell? ⟨w.heap.size + 1, 1, none⟩ = some (.int .i64 5) := br.cell 1
  have q_br2 : w13.cell? ⟨w.heap.size + 1, 2, none⟩ = some (.int .i64 1) := br.cell 2
  have q_br3 : w13.cell? ⟨w.heap.size + 1, 3, none⟩ = some (.int .i64 5) := br.cell 3
  have q_br4 : w13.cell? ⟨w.heap.size + 1, 4, none⟩ = some (.int .i64 100) := br.cell 4
  go_wp2_with fail
  refine (Fail_any 0 2 1 2 3 9 1 2 5 1 5 100 9 _).mono ?_
  rintro e w14 ⟨rfl, hb⟩
  clear q_bs0 q_bs1 q_bs2 q_bs3 q_bs4 q_bs5 q_bs6 f_bs0 f_bs1 f_bs2 f_bs3 f_bs4 f_bs5 f_bs6 q_bp0 q_bp1 q_bp2 q_br0 q_br1 q_br2 q_br3 q_br4
  rw [aw10]
  simp only [MR3, MS.cs]
  have bs : Blk w14 w2.heap.size 23 #[.int .i64 0, .int .i64 2, .int .i64 1, .int .i64 2, .int .i64 3, .int .i64 9, .int .i64 1] := (bs.set7 _ _ _ _ _ _ _).on hb
  have HW14 := Lib.hid (show Below w2.heap.size w2 w14 from (below_set7 HW13.out (H := w2.heap.size) (Nat.le_refl _) _ _ _ _ _ _ _).trans (hb.mono (below_set7 HW13.out (H := w2.heap.size) (Nat.le_refl _) _ _ _ _ _ _ _).size))
  have bp : Blk w14 w.heap.size 25 #[.int .i64 4, .int .i64 100, .int .i64 0] := HBP2.out.below HW14.out hbp2
  have br : Blk w14 (w.heap.size + 1) 27 #[.int .i64 2, .int .i64 5, .int .i64 1, .int .i64 5, .int .i64 100] := HBR2.out.below HW14.out hbr2
  have hz14 : w2.heap.size < w14.heap.size := bs.lt
  clear hb
  have q_bs0 : w14.cell? ⟨w2.heap.size, 0, none⟩ = some (.int .i64 0) := bs.cell 0
  have q_bs1 : w14.cell? ⟨w2.heap.size, 1, none⟩ = some (.int .i64 2) := bs.cell 1
  have q_bs2 : w14.cell? ⟨w2.heap.size, 2, none⟩ = some (.int .i64 1) := bs.cell 2
  have q_bs3 : w14.cell? ⟨w2.heap.size, 3, none⟩ = some (.int .i64 2) := bs.cell 3
  have q_bs4 : w14.cell? ⟨w2.heap.size, 4, none⟩ = some (.int .i64 3) := bs.cell 4
  have q_bs5 : w14.cell? ⟨w2.heap.size, 5, none⟩ = some (.int .i64 9) := bs.cell 5
  have q_bs6 : w14.cell? ⟨w2.heap.size, 6, none⟩ = some (.int .i64 1) := bs.cell 6
  have f_bs0 : w14.frozen? ⟨w2.heap.size, 0, none⟩ = false := bs.frozen 0
  have f_bs1 : w14.frozen? ⟨w2.heap.size, 1, none⟩ = false := bs.frozen 1
  have f_bs2 : w14.frozen? ⟨w2.heap.size, 2, none⟩ = false := bs.frozen 2
  have f_bs3 : w14.frozen? ⟨w2.heap.size, 3, none⟩ = false := bs.frozen 3
  have f_bs4 : w14.frozen? ⟨w2.heap.size, 4, none⟩ = false := bs.frozen 4
  have f_bs5 : w14.frozen? ⟨w2.heap.size, 5, none⟩ = false := bs.frozen 5
  have f_bs6 : w14.frozen? ⟨w2.heap.size, 6, none⟩ = false := bs.frozen 6
  have q_bp0 : w14.cell? ⟨w.heap.size, 0, none⟩ = some (.int .i64 4) := bp.cell 0
  have q_bp1 : w14.cell? ⟨w.heap.size, 1, none⟩ = some (.int .i64 100) := bp.cell 1
  have q_bp2 : w14.cell? ⟨w.heap.size, 2, none⟩ = some (.int .i64 0) := bp.cell 2
  have q_br0 : w14.cell? ⟨w.heap.size + 1, 0, none⟩ = some (.int .i64 2) := br.cell 0
  have q_br1 : w14.cell? ⟨w.heap.size + 1, 1, none⟩ = some (.int .i64 5) := br.cell 1
  have q_br2 : w14.cell? ⟨w.heap.size + 1, 2, none⟩ = some (.int .i64 1) := br.cell 2
  have q_br3 : w14.cell? ⟨w.heap.size + 1, 3, none⟩ = some (.int .i64 5) := br.cell 3
  have q_br4 : w14.cell? ⟨w.heap.size + 1, 4, none⟩ = some (.int .i64 100) := br.cell 4
  go_wp2_with fail
  refine (Partial_any 0 2 1 2 3 9 1 1 _).mono ?_
  rintro e w15 ⟨rfl, hb⟩
  clear q_bs0 q_bs1 q_bs2 q_bs3 q_bs4 q_bs5 q_bs6 f_bs0 f_bs1 f_bs2 f_bs3 f_bs4 f_bs5 f_bs6 q_bp0 q_bp1 q_bp2 q_br0 q_br1 q_br2 q_br3 q_br4
  rw [aw11]
  simp only [MR, MS.cs]
  have bt : Blk w15 w14.heap.size 23 #[.int .i64 0, .int .i64 3, .int .i64 0, .int .i64 0, .int .i64 0, .int .i64 0, .int .i64 0] := (Blk.new _ _ _).on hb
  have bs : Blk w15 w2.heap.size 23 #[.int .i64 0, .int .i64 2, .int .i64 1, .int .i64 2, .int .i64 3, .int .i64 9, .int .i64 1] := (bs.alloc _).on hb
  have HW15 := Lib.hid (show Below w2.heap.size w2 w15 from (HW14.out.alloc HW14.out.size _).trans (hb.mono (HW14.out.alloc HW14.out.size _).size))
  have bp : Blk w15 w.heap.size 25 #[.int .i64 4, .int .i64 100, .int .i64 0] := HBP2.out.below HW15.out hbp2
  have br : Blk w15 (w.heap.size + 1) 27 #[.int .i64 2, .int .i64 5, .int .i64 1, .int .i64 5, .int .i64 100] := HBR2.out.below HW15.out hbr2
  have hz15 : w2.heap.size < w15.heap.size := bs.lt
  clear hb
  have q_bs0 : w15.cell? ⟨w2.heap.size, 0, none⟩ = some (.int .i64 0) := bs.cell 0
  have q_bs1 : w15.cell? ⟨w2.heap.size, 1, none⟩ = some (.int .i64 2) := bs.cell 1
  have q_bs2 : w15.cell? ⟨w2.heap.size, 2, none⟩ = some (.int .i64 1) := bs.cell 2
  have q_bs3 : w15.cell? ⟨w2.heap.size, 3, none⟩ = some (.int .i64 2) := bs.cell 3
  have q_bs4 : w15.cell? ⟨w2.heap.size, 4, none⟩ = some (.int .i64 3) := bs.cell 4
  have q_bs5 : w15.cell? ⟨w2.heap.size, 5, none⟩ = some (.int .i64 9) := bs.cell 5
  have q_bs6 : w15.cell? ⟨w2.heap.size, 6, none⟩ = some (.int .i64 1) := bs.cell 6
  have f_bs0 : w15.frozen? ⟨w2.heap.size, 0, none⟩ = false := bs.frozen 0
  have f_bs1 : w15.frozen? ⟨w2.heap.size, 1, none⟩ = false := bs.frozen 1
  have f_bs2 : w15.frozen? ⟨w2.heap.size, 2, none⟩ = false := bs.frozen 2
  have f_bs3 : w15.frozen? ⟨w2.heap.size, 3, none⟩ = false := bs.frozen 3
  have f_bs4 : w15.frozen? ⟨w2.heap.size, 4, none⟩ = false := bs.frozen 4
  have f_bs5 : w15.frozen? ⟨w2.heap.size, 5, none⟩ = false := bs.frozen 5
  have f_bs6 : w15.frozen? ⟨w2.heap.size, 6, none⟩ = false := bs.frozen 6
  have q_bp0 : w15.cell? ⟨w.heap.size, 0, none⟩ = some (.int .i64 4) := bp.cell 0
  have q_bp1 : w15.cell? ⟨w.heap.size, 1, none⟩ = some (.int .i64 100) := bp.cell 1
  have q_bp2 : w15.cell? ⟨w.heap.size, 2, none⟩ = some (.int .i64 0) := bp.cell 2
  have q_br0 : w15.cell? ⟨w.heap.size + 1, 0, none⟩ = some (.int .i64 2) := br.cell 0
  have q_br1 : w15.cell? ⟨w.heap.size + 1, 1, none⟩ = some (.int .i64 5) := br.cell 1
  have q_br2 : w15.cell? ⟨w.heap.size + 1, 2, none⟩ = some (.int .i64 1) := br.cell 2
  have q_br3 : w15.cell? ⟨w.heap.size + 1, 3, none⟩ = some (.int .i64 5) := br.cell 3
  have q_br4 : w15.cell? ⟨w.heap.size + 1, 4, none⟩ = some (.int .i64 100) := br.cell 4
  have q_bt1 : w15.cell? ⟨w14.heap.size, 1, none⟩ = some (.int .i64 3) := bt.cell 1
  have q_btl : w14.heap.size < w15.heap.size := bt.lt
  have q_bsl : w2.heap.size < w15.heap.size := bs.lt
  go_wp2_with fail
  refine (MCheck_lit 0 2 1 2 3 9 1 _).mono ?_
  rintro e w16 ⟨rfl, hb⟩
  rw [awe]
  have HZ := Lib.hid (HB1.out.trans (((HW15.out.alloc HW15.out.size _).trans (hb.mono (HW15.out.alloc HW15.out.size _).size)).mono hz2))
  clear hb
  go_wp2_with fail
  go_ret
  exact ⟨rfl, HZ.out⟩
end Go.Proofs.Ytojghgeemdpmpaa
