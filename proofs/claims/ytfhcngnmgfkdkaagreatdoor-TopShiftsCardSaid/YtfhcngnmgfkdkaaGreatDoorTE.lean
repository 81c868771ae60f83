/- Rollouts: Start. -/
import Derived.Test.YtfhcngnmgfkdkaaGreatDoorTD
namespace Go.Proofs.YtfhcngnmgfkdkaaGreatDoor
open Go.RowKit
open Go.Sort (grow)

set_option maxHeartbeats 8000000 in
theorem Start_any (g : Sg) (hg : g.ok) (A : Option Addr) (c : Nat) (w : World) (h : StgR w A g) :
    Calls Tryz.prog 4 #[.agg #[.string ⟨#[108, 105, 118, 101]⟩, .int .i64 1, .int .i64 0, .int .i64 0], .int .i64 2, .slice A 3 c, .int .i64 0] w (NxPost w g ⟨1, ⟨1, 2, wtS g 0⟩, (0 : Nat), 0⟩) := by
  have hb2 : Below w.heap.size w ((w.alloc (.cells #[.string ⟨#[108, 105, 118, 101]⟩, .int .i64 1, .int .i64 0, .int .i64 0] 30)).alloc (.cells #[.int .i64 0, .string ⟨#[]⟩, .int .i64 0, .int .i64 0, .int .i64 0, .slice none 0 0, .int .i64 0, .int .i64 0] 32)) := (al_new w _).alloc (by simp) _
  have b0 : Blk ((w.alloc (.cells #[.string ⟨#[108, 105, 118, 101]⟩, .int .i64 1, .int .i64 0, .int .i64 0] 30)).alloc (.cells #[.int .i64 0, .string ⟨#[]⟩, .int .i64 0, .int .i64 0, .int .i64 0, .slice none 0 0, .int .i64 0, .int .i64 0] 32)) w.heap.size 30 #[.string ⟨#[108, 105, 118, 101]⟩, .int .i64 1, .int .i64 0, .int .i64 0] := (Blk.new w _ _).alloc _
  have b1 : Blk ((w.alloc (.cells #[.string ⟨#[108, 105, 118, 101]⟩, .int .i64 1, .int .i64 0, .int .i64 0] 30)).alloc (.cells #[.int .i64 0, .string ⟨#[]⟩, .int .i64 0, .int .i64 0, .int .i64 0, .slice none 0 0, .int .i64 0, .int .i64 0] 32)) (w.heap.size + 1) 32 #[.int .i64 0, .string ⟨#[]⟩, .int .i64 0, .int .i64 0, .int .i64 0, .slice none 0 0, .int .i64 0, .int .i64 0] := Blk.new1 w _ _ _
  have HB2 := Lib.hid hb2
  have HS0 := Lib.hid h
  have HS2 := Lib.hid (h.on hb2)
  have HRC := Lib.hid (rCheck_any A c g hg ((w.alloc (.cells #[.string ⟨#[108, 105, 118, 101]⟩, .int .i64 1, .int .i64 0, .int .i64 0] 30)).alloc (.cells #[.int .i64 0, .string ⟨#[]⟩, .int .i64 0, .int .i64 0, .int .i64 0, .slice none 0 0, .int .i64 0, .int .i64 0] 32)) (h.on hb2))
  have hz2 : w.heap.size + 1 < ((w.alloc (.cells #[.string ⟨#[108, 105, 118, 101]⟩, .int .i64 1, .int .i64 0, .int .i64 0] 30)).alloc (.cells #[.int .i64 0, .string ⟨#[]⟩, .int .i64 0, .int .i64 0, .int .i64 0, .slice none 0 0, .int .i64 0, .int .i64 0] 32)).heap.size := b1.lt
  clear hb2 h
  go_enter Tryz.func4, Tryz.ntmps4
  go_upto_region 1 with fail
  generalize ((w.alloc (.cells #[.string ⟨#[108, 105, 118, 101]⟩, .int .i64 1, .int .i64 0, .int .i64 0] 30)).alloc (.cells #[.int .i64 0, .string ⟨#[]⟩, .int .i64 0, .int .i64 0, .int .i64 0, .slice none 0 0, .int .i64 0, .int .i64 0] 32)) = w2 at *
  go_wp2_with fail
  refine HRC.out.mono ?_
  rintro e w3 ⟨rfl, hb⟩
  have b03 := b0.on hb
  have b13 := b1.on hb
  have HB3 := Lib.hid (HB2.out.trans (hb.mono HB2.out.size))
  have HS3 := Lib.hid (HS2.out.on hb)
  have hz3 : w2.heap.size ≤ w3.heap.size := hb.size
  have HI := Lib.hid (inst_yes (n := 0) (by decide) (by decide))
  have HBG := Lib.hid (fun W => Begin_any ⟨1, 0, 0⟩ (by unfold Al.ok; decide) 2 (by decide) rfl (by decide) W)
  clear hb b0 b1
  have d0 : w3.cell? ⟨w.heap.size, 0, none⟩ = some (.string ⟨#[108, 105, 118, 101]⟩) := b03.cell 0
  have d1 : w3.cell? ⟨w.heap.size, 1, none⟩ = some (.int .i64 1) := b03.cell 1
  have d2 : w3.cell? ⟨w.heap.size, 2, none⟩ = some (.int .i64 0) := b03.cell 2
  have d3 : w3.cell? ⟨w.heap.size, 3, none⟩ = some (.int .i64 0) := b03.cell 3
  go_wp2_with fail
  refine (HI.out _).mono ?_
  rintro e wq ⟨rfl, hq⟩
  obtain rfl := hq.symm
  go_wp2_with fail
  refine (HBG.out _).mono ?_
  rintro e w4 ⟨rfl, hb⟩
  have b04 := b03.on hb
  have b14 := b13.on hb
  have HB4 := Lib.hid (HB3.out.trans (hb.mono HB3.out.size))
  have HS4 := Lib.hid (HS3.out.on hb)
  have hz4 : w3.heap.size ≤ w4.heap.size := hb.size
  clear hb b03 b13 d0 d1 d2 d3
  have d0 : w4.cell? ⟨w.heap.size, 0, none⟩ = some (.string ⟨#[108, 105, 118, 101]⟩) := b04.cell 0
  have zd0 : w4.frozen? ⟨w.heap.size, 0, none⟩ = false := b04.frozen 0
  have d1 : w4.cell? ⟨w.heap.size, 1, none⟩ = some (.int .i64 1) := b04.cell 1
  have zd1 : w4.frozen? ⟨w.heap.size, 1, none⟩ = false := b04.frozen 1
  have d2 : w4.cell? ⟨w.heap.size, 2, none⟩ = some (.int .i64 0) := b04.cell 2
  have zd2 : w4.frozen? ⟨w.heap.size, 2, none⟩ = false := b04.frozen 2
  have d3 : w4.cell? ⟨w.heap.size, 3, none⟩ = some (.int .i64 0) := b04.cell 3
  have zd3 : w4.frozen? ⟨w.heap.size, 3, none⟩ = false := b04.frozen 3
  obtain ⟨b, o, rfl, hbl, hst⟩ := HS4.out.at_
  obtain ⟨s0, -⟩ := hst 0 (by decide)
  have HST := Lib.hid s0
  have hbw : b < w.heap.size := by
    obtain ⟨b', o', e', hb', -⟩ := HS0.out.at_
    injection e' with e'
    injection e' with e1 _
    rw [e1]; exact hb'
  have hneb : b ≠ w.heap.size := by omega
  clear s0 hst
  go_upto_region 7 with fail
  have bs0 : Blk (w4.setCell ⟨w.heap.size, 0, none⟩ (.string ⟨#[108, 105, 118, 101]⟩)) w.heap.size 30 #[.string ⟨#[108, 105, 118, 101]⟩, .int .i64 1, .int .i64 0, .int .i64 0] := b04.set_ 0 (.string ⟨#[108, 105, 118, 101]⟩)
  have bs1 : Blk ((w4.setCell ⟨w.heap.size, 0, none⟩ (.string ⟨#[108, 105, 118, 101]⟩)).setCell ⟨w.heap.size, 1, none⟩ (.int .i64 1)) w.heap.size 30 #[.string ⟨#[108, 105, 118, 101]⟩, .int .i64 1, .int .i64 0, .int .i64 0] := bs0.set_ 1 (.int .i64 1)
  have bs2 : Blk (((w4.setCell ⟨w.heap.size, 0, none⟩ (.string ⟨#[108, 105, 118, 101]⟩)).setCell ⟨w.heap.size, 1, none⟩ (.int .i64 1)).setCell ⟨w.heap.size, 2, none⟩ (.int .i64 2)) w.heap.size 30 #[.string ⟨#[108, 105, 118, 101]⟩, .int .i64 1, .int .i64 2, .int .i64 0] := bs1.set_ 2 (.int .i64 2)
  have bs3 : Blk ((((w4.setCell ⟨w.heap.size, 0, none⟩ (.string ⟨#[108, 105, 118, 101]⟩)).setCell ⟨w.heap.size, 1, none⟩ (.int .i64 1)).setCell ⟨w.heap.size, 2, none⟩ (.int .i64 2)).setCell ⟨w.heap.size, 3, none⟩ (.int .i64 0)) w.heap.size 30 #[.string ⟨#[108, 105, 118, 101]⟩, .int .i64 1, .int .i64 2, .int .i64 0] := bs2.set_ 3 (.int .i64 0)
  have hc5 : Chg (fun j => j = w.heap.size) w4 ((((w4.setCell ⟨w.heap.size, 0, none⟩ (.string ⟨#[108, 105, 118, 101]⟩)).setCell ⟨w.heap.size, 1, none⟩ (.int .i64 1)).setCell ⟨w.heap.size, 2, none⟩ (.int .i64 2)).setCell ⟨w.heap.size, 3, none⟩ (.int .i64 0)) := (((((Chg.refl (fun j => j = w.heap.size) w4).setCell (p := ⟨w.heap.size, 0, none⟩) (fun _ => rfl) _).setCell (p := ⟨w.heap.size, 1, none⟩) (fun _ => rfl) _).setCell (p := ⟨w.heap.size, 2, none⟩) (fun _ => rfl) _).setCell (p := ⟨w.heap.size, 3, none⟩) (fun _ => rfl) _)
  have b15 := hc5.blk b14 (by omega)
  have HB5 := Lib.hid (HB4.out.trans (hc5.toBelow (B := w.heap.size) (fun j hj => by omega) HB4.out.size))
  have HS5 := Lib.hid (HS0.out.on HB5.out)
  have hz5 : w4.heap.size ≤ ((((w4.setCell ⟨w.heap.size, 0, none⟩ (.string ⟨#[108, 105, 118, 101]⟩)).setCell ⟨w.heap.size, 1, none⟩ (.int .i64 1)).setCell ⟨w.heap.size, 2, none⟩ (.int .i64 2)).setCell ⟨w.heap.size, 3, none⟩ (.int .i64 0)).heap.size := hc5.size
  have s0 : ((((w4.setCell ⟨w.heap.size, 0, none⟩ (.string ⟨#[108, 105, 118, 101]⟩)).setCell ⟨w.heap.size, 1, none⟩ (.int .i64 1)).setCell ⟨w.heap.size, 2, none⟩ (.int .i64 2)).setCell ⟨w.heap.size, 3, none⟩ (.int .i64 0)).cell? ⟨b, o, none⟩ = some (.int .i64 (wtS g 0)) := (hc5.cell (p := ⟨b, o, none⟩) hbl (by omega)).trans HST.out
  clear hc5 b04 b14 bs0 bs1 bs2 HST d0 d1 d2 d3 zd0 zd1 zd2 zd3
  generalize ((((w4.setCell ⟨w.heap.size, 0, none⟩ (.string ⟨#[108, 105, 118, 101]⟩)).setCell ⟨w.heap.size, 1, none⟩ (.int .i64 1)).setCell ⟨w.heap.size, 2, none⟩ (.int .i64 2)).setCell ⟨w.heap.size, 3, none⟩ (.int .i64 0)) = w5 at *
  have d0 : w5.cell? ⟨w.heap.size, 0, none⟩ = some (.string ⟨#[108, 105, 118, 101]⟩) := bs3.cell 0
  have zd0 : w5.frozen? ⟨w.heap.size, 0, none⟩ = false := bs3.frozen 0
  have d1 : w5.cell? ⟨w.heap.size, 1, none⟩ = some (.int .i64 1) := bs3.cell 1
  have zd1 : w5.frozen? ⟨w.heap.size, 1, none⟩ = false := bs3.frozen 1
  have d2 : w5.cell? ⟨w.heap.size, 2, none⟩ = some (.int .i64 2) := bs3.cell 2
  have zd2 : w5.frozen? ⟨w.heap.size, 2, none⟩ = false := bs3.frozen 2
  have d3 : w5.cell? ⟨w.heap.size, 3, none⟩ = some (.int .i64 0) := bs3.cell 3
  have zd3 : w5.frozen? ⟨w.heap.size, 3, none⟩ = false := bs3.frozen 3
  go_upto_region 10 with fail
  have bt := bs3.set_ 3 (.int .i64 (wtS g 0))
  have hc6 : Chg (fun j => j = w.heap.size) w5 (w5.setCell ⟨w.heap.size, 3, none⟩ (.int .i64 (wtS g 0))) := (Chg.refl (fun j => j = w.heap.size) w5).setCell (p := ⟨w.heap.size, 3, none⟩) (fun _ => rfl) _
  have b16 := hc6.blk b15 (by omega)
  have HB6 := Lib.hid (HB5.out.trans (hc6.toBelow (B := w.heap.size) (fun j hj => by omega) HB5.out.size))
  have HS6 := Lib.hid (HS0.out.on HB6.out)
  have hz6 : w5.heap.size ≤ (w5.setCell ⟨w.heap.size, 3, none⟩ (.int .i64 (wtS g 0))).heap.size := hc6.size
  have bt6 : Blk (w5.setCell ⟨w.heap.size, 3, none⟩ (.int .i64 (wtS g 0))) w.heap.size 30 #[.string ⟨#[108, 105, 118, 101]⟩, .int .i64 1, .int .i64 2, .int .i64 (wtS g 0)] := bt
  clear hc6 b15 bs3 bt s0 d0 d1 d2 d3 zd0 zd1 zd2 zd3
  generalize (w5.setCell ⟨w.heap.size, 3, none⟩ (.int .i64 (wtS g 0))) = w6 at *
  have d0 : w6.cell? ⟨w.heap.size, 0, none⟩ = some (.string ⟨#[108, 105, 118, 101]⟩) := bt6.cell 0
  have d1 : w6.cell? ⟨w.heap.size, 1, none⟩ = some (.int .i64 1) := bt6.cell 1
  have d2 : w6.cell? ⟨w.heap.size, 2, none⟩ = some (.int .i64 2) := bt6.cell 2
  have d3 : w6.cell? ⟨w.heap.size, 3, none⟩ = some (.int .i64 (wtS g 0)) := bt6.cell 3
  have HOW := Lib.hid (show ∀ W, StgR W (some ⟨b, o, none⟩) g → Calls Tryz.prog 11 #[.agg #[.int .i64 1, .string ⟨#[108, 105, 118, 101]⟩, .int .i64 1, .int .i64 2, .int .i64 (wtS g 0), .slice (some ⟨b, o, none⟩) 3 c, .int .i64 0, .int .i64 0]] W (RoPost W ⟨1, ⟨1, 2, wtS g 0⟩, (0 : Nat), 0⟩ g) from fun W h => own_any ⟨1, ⟨1, 2, wtS g 0⟩, (0 : Nat), 0⟩ g (some ⟨b, o, none⟩) c W h)
  clear bt6
  go_wp2_with fail
  refine (HOW.out _ HS6.out).mono ?_
  rintro e wb ⟨A2, c2, rfl, hs, hbb⟩
  have b1B := b16.on hbb
  have HSB := Lib.hid hs
  have HBF := Lib.hid (HB6.out.trans (hbb.mono HB6.out.size))
  have q0 : wb.cell? ⟨w.heap.size + 1, 0, none⟩ = some (.int .i64 0) := b1B.cell 0
  have f0 : wb.frozen? ⟨w.heap.size + 1, 0, none⟩ = false := b1B.frozen 0
  have q1 : wb.cell? ⟨w.heap.size + 1, 1, none⟩ = some (.string ⟨#[]⟩) := b1B.cell 1
  have f1 : wb.frozen? ⟨w.heap.size + 1, 1, none⟩ = false := b1B.frozen 1
  have q2 : wb.cell? ⟨w.heap.size + 1, 2, none⟩ = some (.int .i64 0) := b1B.cell 2
  have f2 : wb.frozen? ⟨w.heap.size + 1, 2, none⟩ = false := b1B.frozen 2
  have q3 : wb.cell? ⟨w.heap.size + 1, 3, none⟩ = some (.int .i64 0) := b1B.cell 3
  have f3 : wb.frozen? ⟨w.heap.size + 1, 3, none⟩ = false := b1B.frozen 3
  have q4 : wb.cell? ⟨w.heap.size + 1, 4, none⟩ = some (.int .i64 0) := b1B.cell 4
  have f4 : wb.frozen? ⟨w.heap.size + 1, 4, none⟩ = false := b1B.frozen 4
  have q5 : wb.cell? ⟨w.heap.size + 1, 5, none⟩ = some (.slice none 0 0) := b1B.cell 5
  have f5 : wb.frozen? ⟨w.heap.size + 1, 5, none⟩ = false := b1B.frozen 5
  have q6 : wb.cell? ⟨w.heap.size + 1, 6, none⟩ = some (.int .i64 0) := b1B.cell 6
  have f6 : wb.frozen? ⟨w.heap.size + 1, 6, none⟩ = false := b1B.frozen 6
  have q7 : wb.cell? ⟨w.heap.size + 1, 7, none⟩ = some (.int .i64 0) := b1B.cell 7
  have f7 : wb.frozen? ⟨w.heap.size + 1, 7, none⟩ = false := b1B.frozen 7
  clear hs hbb b1B b16 d0 d1 d2 d3
  go_wp2_with fail
  refine bodyPost_ret (v := .tuple #[.agg #[.int .i64 1, .string ⟨#[108, 105, 118, 101]⟩, .int .i64 1, .int .i64 2, .int .i64 (wtS g 0), .slice A2 3 c2, .int .i64 (0 : Nat), .int .i64 0], .int .i64 0]) (by simp [results, Tryz.results4, go_sem, q0, q1, q2, q3, q4, q5, q6, q7]) rfl ?_
  exact ⟨A2, c2, rfl, (own8 HSB.out (by omega) _ _ _ _ _ _ _ _).base (show w.heap.size ≤ w6.heap.size by omega), below_set8 HBF.out (by omega) _ _ _ _ _ _ _ _⟩
end Go.Proofs.YtfhcngnmgfkdkaaGreatDoor
