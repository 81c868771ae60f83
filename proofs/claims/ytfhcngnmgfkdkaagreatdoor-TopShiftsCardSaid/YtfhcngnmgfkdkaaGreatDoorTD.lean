/- Rollouts: the endings, Next, Start. -/
import Derived.Test.YtfhcngnmgfkdkaaGreatDoorTC
import Derived.Laws.EntriesVeiled
namespace Go.Proofs.YtfhcngnmgfkdkaaGreatDoor
open Go.RowKit
open Go.Sort (grow)

theorem below_drew' (w : World) : Below w.heap.size w w.drew := (Below.refl _ _).drew
theorem Blk.drw {w : World} {t : TypeId} {b : Nat} {cs : Array Value} (h : Blk w b t cs) : Blk w.drew b t cs := h
theorem enters_ab (args : Array Value) (w : World) : Sem.run Tryz.prog (callFunc 48 args) w = .ok (.enter 48 args) w := enters_of Tryz.func48 (by kernel_rfl) rfl args w
theorem enters_pr (args : Array Value) (w : World) : Sem.run Tryz.prog (callFunc 49 args) w = .ok (.enter 49 args) w := enters_of Tryz.func49 (by kernel_rfl) rfl args w
theorem back_any (w : World) : Calls Tryz.prog 21 #[] w fun e w' => e = .returned (.agg #[.int .i64 3, .func (.func 48) #[] #[]]) ∧ Below w.heap.size w w' := by
  go_enter Tryz.func21, Tryz.ntmps21
  go_wp2_with fail
  refine bodyPost_ret (v := .agg #[.int .i64 3, .func (.func 48) #[] #[]]) (by simp [results, Tryz.results21, go_sem]) rfl ?_
  exact ⟨rfl, al_new w _⟩
theorem done_any (w : World) : Calls Tryz.prog 23 #[] w fun e w' => e = .returned (.agg #[.int .i64 2, .func (.func 49) #[] #[]]) ∧ Below w.heap.size w w' := by
  go_enter Tryz.func23, Tryz.ntmps23
  go_wp2_with fail
  refine bodyPost_ret (v := .agg #[.int .i64 2, .func (.func 49) #[] #[]]) (by simp [results, Tryz.results23, go_sem]) rfl ?_
  exact ⟨rfl, al_new w _⟩
set_option maxHeartbeats 8000000 in
theorem end_back (g : Sg) (hg : g.ok) (k : Nat) (s now : Int) (A : Option Addr) (c : Nat) (w : World) (h : StgR w A g) : Calls Tryz.prog 22 #[.agg #[.int .i64 3, .func (.func 48) #[] #[]], .agg #[.int .i64 1, .string ⟨#[108, 105, 118, 101]⟩, .int .i64 1, .int .i64 2, .int .i64 (wtS g k), .slice A 3 c, .int .i64 (k : Int), .int .i64 s], .int .i64 now] w fun e w' => ∃ A' c', e = .returned (.tuple #[.agg #[.int .i64 3, .string ⟨#[108, 105, 118, 101]⟩, .int .i64 1, .int .i64 0, .int .i64 0, .slice A' 3 c', .int .i64 (k : Int), .int .i64 now], .int .i64 0]) ∧ StgQ w' w.heap.size A' c' g ∧ Below w.heap.size w w' := by
  have hE := enters_ab
  have hb3 : Below w.heap.size w (((w.alloc (.cells #[.int .i64 3, .func (.func 48) #[] #[]] 81)).alloc (.cells #[.int .i64 1, .string ⟨#[108, 105, 118, 101]⟩, .int .i64 1, .int .i64 2, .int .i64 (wtS g k), .slice A 3 c, .int .i64 (k : Int), .int .i64 s] 32)).alloc (.cells #[.int .i64 0, .string ⟨#[]⟩, .int .i64 0, .int .i64 0, .int .i64 0, .slice none 0 0, .int .i64 0, .int .i64 0] 32)) := ((al_new w _).alloc (by simp) _).alloc (by simp <;> omega) _
  have b0 : Blk (((w.alloc (.cells #[.int .i64 3, .func (.func 48) #[] #[]] 81)).alloc (.cells #[.int .i64 1, .string ⟨#[108, 105, 118, 101]⟩, .int .i64 1, .int .i64 2, .int .i64 (wtS g k), .slice A 3 c, .int .i64 (k : Int), .int .i64 s] 32)).alloc (.cells #[.int .i64 0, .string ⟨#[]⟩, .int .i64 0, .int .i64 0, .int .i64 0, .slice none 0 0, .int .i64 0, .int .i64 0] 32)) w.heap.size 81 #[.int .i64 3, .func (.func 48) #[] #[]] := ((Blk.new w _ _).alloc _).alloc _
  have b1 : Blk (((w.alloc (.cells #[.int .i64 3, .func (.func 48) #[] #[]] 81)).alloc (.cells #[.int .i64 1, .string ⟨#[108, 105, 118, 101]⟩, .int .i64 1, .int .i64 2, .int .i64 (wtS g k), .slice A 3 c, .int .i64 (k : Int), .int .i64 s] 32)).alloc (.cells #[.int .i64 0, .string ⟨#[]⟩, .int .i64 0, .int .i64 0, .int .i64 0, .slice none 0 0, .int .i64 0, .int .i64 0] 32)) (w.heap.size + 1) 32 #[.int .i64 1, .string ⟨#[108, 105, 118, 101]⟩, .int .i64 1, .int .i64 2, .int .i64 (wtS g k), .slice A 3 c, .int .i64 (k : Int), .int .i64 s] := (Blk.new1 w _ _ _).alloc _
  have b2 : Blk (((w.alloc (.cells #[.int .i64 3, .func (.func 48) #[] #[]] 81)).alloc (.cells #[.int .i64 1, .string ⟨#[108, 105, 118, 101]⟩, .int .i64 1, .int .i64 2, .int .i64 (wtS g k), .slice A 3 c, .int .i64 (k : Int), .int .i64 s] 32)).alloc (.cells #[.int .i64 0, .string ⟨#[]⟩, .int .i64 0, .int .i64 0, .int .i64 0, .slice none 0 0, .int .i64 0, .int .i64 0] 32)) (w.heap.size + 2) 32 #[.int .i64 0, .string ⟨#[]⟩, .int .i64 0, .int .i64 0, .int .i64 0, .slice none 0 0, .int .i64 0, .int .i64 0] := by have h := Blk.new1 (w.alloc (.cells #[.int .i64 3, .func (.func 48) #[] #[]] 81)) (.cells #[.int .i64 1, .string ⟨#[108, 105, 118, 101]⟩, .int .i64 1, .int .i64 2, .int .i64 (wtS g k), .slice A 3 c, .int .i64 (k : Int), .int .i64 s] 32) 32 #[.int .i64 0, .string ⟨#[]⟩, .int .i64 0, .int .i64 0, .int .i64 0, .slice none 0 0, .int .i64 0, .int .i64 0]; simpa using h
  have HB3 := Lib.hid hb3
  have HS0 := Lib.hid h
  have HC := Lib.hid (show ∀ W, Calls Tryz.prog 48 #[.agg #[.string ⟨#[108, 105, 118, 101]⟩, .int .i64 1, .int .i64 2, .int .i64 (wtS g k)]] W (ChPost W (Al.mk 1 0 0)) from fun W => Abort_any ⟨1, 2, wtS g k⟩ (al_ok hg k) (by show (2 : Int) ≠ 0; decide) W)
  have hz3 : w.heap.size + 2 < (((w.alloc (.cells #[.int .i64 3, .func (.func 48) #[] #[]] 81)).alloc (.cells #[.int .i64 1, .string ⟨#[108, 105, 118, 101]⟩, .int .i64 1, .int .i64 2, .int .i64 (wtS g k), .slice A 3 c, .int .i64 (k : Int), .int .i64 s] 32)).alloc (.cells #[.int .i64 0, .string ⟨#[]⟩, .int .i64 0, .int .i64 0, .int .i64 0, .slice none 0 0, .int .i64 0, .int .i64 0] 32)).heap.size := b2.lt
  clear hb3 h
  go_enter Tryz.func22, Tryz.ntmps22
  go_upto_region 1 with fail
  generalize (((w.alloc (.cells #[.int .i64 3, .func (.func 48) #[] #[]] 81)).alloc (.cells #[.int .i64 1, .string ⟨#[108, 105, 118, 101]⟩, .int .i64 1, .int .i64 2, .int .i64 (wtS g k), .slice A 3 c, .int .i64 (k : Int), .int .i64 s] 32)).alloc (.cells #[.int .i64 0, .string ⟨#[]⟩, .int .i64 0, .int .i64 0, .int .i64 0, .slice none 0 0, .int .i64 0, .int .i64 0] 32)) = w3 at *
  have x0 : w3.cell? ⟨w.heap.size, 0, none⟩ = some (.int .i64 3) := b0.cell 0
  have x1 : w3.cell? ⟨w.heap.size, 1, none⟩ = some (.func (.func 48) #[] #[]) := b0.cell 1
  have d1 : w3.cell? ⟨(w.heap.size + 1), 1, none⟩ = some (.string ⟨#[108, 105, 118, 101]⟩) := b1.cell 1
  have d2 : w3.cell? ⟨(w.heap.size + 1), 2, none⟩ = some (.int .i64 1) := b1.cell 2
  have d3 : w3.cell? ⟨(w.heap.size + 1), 3, none⟩ = some (.int .i64 2) := b1.cell 3
  have d4 : w3.cell? ⟨(w.heap.size + 1), 4, none⟩ = some (.int .i64 (wtS g k)) := b1.cell 4
  go_wp2_with fail
  refine (HC.out _).mono ?_
  rintro e w4 ⟨rfl, hb⟩
  have hb5 := hb.alloc hb.size (.cells (Al.mk 1 0 0).cs 30)
  have c3 := Blk.new w4 30 (Al.mk 1 0 0).cs
  have b05 := b0.on hb5
  have b15 := b1.on hb5
  have b25 := b2.on hb5
  have HB5 := Lib.hid (HB3.out.trans (hb5.mono HB3.out.size))
  have hz4 : w3.heap.size ≤ w4.heap.size := hb.size
  clear hb hb5 b0 b1 b2 x0 x1 d1 d2 d3 d4
  unfold Al.cs at c3 b05 b15 b25 HB5
  go_upto_region 4 with fail
  generalize w4.alloc (.cells #[.string ⟨#[108, 105, 118, 101]⟩, .int .i64 1, .int .i64 0, .int .i64 0] 30) = w5 at *
  have x0 : w5.cell? ⟨w.heap.size, 0, none⟩ = some (.int .i64 3) := b05.cell 0
  have y0 : w5.cell? ⟨w4.heap.size, 0, none⟩ = some (.string ⟨#[108, 105, 118, 101]⟩) := c3.cell 0
  have y1 : w5.cell? ⟨w4.heap.size, 1, none⟩ = some (.int .i64 1) := c3.cell 1
  have y2 : w5.cell? ⟨w4.heap.size, 2, none⟩ = some (.int .i64 0) := c3.cell 2
  have y3 : w5.cell? ⟨w4.heap.size, 3, none⟩ = some (.int .i64 0) := c3.cell 3
  have d0 : w5.cell? ⟨(w.heap.size + 1), 0, none⟩ = some (.int .i64 1) := b15.cell 0
  have zd0 : w5.frozen? ⟨(w.heap.size + 1), 0, none⟩ = false := b15.frozen 0
  have d1 : w5.cell? ⟨(w.heap.size + 1), 1, none⟩ = some (.string ⟨#[108, 105, 118, 101]⟩) := b15.cell 1
  have zd1 : w5.frozen? ⟨(w.heap.size + 1), 1, none⟩ = false := b15.frozen 1
  have d2 : w5.cell? ⟨(w.heap.size + 1), 2, none⟩ = some (.int .i64 1) := b15.cell 2
  have zd2 : w5.frozen? ⟨(w.heap.size + 1), 2, none⟩ = false := b15.frozen 2
  have d3 : w5.cell? ⟨(w.heap.size + 1), 3, none⟩ = some (.int .i64 2) := b15.cell 3
  have zd3 : w5.frozen? ⟨(w.heap.size + 1), 3, none⟩ = false := b15.frozen 3
  have d4 : w5.cell? ⟨(w.heap.size + 1), 4, none⟩ = some (.int .i64 (wtS g k)) := b15.cell 4
  have zd4 : w5.frozen? ⟨(w.heap.size + 1), 4, none⟩ = false := b15.frozen 4
  have d5 : w5.cell? ⟨(w.heap.size + 1), 5, none⟩ = some (.slice A 3 c) := b15.cell 5
  have zd5 : w5.frozen? ⟨(w.heap.size + 1), 5, none⟩ = false := b15.frozen 5
  have d6 : w5.cell? ⟨(w.heap.size + 1), 6, none⟩ = some (.int .i64 (k : Int)) := b15.cell 6
  have zd6 : w5.frozen? ⟨(w.heap.size + 1), 6, none⟩ = false := b15.frozen 6
  have d7 : w5.cell? ⟨(w.heap.size + 1), 7, none⟩ = some (.int .i64 s) := b15.cell 7
  have zd7 : w5.frozen? ⟨(w.heap.size + 1), 7, none⟩ = false := b15.frozen 7
  go_region
  have hc6 : Chg (fun j => j = w.heap.size + 1) w5 ((((((w5.setCell ⟨w.heap.size + 1, 0, none⟩ (.int .i64 3)).setCell ⟨w.heap.size + 1, 1, none⟩ (.string ⟨#[108, 105, 118, 101]⟩)).setCell ⟨w.heap.size + 1, 2, none⟩ (.int .i64 1)).setCell ⟨w.heap.size + 1, 3, none⟩ (.int .i64 0)).setCell ⟨w.heap.size + 1, 4, none⟩ (.int .i64 0)).setCell ⟨w.heap.size + 1, 7, none⟩ (.int .i64 now)).drew := (((((((Chg.refl (fun j => j = w.heap.size + 1) w5).setCell (p := ⟨w.heap.size + 1, 0, none⟩) (fun _ => rfl) _).setCell (p := ⟨w.heap.size + 1, 1, none⟩) (fun _ => rfl) _).setCell (p := ⟨w.heap.size + 1, 2, none⟩) (fun _ => rfl) _).setCell (p := ⟨w.heap.size + 1, 3, none⟩) (fun _ => rfl) _).setCell (p := ⟨w.heap.size + 1, 4, none⟩) (fun _ => rfl) _).setCell (p := ⟨w.heap.size + 1, 7, none⟩) (fun _ => rfl) _).drew
  have bs0 : Blk (w5.setCell ⟨w.heap.size + 1, 0, none⟩ (.int .i64 3)) (w.heap.size + 1) 32 #[.int .i64 3, .string ⟨#[108, 105, 118, 101]⟩, .int .i64 1, .int .i64 2, .int .i64 (wtS g k), .slice A 3 c, .int .i64 (k : Int), .int .i64 s] := b15.set_ 0 (.int .i64 3)
  have bs1 : Blk ((w5.setCell ⟨w.heap.size + 1, 0, none⟩ (.int .i64 3)).setCell ⟨w.heap.size + 1, 1, none⟩ (.string ⟨#[108, 105, 118, 101]⟩)) (w.heap.size + 1) 32 #[.int .i64 3, .string ⟨#[108, 105, 118, 101]⟩, .int .i64 1, .int .i64 2, .int .i64 (wtS g k), .slice A 3 c, .int .i64 (k : Int), .int .i64 s] := bs0.set_ 1 (.string ⟨#[108, 105, 118, 101]⟩)
  have bs2 : Blk (((w5.setCell ⟨w.heap.size + 1, 0, none⟩ (.int .i64 3)).setCell ⟨w.heap.size + 1, 1, none⟩ (.string ⟨#[108, 105, 118, 101]⟩)).setCell ⟨w.heap.size + 1, 2, none⟩ (.int .i64 1)) (w.heap.size + 1) 32 #[.int .i64 3, .string ⟨#[108, 105, 118, 101]⟩, .int .i64 1, .int .i64 2, .int .i64 (wtS g k), .slice A 3 c, .int .i64 (k : Int), .int .i64 s] := bs1.set_ 2 (.int .i64 1)
  have bs3 : Blk ((((w5.setCell ⟨w.heap.size + 1, 0, none⟩ (.int .i64 3)).setCell ⟨w.heap.size + 1, 1, none⟩ (.string ⟨#[108, 105, 118, 101]⟩)).setCell ⟨w.heap.size + 1, 2, none⟩ (.int .i64 1)).setCell ⟨w.heap.size + 1, 3, none⟩ (.int .i64 0)) (w.heap.size + 1) 32 #[.int .i64 3, .string ⟨#[108, 105, 118, 101]⟩, .int .i64 1, .int .i64 0, .int .i64 (wtS g k), .slice A 3 c, .int .i64 (k : Int), .int .i64 s] := bs2.set_ 3 (.int .i64 0)
  have bs4 : Blk (((((w5.setCell ⟨w.heap.size + 1, 0, none⟩ (.int .i64 3)).setCell ⟨w.heap.size + 1, 1, none⟩ (.string ⟨#[108, 105, 118, 101]⟩)).setCell ⟨w.heap.size + 1, 2, none⟩ (.int .i64 1)).setCell ⟨w.heap.size + 1, 3, none⟩ (.int .i64 0)).setCell ⟨w.heap.size + 1, 4, none⟩ (.int .i64 0)) (w.heap.size + 1) 32 #[.int .i64 3, .string ⟨#[108, 105, 118, 101]⟩, .int .i64 1, .int .i64 0, .int .i64 0, .slice A 3 c, .int .i64 (k : Int), .int .i64 s] := bs3.set_ 4 (.int .i64 0)
  have bs5 : Blk ((((((w5.setCell ⟨w.heap.size + 1, 0, none⟩ (.int .i64 3)).setCell ⟨w.heap.size + 1, 1, none⟩ (.string ⟨#[108, 105, 118, 101]⟩)).setCell ⟨w.heap.size + 1, 2, none⟩ (.int .i64 1)).setCell ⟨w.heap.size + 1, 3, none⟩ (.int .i64 0)).setCell ⟨w.heap.size + 1, 4, none⟩ (.int .i64 0)).setCell ⟨w.heap.size + 1, 7, none⟩ (.int .i64 now)) (w.heap.size + 1) 32 #[.int .i64 3, .string ⟨#[108, 105, 118, 101]⟩, .int .i64 1, .int .i64 0, .int .i64 0, .slice A 3 c, .int .i64 (k : Int), .int .i64 now] := bs4.set_ 7 (.int .i64 now)
  have b16 : Blk ((((((w5.setCell ⟨w.heap.size + 1, 0, none⟩ (.int .i64 3)).setCell ⟨w.heap.size + 1, 1, none⟩ (.string ⟨#[108, 105, 118, 101]⟩)).setCell ⟨w.heap.size + 1, 2, none⟩ (.int .i64 1)).setCell ⟨w.heap.size + 1, 3, none⟩ (.int .i64 0)).setCell ⟨w.heap.size + 1, 4, none⟩ (.int .i64 0)).setCell ⟨w.heap.size + 1, 7, none⟩ (.int .i64 now)).drew (w.heap.size + 1) 32 #[.int .i64 3, .string ⟨#[108, 105, 118, 101]⟩, .int .i64 1, .int .i64 0, .int .i64 0, .slice A 3 c, .int .i64 (k : Int), .int .i64 now] := Blk.drw bs5
  clear bs0 bs1 bs2 bs3 bs4 bs5
  have b26 := hc6.blk b25 (by omega)
  have HB6 := Lib.hid (HB5.out.trans (hc6.toBelow (B := w.heap.size) (fun j hj => by omega) HB5.out.size))
  have HS6 := Lib.hid (HS0.out.on HB6.out)
  have hz6 : w.heap.size + 2 < ((((((w5.setCell ⟨w.heap.size + 1, 0, none⟩ (.int .i64 3)).setCell ⟨w.heap.size + 1, 1, none⟩ (.string ⟨#[108, 105, 118, 101]⟩)).setCell ⟨w.heap.size + 1, 2, none⟩ (.int .i64 1)).setCell ⟨w.heap.size + 1, 3, none⟩ (.int .i64 0)).setCell ⟨w.heap.size + 1, 4, none⟩ (.int .i64 0)).setCell ⟨w.heap.size + 1, 7, none⟩ (.int .i64 now)).drew.heap.size := b26.lt
  clear hc6 b15 b25 b05 c3 x0 y0 y1 y2 y3 d0 d1 d2 d3 d4 d5 d6 d7 zd0 zd1 zd2 zd3 zd4 zd5 zd6 zd7
  generalize ((((((w5.setCell ⟨w.heap.size + 1, 0, none⟩ (.int .i64 3)).setCell ⟨w.heap.size + 1, 1, none⟩ (.string ⟨#[108, 105, 118, 101]⟩)).setCell ⟨w.heap.size + 1, 2, none⟩ (.int .i64 1)).setCell ⟨w.heap.size + 1, 3, none⟩ (.int .i64 0)).setCell ⟨w.heap.size + 1, 4, none⟩ (.int .i64 0)).setCell ⟨w.heap.size + 1, 7, none⟩ (.int .i64 now)).drew = w6 at *
  have HOW := Lib.hid (show ∀ W, StgR W A g → Calls Tryz.prog 11 #[.agg #[.int .i64 3, .string ⟨#[108, 105, 118, 101]⟩, .int .i64 1, .int .i64 0, .int .i64 0, .slice A 3 c, .int .i64 (k : Int), .int .i64 now]] W (RoPost W ⟨3, (Al.mk 1 0 0), k, now⟩ g) from fun W h => own_any ⟨3, (Al.mk 1 0 0), k, now⟩ g A c W h)
  have d0 : w6.cell? ⟨(w.heap.size + 1), 0, none⟩ = some (.int .i64 3) := b16.cell 0
  have d1 : w6.cell? ⟨(w.heap.size + 1), 1, none⟩ = some (.string ⟨#[108, 105, 118, 101]⟩) := b16.cell 1
  have d2 : w6.cell? ⟨(w.heap.size + 1), 2, none⟩ = some (.int .i64 1) := b16.cell 2
  have d3 : w6.cell? ⟨(w.heap.size + 1), 3, none⟩ = some (.int .i64 0) := b16.cell 3
  have d4 : w6.cell? ⟨(w.heap.size + 1), 4, none⟩ = some (.int .i64 0) := b16.cell 4
  have d5 : w6.cell? ⟨(w.heap.size + 1), 5, none⟩ = some (.slice A 3 c) := b16.cell 5
  have d6 : w6.cell? ⟨(w.heap.size + 1), 6, none⟩ = some (.int .i64 (k : Int)) := b16.cell 6
  have d7 : w6.cell? ⟨(w.heap.size + 1), 7, none⟩ = some (.int .i64 now) := b16.cell 7
  go_wp2_with fail
  refine (HOW.out _ HS6.out).mono ?_
  rintro e w7 ⟨A2, c2, rfl, hs7, hb⟩
  have b27 := b26.on hb
  have HB7 := Lib.hid (HB6.out.trans (hb.mono HB6.out.size))
  have HS7 := Lib.hid hs7
  have hz7 : w6.heap.size ≤ w7.heap.size := hb.size
  clear hb hs7 b16 b26 d0 d1 d2 d3 d4 d5 d6 d7
  have q0 : w7.cell? ⟨w.heap.size + 1 + 1, 0, none⟩ = some (.int .i64 0) := b27.cell 0
  have zq0 : w7.frozen? ⟨w.heap.size + 1 + 1, 0, none⟩ = false := b27.frozen 0
  have q1 : w7.cell? ⟨w.heap.size + 1 + 1, 1, none⟩ = some (.string ⟨#[]⟩) := b27.cell 1
  have zq1 : w7.frozen? ⟨w.heap.size + 1 + 1, 1, none⟩ = false := b27.frozen 1
  have q2 : w7.cell? ⟨w.heap.size + 1 + 1, 2, none⟩ = some (.int .i64 0) := b27.cell 2
  have zq2 : w7.frozen? ⟨w.heap.size + 1 + 1, 2, none⟩ = false := b27.frozen 2
  have q3 : w7.cell? ⟨w.heap.size + 1 + 1, 3, none⟩ = some (.int .i64 0) := b27.cell 3
  have zq3 : w7.frozen? ⟨w.heap.size + 1 + 1, 3, none⟩ = false := b27.frozen 3
  have q4 : w7.cell? ⟨w.heap.size + 1 + 1, 4, none⟩ = some (.int .i64 0) := b27.cell 4
  have zq4 : w7.frozen? ⟨w.heap.size + 1 + 1, 4, none⟩ = false := b27.frozen 4
  have q5 : w7.cell? ⟨w.heap.size + 1 + 1, 5, none⟩ = some (.slice none 0 0) := b27.cell 5
  have zq5 : w7.frozen? ⟨w.heap.size + 1 + 1, 5, none⟩ = false := b27.frozen 5
  have q6 : w7.cell? ⟨w.heap.size + 1 + 1, 6, none⟩ = some (.int .i64 0) := b27.cell 6
  have zq6 : w7.frozen? ⟨w.heap.size + 1 + 1, 6, none⟩ = false := b27.frozen 6
  have q7 : w7.cell? ⟨w.heap.size + 1 + 1, 7, none⟩ = some (.int .i64 0) := b27.cell 7
  have zq7 : w7.frozen? ⟨w.heap.size + 1 + 1, 7, none⟩ = false := b27.frozen 7
  clear b27
  have e11 : w.heap.size + 1 + 1 = w.heap.size + 2 := rfl
  go_wp2_with fail
  refine bodyPost_ret (v := .tuple #[.agg #[.int .i64 3, .string ⟨#[108, 105, 118, 101]⟩, .int .i64 1, .int .i64 0, .int .i64 0, .slice A2 3 c2, .int .i64 (k : Int), .int .i64 now], .int .i64 0]) (by simp [results, Tryz.results22, go_sem, q0, q1, q2, q3, q4, q5, q6, q7]) rfl ?_
  exact ⟨A2, c2, rfl, (own8 HS7.out (by omega) _ _ _ _ _ _ _ _).base HB6.out.size, below_set8 HB7.out (by omega) _ _ _ _ _ _ _ _⟩
set_option maxHeartbeats 8000000 in
theorem end_done (g : Sg) (hg : g.ok) (k : Nat) (s now : Int) (A : Option Addr) (c : Nat) (w : World) (h : StgR w A g) : Calls Tryz.prog 22 #[.agg #[.int .i64 2, .func (.func 49) #[] #[]], .agg #[.int .i64 1, .string ⟨#[108, 105, 118, 101]⟩, .int .i64 1, .int .i64 2, .int .i64 (wtS g k), .slice A 3 c, .int .i64 (k : Int), .int .i64 s], .int .i64 now] w fun e w' => ∃ A' c', e = .returned (.tuple #[.agg #[.int .i64 2, .string ⟨#[108, 105, 118, 101]⟩, .int .i64 2, .int .i64 0, .int .i64 0, .slice A' 3 c', .int .i64 (k : Int), .int .i64 now], .int .i64 0]) ∧ StgQ w' w.heap.size A' c' g ∧ Below w.heap.size w w' := by
  have hE := enters_pr
  have hb3 : Below w.heap.size w (((w.alloc (.cells #[.int .i64 2, .func (.func 49) #[] #[]] 81)).alloc (.cells #[.int .i64 1, .string ⟨#[108, 105, 118, 101]⟩, .int .i64 1, .int .i64 2, .int .i64 (wtS g k), .slice A 3 c, .int .i64 (k : Int), .int .i64 s] 32)).alloc (.cells #[.int .i64 0, .string ⟨#[]⟩, .int .i64 0, .int .i64 0, .int .i64 0, .slice none 0 0, .int .i64 0, .int .i64 0] 32)) := ((al_new w _).alloc (by simp) _).alloc (by simp <;> omega) _
  have b0 : Blk (((w.alloc (.cells #[.int .i64 2, .func (.func 49) #[] #[]] 81)).alloc (.cells #[.int .i64 1, .string ⟨#[108, 105, 118, 101]⟩, .int .i64 1, .int .i64 2, .int .i64 (wtS g k), .slice A 3 c, .int .i64 (k : Int), .int .i64 s] 32)).alloc (.cells #[.int .i64 0, .string ⟨#[]⟩, .int .i64 0, .int .i64 0, .int .i64 0, .slice none 0 0, .int .i64 0, .int .i64 0] 32)) w.heap.size 81 #[.int .i64 2, .func (.func 49) #[] #[]] := ((Blk.new w _ _).alloc _).alloc _
  have b1 : Blk (((w.alloc (.cells #[.int .i64 2, .func (.func 49) #[] #[]] 81)).alloc (.cells #[.int .i64 1, .string ⟨#[108, 105, 118, 101]⟩, .int .i64 1, .int .i64 2, .int .i64 (wtS g k), .slice A 3 c, .int .i64 (k : Int), .int .i64 s] 32)).alloc (.cells #[.int .i64 0, .string ⟨#[]⟩, .int .i64 0, .int .i64 0, .int .i64 0, .slice none 0 0, .int .i64 0, .int .i64 0] 32)) (w.heap.size + 1) 32 #[.int .i64 1, .string ⟨#[108, 105, 118, 101]⟩, .int .i64 1, .int .i64 2, .int .i64 (wtS g k), .slice A 3 c, .int .i64 (k : Int), .int .i64 s] := (Blk.new1 w _ _ _).alloc _
  have b2 : Blk (((w.alloc (.cells #[.int .i64 2, .func (.func 49) #[] #[]] 81)).alloc (.cells #[.int .i64 1, .string ⟨#[108, 105, 118, 101]⟩, .int .i64 1, .int .i64 2, .int .i64 (wtS g k), .slice A 3 c, .int .i64 (k : Int), .int .i64 s] 32)).alloc (.cells #[.int .i64 0, .string ⟨#[]⟩, .int .i64 0, .int .i64 0, .int .i64 0, .slice none 0 0, .int .i64 0, .int .i64 0] 32)) (w.heap.size + 2) 32 #[.int .i64 0, .string ⟨#[]⟩, .int .i64 0, .int .i64 0, .int .i64 0, .slice none 0 0, .int .i64 0, .int .i64 0] := by have h := Blk.new1 (w.alloc (.cells #[.int .i64 2, .func (.func 49) #[] #[]] 81)) (.cells #[.int .i64 1, .string ⟨#[108, 105, 118, 101]⟩, .int .i64 1, .int .i64 2, .int .i64 (wtS g k), .slice A 3 c, .int .i64 (k : Int), .int .i64 s] 32) 32 #[.int .i64 0, .string ⟨#[]⟩, .int .i64 0, .int .i64 0, .int .i64 0, .slice none 0 0, .int .i64 0, .int .i64 0]; simpa using h
  have HB3 := Lib.hid hb3
  have HS0 := Lib.hid h
  have HC := Lib.hid (show ∀ W, Calls Tryz.prog 49 #[.agg #[.string ⟨#[108, 105, 118, 101]⟩, .int .i64 1, .int .i64 2, .int .i64 (wtS g k)]] W (ChPost W (Al.mk 2 0 0)) from fun W => Promote_any ⟨1, 2, wtS g k⟩ (al_ok hg k) (by show (2 : Int) ≠ 0; decide) W)
  have hz3 : w.heap.size + 2 < (((w.alloc (.cells #[.int .i64 2, .func (.func 49) #[] #[]] 81)).alloc (.cells #[.int .i64 1, .string ⟨#[108, 105, 118, 101]⟩, .int .i64 1, .int .i64 2, .int .i64 (wtS g k), .slice A 3 c, .int .i64 (k : Int), .int .i64 s] 32)).alloc (.cells #[.int .i64 0, .string ⟨#[]⟩, .int .i64 0, .int .i64 0, .int .i64 0, .slice none 0 0, .int .i64 0, .int .i64 0] 32)).heap.size := b2.lt
  clear hb3 h
  go_enter Tryz.func22, Tryz.ntmps22
  go_upto_region 1 with fail
  generalize (((w.alloc (.cells #[.int .i64 2, .func (.func 49) #[] #[]] 81)).alloc (.cells #[.int .i64 1, .string ⟨#[108, 105, 118, 101]⟩, .int .i64 1, .int .i64 2, .int .i64 (wtS g k), .slice A 3 c, .int .i64 (k : Int), .int .i64 s] 32)).alloc (.cells #[.int .i64 0, .string ⟨#[]⟩, .int .i64 0, .int .i64 0, .int .i64 0, .slice none 0 0, .int .i64 0, .int .i64 0] 32)) = w3 at *
  have x0 : w3.cell? ⟨w.heap.size, 0, none⟩ = some (.int .i64 2) := b0.cell 0
  have x1 : w3.cell? ⟨w.heap.size, 1, none⟩ = some (.func (.func 49) #[] #[]) := b0.cell 1
  have d1 : w3.cell? ⟨(w.heap.size + 1), 1, none⟩ = some (.string ⟨#[108, 105, 118, 101]⟩) := b1.cell 1
  have d2 : w3.cell? ⟨(w.heap.size + 1), 2, none⟩ = some (.int .i64 1) := b1.cell 2
  have d3 : w3.cell? ⟨(w.heap.size + 1), 3, none⟩ = some (.int .i64 2) := b1.cell 3
  have d4 : w3.cell? ⟨(w.heap.size + 1), 4, none⟩ = some (.int .i64 (wtS g k)) := b1.cell 4
  go_wp2_with fail
  refine (HC.out _).mono ?_
  rintro e w4 ⟨rfl, hb⟩
  have hb5 := hb.alloc hb.size (.cells (Al.mk 2 0 0).cs 30)
  have c3 := Blk.new w4 30 (Al.mk 2 0 0).cs
  have b05 := b0.on hb5
  have b15 := b1.on hb5
  have b25 := b2.on hb5
  have HB5 := Lib.hid (HB3.out.trans (hb5.mono HB3.out.size))
  have hz4 : w3.heap.size ≤ w4.heap.size := hb.size
  clear hb hb5 b0 b1 b2 x0 x1 d1 d2 d3 d4
  unfold Al.cs at c3 b05 b15 b25 HB5
  go_upto_region 4 with fail
  generalize w4.alloc (.cells #[.string ⟨#[108, 105, 118, 101]⟩, .int .i64 2, .int .i64 0, .int .i64 0] 30) = w5 at *
  have x0 : w5.cell? ⟨w.heap.size, 0, none⟩ = some (.int .i64 2) := b05.cell 0
  have y0 : w5.cell? ⟨w4.heap.size, 0, none⟩ = some (.string ⟨#[108, 105, 118, 101]⟩) := c3.cell 0
  have y1 : w5.cell? ⟨w4.heap.size, 1, none⟩ = some (.int .i64 2) := c3.cell 1
  have y2 : w5.cell? ⟨w4.heap.size, 2, none⟩ = some (.int .i64 0) := c3.cell 2
  have y3 : w5.cell? ⟨w4.heap.size, 3, none⟩ = some (.int .i64 0) := c3.cell 3
  have d0 : w5.cell? ⟨(w.heap.size + 1), 0, none⟩ = some (.int .i64 1) := b15.cell 0
  have zd0 : w5.frozen? ⟨(w.heap.size + 1), 0, none⟩ = false := b15.frozen 0
  have d1 : w5.cell? ⟨(w.heap.size + 1), 1, none⟩ = some (.string ⟨#[108, 105, 118, 101]⟩) := b15.cell 1
  have zd1 : w5.frozen? ⟨(w.heap.size + 1), 1, none⟩ = false := b15.frozen 1
  have d2 : w5.cell? ⟨(w.heap.size + 1), 2, none⟩ = some (.int .i64 1) := b15.cell 2
  have zd2 : w5.frozen? ⟨(w.heap.size + 1), 2, none⟩ = false := b15.frozen 2
  have d3 : w5.cell? ⟨(w.heap.size + 1), 3, none⟩ = some (.int .i64 2) := b15.cell 3
  have zd3 : w5.frozen? ⟨(w.heap.size + 1), 3, none⟩ = false := b15.frozen 3
  have d4 : w5.cell? ⟨(w.heap.size + 1), 4, none⟩ = some (.int .i64 (wtS g k)) := b15.cell 4
  have zd4 : w5.frozen? ⟨(w.heap.size + 1), 4, none⟩ = false := b15.frozen 4
  have d5 : w5.cell? ⟨(w.heap.size + 1), 5, none⟩ = some (.slice A 3 c) := b15.cell 5
  have zd5 : w5.frozen? ⟨(w.heap.size + 1), 5, none⟩ = false := b15.frozen 5
  have d6 : w5.cell? ⟨(w.heap.size + 1), 6, none⟩ = some (.int .i64 (k : Int)) := b15.cell 6
  have zd6 : w5.frozen? ⟨(w.heap.size + 1), 6, none⟩ = false := b15.frozen 6
  have d7 : w5.cell? ⟨(w.heap.size + 1), 7, none⟩ = some (.int .i64 s) := b15.cell 7
  have zd7 : w5.frozen? ⟨(w.heap.size + 1), 7, none⟩ = false := b15.frozen 7
  go_region
  have hc6 : Chg (fun j => j = w.heap.size + 1) w5 ((((((w5.setCell ⟨w.heap.size + 1, 0, none⟩ (.int .i64 2)).setCell ⟨w.heap.size + 1, 1, none⟩ (.string ⟨#[108, 105, 118, 101]⟩)).setCell ⟨w.heap.size + 1, 2, none⟩ (.int .i64 2)).setCell ⟨w.heap.size + 1, 3, none⟩ (.int .i64 0)).setCell ⟨w.heap.size + 1, 4, none⟩ (.int .i64 0)).setCell ⟨w.heap.size + 1, 7, none⟩ (.int .i64 now)).drew := (((((((Chg.refl (fun j => j = w.heap.size + 1) w5).setCell (p := ⟨w.heap.size + 1, 0, none⟩) (fun _ => rfl) _).setCell (p := ⟨w.heap.size + 1, 1, none⟩) (fun _ => rfl) _).setCell (p := ⟨w.heap.size + 1, 2, none⟩) (fun _ => rfl) _).setCell (p := ⟨w.heap.size + 1, 3, none⟩) (fun _ => rfl) _).setCell (p := ⟨w.heap.size + 1, 4, none⟩) (fun _ => rfl) _).setCell (p := ⟨w.heap.size + 1, 7, none⟩) (fun _ => rfl) _).drew
  have bs0 : Blk (w5.setCell ⟨w.heap.size + 1, 0, none⟩ (.int .i64 2)) (w.heap.size + 1) 32 #[.int .i64 2, .string ⟨#[108, 105, 118, 101]⟩, .int .i64 1, .int .i64 2, .int .i64 (wtS g k), .slice A 3 c, .int .i64 (k : Int), .int .i64 s] := b15.set_ 0 (.int .i64 2)
  have bs1 : Blk ((w5.setCell ⟨w.heap.size + 1, 0, none⟩ (.int .i64 2)).setCell ⟨w.heap.size + 1, 1, none⟩ (.string ⟨#[108, 105, 118, 101]⟩)) (w.heap.size + 1) 32 #[.int .i64 2, .string ⟨#[108, 105, 118, 101]⟩, .int .i64 1, .int .i64 2, .int .i64 (wtS g k), .slice A 3 c, .int .i64 (k : Int), .int .i64 s] := bs0.set_ 1 (.string ⟨#[108, 105, 118, 101]⟩)
  have bs2 : Blk (((w5.setCell ⟨w.heap.size + 1, 0, none⟩ (.int .i64 2)).setCell ⟨w.heap.size + 1, 1, none⟩ (.string ⟨#[108, 105, 118, 101]⟩)).setCell ⟨w.heap.size + 1, 2, none⟩ (.int .i64 2)) (w.heap.size + 1) 32 #[.int .i64 2, .string ⟨#[108, 105, 118, 101]⟩, .int .i64 2, .int .i64 2, .int .i64 (wtS g k), .slice A 3 c, .int .i64 (k : Int), .int .i64 s] := bs1.set_ 2 (.int .i64 2)
  have bs3 : Blk ((((w5.setCell ⟨w.heap.size + 1, 0, none⟩ (.int .i64 2)).setCell ⟨w.heap.size + 1, 1, none⟩ (.string ⟨#[108, 105, 118, 101]⟩)).setCell ⟨w.heap.size + 1, 2, none⟩ (.int .i64 2)).setCell ⟨w.heap.size + 1, 3, none⟩ (.int .i64 0)) (w.heap.size + 1) 32 #[.int .i64 2, .string ⟨#[108, 105, 118, 101]⟩, .int .i64 2, .int .i64 0, .int .i64 (wtS g k), .slice A 3 c, .int .i64 (k : Int), .int .i64 s] := bs2.set_ 3 (.int .i64 0)
  have bs4 : Blk (((((w5.setCell ⟨w.heap.size + 1, 0, none⟩ (.int .i64 2)).setCell ⟨w.heap.size + 1, 1, none⟩ (.string ⟨#[108, 105, 118, 101]⟩)).setCell ⟨w.heap.size + 1, 2, none⟩ (.int .i64 2)).setCell ⟨w.heap.size + 1, 3, none⟩ (.int .i64 0)).setCell ⟨w.heap.size + 1, 4, none⟩ (.int .i64 0)) (w.heap.size + 1) 32 #[.int .i64 2, .string ⟨#[108, 105, 118, 101]⟩, .int .i64 2, .int .i64 0, .int .i64 0, .slice A 3 c, .int .i64 (k : Int), .int .i64 s] := bs3.set_ 4 (.int .i64 0)
  have bs5 : Blk ((((((w5.setCell ⟨w.heap.size + 1, 0, none⟩ (.int .i64 2)).setCell ⟨w.heap.size + 1, 1, none⟩ (.string ⟨#[108, 105, 118, 101]⟩)).setCell ⟨w.heap.size + 1, 2, none⟩ (.int .i64 2)).setCell ⟨w.heap.size + 1, 3, none⟩ (.int .i64 0)).setCell ⟨w.heap.size + 1, 4, none⟩ (.int .i64 0)).setCell ⟨w.heap.size + 1, 7, none⟩ (.int .i64 now)) (w.heap.size + 1) 32 #[.int .i64 2, .string ⟨#[108, 105, 118, 101]⟩, .int .i64 2, .int .i64 0, .int .i64 0, .slice A 3 c, .int .i64 (k : Int), .int .i64 now] := bs4.set_ 7 (.int .i64 now)
  have b16 : Blk ((((((w5.setCell ⟨w.heap.size + 1, 0, none⟩ (.int .i64 2)).setCell ⟨w.heap.size + 1, 1, none⟩ (.string ⟨#[108, 105, 118, 101]⟩)).setCell ⟨w.heap.size + 1, 2, none⟩ (.int .i64 2)).setCell ⟨w.heap.size + 1, 3, none⟩ (.int .i64 0)).setCell ⟨w.heap.size + 1, 4, none⟩ (.int .i64 0)).setCell ⟨w.heap.size + 1, 7, none⟩ (.int .i64 now)).drew (w.heap.size + 1) 32 #[.int .i64 2, .string ⟨#[108, 105, 118, 101]⟩, .int .i64 2, .int .i64 0, .int .i64 0, .slice A 3 c, .int .i64 (k : Int), .int .i64 now] := Blk.drw bs5
  clear bs0 bs1 bs2 bs3 bs4 bs5
  have b26 := hc6.blk b25 (by omega)
  have HB6 := Lib.hid (HB5.out.trans (hc6.toBelow (B := w.heap.size) (fun j hj => by omega) HB5.out.size))
  have HS6 := Lib.hid (HS0.out.on HB6.out)
  have hz6 : w.heap.size + 2 < ((((((w5.setCell ⟨w.heap.size + 1, 0, none⟩ (.int .i64 2)).setCell ⟨w.heap.size + 1, 1, none⟩ (.string ⟨#[108, 105, 118, 101]⟩)).setCell ⟨w.heap.size + 1, 2, none⟩ (.int .i64 2)).setCell ⟨w.heap.size + 1, 3, none⟩ (.int .i64 0)).setCell ⟨w.heap.size + 1, 4, none⟩ (.int .i64 0)).setCell ⟨w.heap.size + 1, 7, none⟩ (.int .i64 now)).drew.heap.size := b26.lt
  clear hc6 b15 b25 b05 c3 x0 y0 y1 y2 y3 d0 d1 d2 d3 d4 d5 d6 d7 zd0 zd1 zd2 zd3 zd4 zd5 zd6 zd7
  generalize ((((((w5.setCell ⟨w.heap.size + 1, 0, none⟩ (.int .i64 2)).setCell ⟨w.heap.size + 1, 1, none⟩ (.string ⟨#[108, 105, 118, 101]⟩)).setCell ⟨w.heap.size + 1, 2, none⟩ (.int .i64 2)).setCell ⟨w.heap.size + 1, 3, none⟩ (.int .i64 0)).setCell ⟨w.heap.size + 1, 4, none⟩ (.int .i64 0)).setCell ⟨w.heap.size + 1, 7, none⟩ (.int .i64 now)).drew = w6 at *
  have HOW := Lib.hid (show ∀ W, StgR W A g → Calls Tryz.prog 11 #[.agg #[.int .i64 2, .string ⟨#[108, 105, 118, 101]⟩, .int .i64 2, .int .i64 0, .int .i64 0, .slice A 3 c, .int .i64 (k : Int), .int .i64 now]] W (RoPost W ⟨2, (Al.mk 2 0 0), k, now⟩ g) from fun W h => own_any ⟨2, (Al.mk 2 0 0), k, now⟩ g A c W h)
  have d0 : w6.cell? ⟨(w.heap.size + 1), 0, none⟩ = some (.int .i64 2) := b16.cell 0
  have d1 : w6.cell? ⟨(w.heap.size + 1), 1, none⟩ = some (.string ⟨#[108, 105, 118, 101]⟩) := b16.cell 1
  have d2 : w6.cell? ⟨(w.heap.size + 1), 2, none⟩ = some (.int .i64 2) := b16.cell 2
  have d3 : w6.cell? ⟨(w.heap.size + 1), 3, none⟩ = some (.int .i64 0) := b16.cell 3
  have d4 : w6.cell? ⟨(w.heap.size + 1), 4, none⟩ = some (.int .i64 0) := b16.cell 4
  have d5 : w6.cell? ⟨(w.heap.size + 1), 5, none⟩ = some (.slice A 3 c) := b16.cell 5
  have d6 : w6.cell? ⟨(w.heap.size + 1), 6, none⟩ = some (.int .i64 (k : Int)) := b16.cell 6
  have d7 : w6.cell? ⟨(w.heap.size + 1), 7, none⟩ = some (.int .i64 now) := b16.cell 7
  go_wp2_with fail
  refine (HOW.out _ HS6.out).mono ?_
  rintro e w7 ⟨A2, c2, rfl, hs7, hb⟩
  have b27 := b26.on hb
  have HB7 := Lib.hid (HB6.out.trans (hb.mono HB6.out.size))
  have HS7 := Lib.hid hs7
  have hz7 : w6.heap.size ≤ w7.heap.size := hb.size
  clear hb hs7 b16 b26 d0 d1 d2 d3 d4 d5 d6 d7
  have q0 : w7.cell? ⟨w.heap.size + 1 + 1, 0, none⟩ = some (.int .i64 0) := b27.cell 0
  have zq0 : w7.frozen? ⟨w.heap.size + 1 + 1, 0, none⟩ = false := b27.frozen 0
  have q1 : w7.cell? ⟨w.heap.size + 1 + 1, 1, none⟩ = some (.string ⟨#[]⟩) := b27.cell 1
  have zq1 : w7.frozen? ⟨w.heap.size + 1 + 1, 1, none⟩ = false := b27.frozen 1
  have q2 : w7.cell? ⟨w.heap.size + 1 + 1, 2, none⟩ = some (.int .i64 0) := b27.cell 2
  have zq2 : w7.frozen? ⟨w.heap.size + 1 + 1, 2, none⟩ = false := b27.frozen 2
  have q3 : w7.cell? ⟨w.heap.size + 1 + 1, 3, none⟩ = some (.int .i64 0) := b27.cell 3
  have zq3 : w7.frozen? ⟨w.heap.size + 1 + 1, 3, none⟩ = false := b27.frozen 3
  have q4 : w7.cell? ⟨w.heap.size + 1 + 1, 4, none⟩ = some (.int .i64 0) := b27.cell 4
  have zq4 : w7.frozen? ⟨w.heap.size + 1 + 1, 4, none⟩ = false := b27.frozen 4
  have q5 : w7.cell? ⟨w.heap.size + 1 + 1, 5, none⟩ = some (.slice none 0 0) := b27.cell 5
  have zq5 : w7.frozen? ⟨w.heap.size + 1 + 1, 5, none⟩ = false := b27.frozen 5
  have q6 : w7.cell? ⟨w.heap.size + 1 + 1, 6, none⟩ = some (.int .i64 0) := b27.cell 6
  have zq6 : w7.frozen? ⟨w.heap.size + 1 + 1, 6, none⟩ = false := b27.frozen 6
  have q7 : w7.cell? ⟨w.heap.size + 1 + 1, 7, none⟩ = some (.int .i64 0) := b27.cell 7
  have zq7 : w7.frozen? ⟨w.heap.size + 1 + 1, 7, none⟩ = false := b27.frozen 7
  clear b27
  have e11 : w.heap.size + 1 + 1 = w.heap.size + 2 := rfl
  go_wp2_with fail
  refine bodyPost_ret (v := .tuple #[.agg #[.int .i64 2, .string ⟨#[108, 105, 118, 101]⟩, .int .i64 2, .int .i64 0, .int .i64 0, .slice A2 3 c2, .int .i64 (k : Int), .int .i64 now], .int .i64 0]) (by simp [results, Tryz.results22, go_sem, q0, q1, q2, q3, q4, q5, q6, q7]) rfl ?_
  exact ⟨A2, c2, rfl, (own8 HS7.out (by omega) _ _ _ _ _ _ _ _).base HB6.out.size, below_set8 HB7.out (by omega) _ _ _ _ _ _ _ _⟩
/-- A rollout behind Next. -/
def nextR (g : Sg) (k : Nat) (s : Int) (healthy : Bool) (now : Int) : Ro :=
  if healthy = false then ⟨3, ⟨1, 0, 0⟩, k, now⟩ else if now - s < bkS g k then ⟨1, ⟨1, 2, wtS g k⟩, k, s⟩ else if k = 2 then ⟨2, ⟨2, 0, 0⟩, k, now⟩ else ⟨1, ⟨1, 2, wtS g (k + 1)⟩, (k + 1 : Nat), now⟩
def NxPost (w : World) (g : Sg) (r : Ro) (e : Ending) (w' : World) : Prop := ∃ A c, e = .returned (.tuple #[.agg #[.int .i64 r.sta, .string ⟨#[108, 105, 118, 101]⟩, .int .i64 r.al.st, .int .i64 r.al.ca, .int .i64 r.al.we, .slice A 3 c, .int .i64 r.at_, .int .i64 r.since], .int .i64 0]) ∧ StgQ w' w.heap.size A c g ∧ Below w.heap.size w w'
set_option maxHeartbeats 16000000 in
set_option maxRecDepth 10000 in
theorem Next_any (g : Sg) (hg : g.ok) (k : Nat) (hk : k < 3) (s now : Int) (healthy : Bool) (hs0 : 0 ≤ s) (hsn : s ≤ now) (hn : now ≤ 1073741824) (A : Option Addr) (c : Nat) (w : World) (h : StgR w A g) :
    Calls Tryz.prog 7 #[.agg #[.int .i64 1, .string ⟨#[108, 105, 118, 101]⟩, .int .i64 1, .int .i64 2, .int .i64 (wtS g k), .slice A 3 c, .int .i64 (k : Int), .int .i64 s], .bool healthy, .int .i64 now] w (NxPost w g (nextR g k s healthy now)) := by
  have hb2 : Below w.heap.size w ((w.alloc (.cells #[.int .i64 1, .string ⟨#[108, 105, 118, 101]⟩, .int .i64 1, .int .i64 2, .int .i64 (wtS g k), .slice A 3 c, .int .i64 (k : Int), .int .i64 s] 32)).alloc (.cells #[.int .i64 0, .string ⟨#[]⟩, .int .i64 0, .int .i64 0, .int .i64 0, .slice none 0 0, .int .i64 0, .int .i64 0] 32)) := (al_new w _).alloc (by simp) _
  have b0 : Blk ((w.alloc (.cells #[.int .i64 1, .string ⟨#[108, 105, 118, 101]⟩, .int .i64 1, .int .i64 2, .int .i64 (wtS g k), .slice A 3 c, .int .i64 (k : Int), .int .i64 s] 32)).alloc (.cells #[.int .i64 0, .string ⟨#[]⟩, .int .i64 0, .int .i64 0, .int .i64 0, .slice none 0 0, .int .i64 0, .int .i64 0] 32)) w.heap.size 32 #[.int .i64 1, .string ⟨#[108, 105, 118, 101]⟩, .int .i64 1, .int .i64 2, .int .i64 (wtS g k), .slice A 3 c, .int .i64 (k : Int), .int .i64 s] := (Blk.new w _ _).alloc _
  have b1 : Blk ((w.alloc (.cells #[.int .i64 1, .string ⟨#[108, 105, 118, 101]⟩, .int .i64 1, .int .i64 2, .int .i64 (wtS g k), .slice A 3 c, .int .i64 (k : Int), .int .i64 s] 32)).alloc (.cells #[.int .i64 0, .string ⟨#[]⟩, .int .i64 0, .int .i64 0, .int .i64 0, .slice none 0 0, .int .i64 0, .int .i64 0] 32)) (w.heap.size + 1) 32 #[.int .i64 0, .string ⟨#[]⟩, .int .i64 0, .int .i64 0, .int .i64 0, .slice none 0 0, .int .i64 0, .int .i64 0] := Blk.new1 w _ _ _
  have HB2 := Lib.hid hb2
  have HS0 := Lib.hid h
  have HS2 := Lib.hid (h.on hb2)
  have HRU := Lib.hid (running_any g hg k hk s hs0 (by omega) A c ((w.alloc (.cells #[.int .i64 1, .string ⟨#[108, 105, 118, 101]⟩, .int .i64 1, .int .i64 2, .int .i64 (wtS g k), .slice A 3 c, .int .i64 (k : Int), .int .i64 s] 32)).alloc (.cells #[.int .i64 0, .string ⟨#[]⟩, .int .i64 0, .int .i64 0, .int .i64 0, .slice none 0 0, .int .i64 0, .int .i64 0] 32)) (h.on hb2))
  have HCL := Lib.hid (fun W => clock_any g k s now hs0 hsn hn A c W)
  have HBD := Lib.hid (And.intro hs0 (And.intro hsn (And.intro hn hk)))
  have hz2 : w.heap.size + 1 < ((w.alloc (.cells #[.int .i64 1, .string ⟨#[108, 105, 118, 101]⟩, .int .i64 1, .int .i64 2, .int .i64 (wtS g k), .slice A 3 c, .int .i64 (k : Int), .int .i64 s] 32)).alloc (.cells #[.int .i64 0, .string ⟨#[]⟩, .int .i64 0, .int .i64 0, .int .i64 0, .slice none 0 0, .int .i64 0, .int .i64 0] 32)).heap.size := b1.lt
  clear hb2 h hs0 hsn hn hk
  go_enter Tryz.func7, Tryz.ntmps7
  go_upto_region 1 with fail
  generalize ((w.alloc (.cells #[.int .i64 1, .string ⟨#[108, 105, 118, 101]⟩, .int .i64 1, .int .i64 2, .int .i64 (wtS g k), .slice A 3 c, .int .i64 (k : Int), .int .i64 s] 32)).alloc (.cells #[.int .i64 0, .string ⟨#[]⟩, .int .i64 0, .int .i64 0, .int .i64 0, .slice none 0 0, .int .i64 0, .int .i64 0] 32)) = w2 at *
  have d0 : w2.cell? ⟨w.heap.size, 0, none⟩ = some (.int .i64 1) := b0.cell 0
  have d1 : w2.cell? ⟨w.heap.size, 1, none⟩ = some (.string ⟨#[108, 105, 118, 101]⟩) := b0.cell 1
  have d2 : w2.cell? ⟨w.heap.size, 2, none⟩ = some (.int .i64 1) := b0.cell 2
  have d3 : w2.cell? ⟨w.heap.size, 3, none⟩ = some (.int .i64 2) := b0.cell 3
  have d4 : w2.cell? ⟨w.heap.size, 4, none⟩ = some (.int .i64 (wtS g k)) := b0.cell 4
  have d5 : w2.cell? ⟨w.heap.size, 5, none⟩ = some (.slice A 3 c) := b0.cell 5
  have d6 : w2.cell? ⟨w.heap.size, 6, none⟩ = some (.int .i64 (k : Int)) := b0.cell 6
  have d7 : w2.cell? ⟨w.heap.size, 7, none⟩ = some (.int .i64 s) := b0.cell 7
  go_wp2_with fail
  refine HRU.out.mono ?_
  rintro e w3 ⟨rfl, hb⟩
  have b03 := b0.on hb
  have b13 := b1.on hb
  have HB3 := Lib.hid (HB2.out.trans (hb.mono HB2.out.size))
  have HS3 := Lib.hid (HS2.out.on hb)
  have hz3 : w2.heap.size ≤ w3.heap.size := hb.size
  clear hb b0 b1 d0 d1 d2 d3 d4 d5 d6 d7
  have d0 : w3.cell? ⟨w.heap.size, 0, none⟩ = some (.int .i64 1) := b03.cell 0
  have d1 : w3.cell? ⟨w.heap.size, 1, none⟩ = some (.string ⟨#[108, 105, 118, 101]⟩) := b03.cell 1
  have d2 : w3.cell? ⟨w.heap.size, 2, none⟩ = some (.int .i64 1) := b03.cell 2
  have d3 : w3.cell? ⟨w.heap.size, 3, none⟩ = some (.int .i64 2) := b03.cell 3
  have d4 : w3.cell? ⟨w.heap.size, 4, none⟩ = some (.int .i64 (wtS g k)) := b03.cell 4
  have d5 : w3.cell? ⟨w.heap.size, 5, none⟩ = some (.slice A 3 c) := b03.cell 5
  have d6 : w3.cell? ⟨w.heap.size, 6, none⟩ = some (.int .i64 (k : Int)) := b03.cell 6
  have d7 : w3.cell? ⟨w.heap.size, 7, none⟩ = some (.int .i64 s) := b03.cell 7
  go_wp2_with fail
  refine (HCL.out _).mono ?_
  rintro e w4 ⟨rfl, hb⟩
  have b04 := b03.on hb
  have b14 := b13.on hb
  have HB4 := Lib.hid (HB3.out.trans (hb.mono HB3.out.size))
  have HS4 := Lib.hid (HS3.out.on hb)
  have hz4 : w3.heap.size ≤ w4.heap.size := hb.size
  clear hb b03 b13 d0 d1 d2 d3 d4 d5 d6 d7 HRU HCL HS2 HS3
  have d0 : w4.cell? ⟨w.heap.size, 0, none⟩ = some (.int .i64 1) := b04.cell 0
  have zd0 : w4.frozen? ⟨w.heap.size, 0, none⟩ = false := b04.frozen 0
  have d1 : w4.cell? ⟨w.heap.size, 1, none⟩ = some (.string ⟨#[108, 105, 118, 101]⟩) := b04.cell 1
  have zd1 : w4.frozen? ⟨w.heap.size, 1, none⟩ = false := b04.frozen 1
  have d2 : w4.cell? ⟨w.heap.size, 2, none⟩ = some (.int .i64 1) := b04.cell 2
  have zd2 : w4.frozen? ⟨w.heap.size, 2, none⟩ = false := b04.frozen 2
  have d3 : w4.cell? ⟨w.heap.size, 3, none⟩ = some (.int .i64 2) := b04.cell 3
  have zd3 : w4.frozen? ⟨w.heap.size, 3, none⟩ = false := b04.frozen 3
  have d4 : w4.cell? ⟨w.heap.size, 4, none⟩ = some (.int .i64 (wtS g k)) := b04.cell 4
  have zd4 : w4.frozen? ⟨w.heap.size, 4, none⟩ = false := b04.frozen 4
  have d5 : w4.cell? ⟨w.heap.size, 5, none⟩ = some (.slice A 3 c) := b04.cell 5
  have zd5 : w4.frozen? ⟨w.heap.size, 5, none⟩ = false := b04.frozen 5
  have d6 : w4.cell? ⟨w.heap.size, 6, none⟩ = some (.int .i64 (k : Int)) := b04.cell 6
  have zd6 : w4.frozen? ⟨w.heap.size, 6, none⟩ = false := b04.frozen 6
  have d7 : w4.cell? ⟨w.heap.size, 7, none⟩ = some (.int .i64 s) := b04.cell 7
  have zd7 : w4.frozen? ⟨w.heap.size, 7, none⟩ = false := b04.frozen 7
  cases healthy with
  | false =>
    go_upto_region 8 with fail
    have HB0 := Lib.hid b04
    have HB1 := Lib.hid b14
    clear b04 b14 zd0 zd1 zd2 zd3 zd4 zd5 zd6 zd7
    go_region_law (first
      | (go_simp; go_at_call 21; ((with_reducible refine (back_any w4.drew).mono ?_); rintro e wa ⟨rfl, hba⟩; have HBA := Lib.hid (show Below w4.heap.size w4 wa from (below_drew' w4).trans hba); have b0A := HB0.out.on HBA.out; have k0 : wa.cell? ⟨w.heap.size, 0, none⟩ = some (.int .i64 1) := b0A.cell 0; have k1 : wa.cell? ⟨w.heap.size, 1, none⟩ = some (.string ⟨#[108, 105, 118, 101]⟩) := b0A.cell 1; have k2 : wa.cell? ⟨w.heap.size, 2, none⟩ = some (.int .i64 1) := b0A.cell 2; have k3 : wa.cell? ⟨w.heap.size, 3, none⟩ = some (.int .i64 2) := b0A.cell 3; have k4 : wa.cell? ⟨w.heap.size, 4, none⟩ = some (.int .i64 (wtS g k)) := b0A.cell 4; have k5 : wa.cell? ⟨w.heap.size, 5, none⟩ = some (.slice A 3 c) := b0A.cell 5; have k6 : wa.cell? ⟨w.heap.size, 6, none⟩ = some (.int .i64 (k : Int)) := b0A.cell 6; have k7 : wa.cell? ⟨w.heap.size, 7, none⟩ = some (.int .i64 s) := b0A.cell 7; clear hba b0A))
      | (go_simp; go_at_call 22; ((with_reducible refine (end_back g hg k s now A c wa (HS4.out.on HBA.out)).mono ?_); rintro e wb ⟨A2, c2, rfl, hs, hbb⟩; have HBB := Lib.hid (HBA.out.trans (hbb.mono HBA.out.size)); have b1B := HB1.out.on HBB.out; have HSB := Lib.hid hs; have q0 : wb.cell? ⟨w.heap.size + 1, 0, none⟩ = some (.int .i64 0) := b1B.cell 0; have f0 : wb.frozen? ⟨w.heap.size + 1, 0, none⟩ = false := b1B.frozen 0; have q1 : wb.cell? ⟨w.heap.size + 1, 1, none⟩ = some (.string ⟨#[]⟩) := b1B.cell 1; have f1 : wb.frozen? ⟨w.heap.size + 1, 1, none⟩ = false := b1B.frozen 1; have q2 : wb.cell? ⟨w.heap.size + 1, 2, none⟩ = some (.int .i64 0) := b1B.cell 2; have f2 : wb.frozen? ⟨w.heap.size + 1, 2, none⟩ = false := b1B.frozen 2; have q3 : wb.cell? ⟨w.heap.size + 1, 3, none⟩ = some (.int .i64 0) := b1B.cell 3; have f3 : wb.frozen? ⟨w.heap.size + 1, 3, none⟩ = false := b1B.frozen 3; have q4 : wb.cell? ⟨w.heap.size + 1, 4, none⟩ = some (.int .i64 0) := b1B.cell 4; have f4 : wb.frozen? ⟨w.heap.size + 1, 4, none⟩ = false := b1B.frozen 4; have q5 : wb.cell? ⟨w.heap.size + 1, 5, none⟩ = some (.slice none 0 0) := b1B.cell 5; have f5 : wb.frozen? ⟨w.heap.size + 1, 5, none⟩ = false := b1B.frozen 5; have q6 : wb.cell? ⟨w.heap.size + 1, 6, none⟩ = some (.int .i64 0) := b1B.cell 6; have f6 : wb.frozen? ⟨w.heap.size + 1, 6, none⟩ = false := b1B.frozen 6; have q7 : wb.cell? ⟨w.heap.size + 1, 7, none⟩ = some (.int .i64 0) := b1B.cell 7; have f7 : wb.frozen? ⟨w.heap.size + 1, 7, none⟩ = false := b1B.frozen 7; clear hs hbb b1B)))
    all_goals
      have HR := Lib.hid (show nextR g k s false now = ⟨3, ⟨1, 0, 0⟩, k, now⟩ by unfold nextR; rw [if_pos rfl])
      have HBF := Lib.hid (HB4.out.trans (HBB.out.mono HB4.out.size))
      have hza : w4.heap.size ≤ wa.heap.size := HBA.out.size
      go_wp2_with fail
      refine bodyPost_ret (v := .tuple #[.agg #[.int .i64 3, .string ⟨#[108, 105, 118, 101]⟩, .int .i64 1, .int .i64 0, .int .i64 0, .slice A2 3 c2, .int .i64 (k : Int), .int .i64 now], .int .i64 0]) (by simp [results, Tryz.results7, go_sem, q0, q1, q2, q3, q4, q5, q6, q7]) rfl ?_
      rw [HR.out]
      exact ⟨A2, c2, rfl, (own8 HSB.out (by omega) _ _ _ _ _ _ _ _).base (show w.heap.size ≤ wa.heap.size by omega), below_set8 HBF.out (by omega) _ _ _ _ _ _ _ _⟩
  | true =>
    obtain ⟨hs0, hsn, hn, hk⟩ := HBD.out
    have hbA : ∀ b o, A = some ⟨b, o, none⟩ → b < w.heap.size := fun b o e => by
      obtain ⟨b', o', e', hb', -⟩ := HS0.out.at_
      rw [e] at e'
      injection e' with e'
      injection e' with e1 _
      rw [e1]; exact hb'
    obtain ⟨b, o, rfl, hbl, hst⟩ := HS4.out.at_
    have hbw := hbA b o rfl
    obtain ⟨s0, s1⟩ := hst k hk
    have hkI : (k : Int) < 3 := by omega
    have hk0 : (0 : Int) ≤ k := by omega
    have hws := w64 (x := now - s) (by omega) (by omega)
    obtain ⟨ws1, ws2⟩ := hws
    have HST := Lib.hid (show ∀ j, j < 3 → (w4.drewN 1).cell? ⟨b, o + j * 2, none⟩ = some (.int .i64 (wtS g j)) ∧ (w4.drewN 1).cell? ⟨b, o + j * 2 + 1, none⟩ = some (.int .i64 (bkS g j)) from hst)
    clear hst hbA hs0 hsn hn
    by_cases hlt : now - s < bkS g k
    · have d1' : decide (now - s < bkS g k) = true := decide_eq_true hlt
      go_wp2_with fail
      go_quiet (fail)
      have hb5 := below_drewN' w4.heap.size w4 nq
      have b05 := b04.on hb5
      have b15 := b14.on hb5
      have HB5 := Lib.hid (HB4.out.trans (hb5.mono HB4.out.size))
      have HS5 := Lib.hid (HS4.out.on hb5)
      have HST := Lib.hid (show ∀ j, j < 3 → (w4.drewN nq).cell? ⟨b, o + j * 2, none⟩ = some (.int .i64 (wtS g j)) ∧ (w4.drewN nq).cell? ⟨b, o + j * 2 + 1, none⟩ = some (.int .i64 (bkS g j)) from HST.out)
      have hz5 : w4.heap.size ≤ (w4.drewN nq).heap.size := hb5.size
      clear hb5 b04 b14 d0 d1 d2 d3 d4 d5 d6 d7 zd0 zd1 zd2 zd3 zd4 zd5 zd6 zd7 s0 s1 ws1 ws2 d1'
      generalize w4.drewN nq = w5 at *
      have d0 : w5.cell? ⟨w.heap.size, 0, none⟩ = some (.int .i64 1) := b05.cell 0
      have zd0 : w5.frozen? ⟨w.heap.size, 0, none⟩ = false := b05.frozen 0
      have d1 : w5.cell? ⟨w.heap.size, 1, none⟩ = some (.string ⟨#[108, 105, 118, 101]⟩) := b05.cell 1
      have zd1 : w5.frozen? ⟨w.heap.size, 1, none⟩ = false := b05.frozen 1
      have d2 : w5.cell? ⟨w.heap.size, 2, none⟩ = some (.int .i64 1) := b05.cell 2
      have zd2 : w5.frozen? ⟨w.heap.size, 2, none⟩ = false := b05.frozen 2
      have d3 : w5.cell? ⟨w.heap.size, 3, none⟩ = some (.int .i64 2) := b05.cell 3
      have zd3 : w5.frozen? ⟨w.heap.size, 3, none⟩ = false := b05.frozen 3
      have d4 : w5.cell? ⟨w.heap.size, 4, none⟩ = some (.int .i64 (wtS g k)) := b05.cell 4
      have zd4 : w5.frozen? ⟨w.heap.size, 4, none⟩ = false := b05.frozen 4
      have d5 : w5.cell? ⟨w.heap.size, 5, none⟩ = some (.slice (some ⟨b, o, none⟩) 3 c) := b05.cell 5
      have zd5 : w5.frozen? ⟨w.heap.size, 5, none⟩ = false := b05.frozen 5
      have d6 : w5.cell? ⟨w.heap.size, 6, none⟩ = some (.int .i64 (k : Int)) := b05.cell 6
      have zd6 : w5.frozen? ⟨w.heap.size, 6, none⟩ = false := b05.frozen 6
      have d7 : w5.cell? ⟨w.heap.size, 7, none⟩ = some (.int .i64 s) := b05.cell 7
      have zd7 : w5.frozen? ⟨w.heap.size, 7, none⟩ = false := b05.frozen 7

      have HR := Lib.hid (show nextR g k s true now = ⟨1, ⟨1, 2, wtS g k⟩, k, s⟩ by unfold nextR; rw [if_neg (by decide), if_pos hlt])
      have HOW := Lib.hid (show ∀ W, StgR W (some ⟨b, o, none⟩) g → Calls Tryz.prog 11 #[.agg #[.int .i64 1, .string ⟨#[108, 105, 118, 101]⟩, .int .i64 1, .int .i64 2, .int .i64 (wtS g k), .slice (some ⟨b, o, none⟩) 3 c, .int .i64 (k : Int), .int .i64 s]] W (RoPost W ⟨1, ⟨1, 2, wtS g k⟩, k, s⟩ g) from fun W h => own_any ⟨1, ⟨1, 2, wtS g k⟩, k, s⟩ g (some ⟨b, o, none⟩) c W h)
      clear hlt
      go_wp2_with fail
      refine (HOW.out _ HS5.out).mono ?_
      rintro e wb ⟨A2, c2, rfl, hs, hbb⟩
      have b1B := b15.on hbb
      have HSB := Lib.hid hs
      have HBF := Lib.hid (HB5.out.trans (hbb.mono HB5.out.size))
      have q0 : wb.cell? ⟨w.heap.size + 1, 0, none⟩ = some (.int .i64 0) := b1B.cell 0
      have f0 : wb.frozen? ⟨w.heap.size + 1, 0, none⟩ = false := b1B.frozen 0
      have q1 : wb.cell? ⟨w.heap.size + 1, 1, none⟩ = some (.string ⟨#[]⟩) := b1B.cell 1
      have f1 : wb.frozen? ⟨w.heap.size + 1, 1, none⟩ = false := b1B.frozen 1
      have q2 : wb.cell? ⟨w.heap.size + 1, 2, none⟩ = some (.int .i64 0) := b1B.cell 2
      have f2 : wb.frozen? ⟨w.heap.size + 1, 2, none⟩ = false := b1B.frozen 2
      have q3 : wb.cell? ⟨w.heap.size + 1, 3, none⟩ = some (.int .i64 0) := b1B.cell 3
      have f3 : wb.frozen? ⟨w.heap.size + 1, 3, none⟩ = false := b1B.frozen 3
      have q4 : wb.cell? ⟨w.heap.size + 1, 4, none⟩ = some (.int .i64 0) := b1B.cell 4
      have f4 : wb.frozen? ⟨w.heap.size + 1, 4, none⟩ = false := b1B.frozen 4
      have q5 : wb.cell? ⟨w.heap.size + 1, 5, none⟩ = some (.slice none 0 0) := b1B.cell 5
      have f5 : wb.frozen? ⟨w.heap.size + 1, 5, none⟩ = false := b1B.frozen 5
      have q6 : wb.cell? ⟨w.heap.size + 1, 6, none⟩ = some (.int .i64 0) := b1B.cell 6
      have f6 : wb.frozen? ⟨w.heap.size + 1, 6, none⟩ = false := b1B.frozen 6
      have q7 : wb.cell? ⟨w.heap.size + 1, 7, none⟩ = some (.int .i64 0) := b1B.cell 7
      have f7 : wb.frozen? ⟨w.heap.size + 1, 7, none⟩ = false := b1B.frozen 7
      clear hs hbb b1B
      go_wp2_with fail
      refine bodyPost_ret (v := .tuple #[.agg #[.int .i64 1, .string ⟨#[108, 105, 118, 101]⟩, .int .i64 1, .int .i64 2, .int .i64 (wtS g k), .slice A2 3 c2, .int .i64 (k : Int), .int .i64 s], .int .i64 0]) (by simp [results, Tryz.results7, go_sem, q0, q1, q2, q3, q4, q5, q6, q7]) rfl ?_
      rw [HR.out]
      exact ⟨A2, c2, rfl, (own8 HSB.out (by omega) _ _ _ _ _ _ _ _).base (show w.heap.size ≤ w5.heap.size by omega), below_set8 HBF.out (by omega) _ _ _ _ _ _ _ _⟩
    · have d1' : decide (now - s < bkS g k) = false := decide_eq_false hlt
      by_cases hk2 : k = 2
      · have ek : ((k : Int) == 2) = true := by rw [hk2]; rfl
        have HRR := Lib.hid (show nextR g k s true now = ⟨2, ⟨2, 0, 0⟩, k, now⟩ by unfold nextR; rw [if_neg (by decide), if_neg hlt, if_pos hk2])
        clear hk2 hlt
        go_wp2_with fail
        go_quiet (fail)
        have hb5 := below_drewN' w4.heap.size w4 nq
        have b05 := b04.on hb5
        have b15 := b14.on hb5
        have HB5 := Lib.hid (HB4.out.trans (hb5.mono HB4.out.size))
        have HS5 := Lib.hid (HS4.out.on hb5)
        have HST := Lib.hid (show ∀ j, j < 3 → (w4.drewN nq).cell? ⟨b, o + j * 2, none⟩ = some (.int .i64 (wtS g j)) ∧ (w4.drewN nq).cell? ⟨b, o + j * 2 + 1, none⟩ = some (.int .i64 (bkS g j)) from HST.out)
        have hz5 : w4.heap.size ≤ (w4.drewN nq).heap.size := hb5.size
        clear hb5 b04 b14 d0 d1 d2 d3 d4 d5 d6 d7 zd0 zd1 zd2 zd3 zd4 zd5 zd6 zd7 s0 s1 ws1 ws2 d1'
        generalize w4.drewN nq = w5 at *
        have d0 : w5.cell? ⟨w.heap.size, 0, none⟩ = some (.int .i64 1) := b05.cell 0
        have zd0 : w5.frozen? ⟨w.heap.size, 0, none⟩ = false := b05.frozen 0
        have d1 : w5.cell? ⟨w.heap.size, 1, none⟩ = some (.string ⟨#[108, 105, 118, 101]⟩) := b05.cell 1
        have zd1 : w5.frozen? ⟨w.heap.size, 1, none⟩ = false := b05.frozen 1
        have d2 : w5.cell? ⟨w.heap.size, 2, none⟩ = some (.int .i64 1) := b05.cell 2
        have zd2 : w5.frozen? ⟨w.heap.size, 2, none⟩ = false := b05.frozen 2
        have d3 : w5.cell? ⟨w.heap.size, 3, none⟩ = some (.int .i64 2) := b05.cell 3
        have zd3 : w5.frozen? ⟨w.heap.size, 3, none⟩ = false := b05.frozen 3
        have d4 : w5.cell? ⟨w.heap.size, 4, none⟩ = some (.int .i64 (wtS g k)) := b05.cell 4
        have zd4 : w5.frozen? ⟨w.heap.size, 4, none⟩ = false := b05.frozen 4
        have d5 : w5.cell? ⟨w.heap.size, 5, none⟩ = some (.slice (some ⟨b, o, none⟩) 3 c) := b05.cell 5
        have zd5 : w5.frozen? ⟨w.heap.size, 5, none⟩ = false := b05.frozen 5
        have d6 : w5.cell? ⟨w.heap.size, 6, none⟩ = some (.int .i64 (k : Int)) := b05.cell 6
        have zd6 : w5.frozen? ⟨w.heap.size, 6, none⟩ = false := b05.frozen 6
        have d7 : w5.cell? ⟨w.heap.size, 7, none⟩ = some (.int .i64 s) := b05.cell 7
        have zd7 : w5.frozen? ⟨w.heap.size, 7, none⟩ = false := b05.frozen 7

        go_upto_region 12 with fail
        have HB0 := Lib.hid b05
        have HB1 := Lib.hid b15
        clear b05 b15 zd0 zd1 zd2 zd3 zd4 zd5 zd6 zd7
        go_region_law (first
          | (go_simp; go_at_call 23; ((with_reducible refine (done_any w5.drew).mono ?_); rintro e wa ⟨rfl, hba⟩; have HBA := Lib.hid (show Below w5.heap.size w5 wa from (below_drew' w5).trans hba); have b0A := HB0.out.on HBA.out; have k0 : wa.cell? ⟨w.heap.size, 0, none⟩ = some (.int .i64 1) := b0A.cell 0; have k1 : wa.cell? ⟨w.heap.size, 1, none⟩ = some (.string ⟨#[108, 105, 118, 101]⟩) := b0A.cell 1; have k2 : wa.cell? ⟨w.heap.size, 2, none⟩ = some (.int .i64 1) := b0A.cell 2; have k3 : wa.cell? ⟨w.heap.size, 3, none⟩ = some (.int .i64 2) := b0A.cell 3; have k4 : wa.cell? ⟨w.heap.size, 4, none⟩ = some (.int .i64 (wtS g k)) := b0A.cell 4; have k5 : wa.cell? ⟨w.heap.size, 5, none⟩ = some (.slice (some ⟨b, o, none⟩) 3 c) := b0A.cell 5; have k6 : wa.cell? ⟨w.heap.size, 6, none⟩ = some (.int .i64 (k : Int)) := b0A.cell 6; have k7 : wa.cell? ⟨w.heap.size, 7, none⟩ = some (.int .i64 s) := b0A.cell 7; clear hba b0A))
          | (go_simp; go_at_call 22; ((with_reducible refine (end_done g hg k s now (some ⟨b, o, none⟩) c wa (HS5.out.on HBA.out)).mono ?_); rintro e wb ⟨A2, c2, rfl, hs, hbb⟩; have HBB := Lib.hid (HBA.out.trans (hbb.mono HBA.out.size)); have b1B := HB1.out.on HBB.out; have HSB := Lib.hid hs; have q0 : wb.cell? ⟨w.heap.size + 1, 0, none⟩ = some (.int .i64 0) := b1B.cell 0; have f0 : wb.frozen? ⟨w.heap.size + 1, 0, none⟩ = false := b1B.frozen 0; have q1 : wb.cell? ⟨w.heap.size + 1, 1, none⟩ = some (.string ⟨#[]⟩) := b1B.cell 1; have f1 : wb.frozen? ⟨w.heap.size + 1, 1, none⟩ = false := b1B.frozen 1; have q2 : wb.cell? ⟨w.heap.size + 1, 2, none⟩ = some (.int .i64 0) := b1B.cell 2; have f2 : wb.frozen? ⟨w.heap.size + 1, 2, none⟩ = false := b1B.frozen 2; have q3 : wb.cell? ⟨w.heap.size + 1, 3, none⟩ = some (.int .i64 0) := b1B.cell 3; have f3 : wb.frozen? ⟨w.heap.size + 1, 3, none⟩ = false := b1B.frozen 3; have q4 : wb.cell? ⟨w.heap.size + 1, 4, none⟩ = some (.int .i64 0) := b1B.cell 4; have f4 : wb.frozen? ⟨w.heap.size + 1, 4, none⟩ = false := b1B.frozen 4; have q5 : wb.cell? ⟨w.heap.size + 1, 5, none⟩ = some (.slice none 0 0) := b1B.cell 5; have f5 : wb.frozen? ⟨w.heap.size + 1, 5, none⟩ = false := b1B.frozen 5; have q6 : wb.cell? ⟨w.heap.size + 1, 6, none⟩ = some (.int .i64 0) := b1B.cell 6; have f6 : wb.frozen? ⟨w.heap.size + 1, 6, none⟩ = false := b1B.frozen 6; have q7 : wb.cell? ⟨w.heap.size + 1, 7, none⟩ = some (.int .i64 0) := b1B.cell 7; have f7 : wb.frozen? ⟨w.heap.size + 1, 7, none⟩ = false := b1B.frozen 7; clear hs hbb b1B)))
        all_goals
          have HR := HRR
          have HBF := Lib.hid (HB5.out.trans (HBB.out.mono HB5.out.size))
          have hza : w5.heap.size ≤ wa.heap.size := HBA.out.size
          go_wp2_with fail
          refine bodyPost_ret (v := .tuple #[.agg #[.int .i64 2, .string ⟨#[108, 105, 118, 101]⟩, .int .i64 2, .int .i64 0, .int .i64 0, .slice A2 3 c2, .int .i64 (k : Int), .int .i64 now], .int .i64 0]) (by simp [results, Tryz.results7, go_sem, q0, q1, q2, q3, q4, q5, q6, q7]) rfl ?_
          rw [HR.out]
          exact ⟨A2, c2, rfl, (own8 HSB.out (by omega) _ _ _ _ _ _ _ _).base (show w.heap.size ≤ wa.heap.size by omega), below_set8 HBF.out (by omega) _ _ _ _ _ _ _ _⟩
      · have ek : ((k : Int) == 2) = false := by rw [beq_eq_false_iff_ne]; omega
        have HRR := Lib.hid (show nextR g k s true now = ⟨1, ⟨1, 2, wtS g (k + 1)⟩, (k + 1 : Nat), now⟩ by unfold nextR; rw [if_neg (by decide), if_neg hlt, if_neg hk2])
        have HK2 := Lib.hid hk2
        clear hk2 hlt
        go_wp2_with fail
        go_quiet (fail)
        have hb5 := below_drewN' w4.heap.size w4 nq
        have b05 := b04.on hb5
        have b15 := b14.on hb5
        have HB5 := Lib.hid (HB4.out.trans (hb5.mono HB4.out.size))
        have HS5 := Lib.hid (HS4.out.on hb5)
        have HST := Lib.hid (show ∀ j, j < 3 → (w4.drewN nq).cell? ⟨b, o + j * 2, none⟩ = some (.int .i64 (wtS g j)) ∧ (w4.drewN nq).cell? ⟨b, o + j * 2 + 1, none⟩ = some (.int .i64 (bkS g j)) from HST.out)
        have hz5 : w4.heap.size ≤ (w4.drewN nq).heap.size := hb5.size
        clear hb5 b04 b14 d0 d1 d2 d3 d4 d5 d6 d7 zd0 zd1 zd2 zd3 zd4 zd5 zd6 zd7 s0 s1 ws1 ws2 d1'
        generalize w4.drewN nq = w5 at *
        have d0 : w5.cell? ⟨w.heap.size, 0, none⟩ = some (.int .i64 1) := b05.cell 0
        have zd0 : w5.frozen? ⟨w.heap.size, 0, none⟩ = false := b05.frozen 0
        have d1 : w5.cell? ⟨w.heap.size, 1, none⟩ = some (.string ⟨#[108, 105, 118, 101]⟩) := b05.cell 1
        have zd1 : w5.frozen? ⟨w.heap.size, 1, none⟩ = false := b05.frozen 1
        have d2 : w5.cell? ⟨w.heap.size, 2, none⟩ = some (.int .i64 1) := b05.cell 2
        have zd2 : w5.frozen? ⟨w.heap.size, 2, none⟩ = false := b05.frozen 2
        have d3 : w5.cell? ⟨w.heap.size, 3, none⟩ = some (.int .i64 2) := b05.cell 3
        have zd3 : w5.frozen? ⟨w.heap.size, 3, none⟩ = false := b05.frozen 3
        have d4 : w5.cell? ⟨w.heap.size, 4, none⟩ = some (.int .i64 (wtS g k)) := b05.cell 4
        have zd4 : w5.frozen? ⟨w.heap.size, 4, none⟩ = false := b05.frozen 4
        have d5 : w5.cell? ⟨w.heap.size, 5, none⟩ = some (.slice (some ⟨b, o, none⟩) 3 c) := b05.cell 5
        have zd5 : w5.frozen? ⟨w.heap.size, 5, none⟩ = false := b05.frozen 5
        have d6 : w5.cell? ⟨w.heap.size, 6, none⟩ = some (.int .i64 (k : Int)) := b05.cell 6
        have zd6 : w5.frozen? ⟨w.heap.size, 6, none⟩ = false := b05.frozen 6
        have d7 : w5.cell? ⟨w.heap.size, 7, none⟩ = some (.int .i64 s) := b05.cell 7
        have zd7 : w5.frozen? ⟨w.heap.size, 7, none⟩ = false := b05.frozen 7

        have HR := HRR
        have hk2 := HK2.out
        obtain ⟨m, hm⟩ : ∃ m : Nat, m = k + 1 := ⟨_, rfl⟩
        rw [← hm] at HR
        have hm3 : m < 3 := by omega
        have hmI : (m : Int) < 3 := by omega
        have hm0 : (0 : Int) ≤ m := by omega
        have hkm := w64 (x := (k : Int) + 1) (by omega) (by omega)
        have wk1 : IntKind.i64.wrap ((k : Int) + 1) = (m : Int) := by rw [hkm.1, hm]; rfl
        have wk2 : wrap64 ((k : Int) + 1) = (m : Int) := by rw [hkm.2, hm]; rfl
        obtain ⟨m0, m1⟩ := HST.out m hm3
        have hneb : b ≠ w.heap.size := by omega
        clear hm hm3 hkm hk2
        go_upto_region 15 with fail
        have bs0 : Blk (w5.setCell ⟨w.heap.size, 6, none⟩ (.int .i64 (m : Int))) w.heap.size 32 #[.int .i64 1, .string ⟨#[108, 105, 118, 101]⟩, .int .i64 1, .int .i64 2, .int .i64 (wtS g k), .slice (some ⟨b, o, none⟩) 3 c, .int .i64 (m : Int), .int .i64 s] := b05.set_ 6 (.int .i64 (m : Int))
        have bs1 : Blk ((w5.setCell ⟨w.heap.size, 6, none⟩ (.int .i64 (m : Int))).setCell ⟨w.heap.size, 4, none⟩ (.int .i64 (wtS g m))) w.heap.size 32 #[.int .i64 1, .string ⟨#[108, 105, 118, 101]⟩, .int .i64 1, .int .i64 2, .int .i64 (wtS g m), .slice (some ⟨b, o, none⟩) 3 c, .int .i64 (m : Int), .int .i64 s] := bs0.set_ 4 (.int .i64 (wtS g m))
        have bs2 : Blk (((w5.setCell ⟨w.heap.size, 6, none⟩ (.int .i64 (m : Int))).setCell ⟨w.heap.size, 4, none⟩ (.int .i64 (wtS g m))).setCell ⟨w.heap.size, 7, none⟩ (.int .i64 now)) w.heap.size 32 #[.int .i64 1, .string ⟨#[108, 105, 118, 101]⟩, .int .i64 1, .int .i64 2, .int .i64 (wtS g m), .slice (some ⟨b, o, none⟩) 3 c, .int .i64 (m : Int), .int .i64 now] := bs1.set_ 7 (.int .i64 now)

        have hc6 : Chg (fun j => j = w.heap.size) w5 (((w5.setCell ⟨w.heap.size, 6, none⟩ (.int .i64 (m : Int))).setCell ⟨w.heap.size, 4, none⟩ (.int .i64 (wtS g m))).setCell ⟨w.heap.size, 7, none⟩ (.int .i64 now)) := (((Chg.refl (fun j => j = w.heap.size) w5).setCell (p := ⟨w.heap.size, 6, none⟩) (fun _ => rfl) _).setCell (p := ⟨w.heap.size, 4, none⟩) (fun _ => rfl) _).setCell (p := ⟨w.heap.size, 7, none⟩) (fun _ => rfl) _
        have b16 := hc6.blk b15 (by omega)
        have HB6 := Lib.hid (HB5.out.trans (hc6.toBelow (B := w.heap.size) (fun j hj => by omega) HB5.out.size))
        have HS6 := Lib.hid (HS0.out.on HB6.out)
        have hz6 : w5.heap.size ≤ (((w5.setCell ⟨w.heap.size, 6, none⟩ (.int .i64 (m : Int))).setCell ⟨w.heap.size, 4, none⟩ (.int .i64 (wtS g m))).setCell ⟨w.heap.size, 7, none⟩ (.int .i64 now)).heap.size := hc6.size
        clear hc6 b05 b15 bs0 bs1 d0 d1 d2 d3 d4 d5 d6 d7 zd0 zd1 zd2 zd3 zd4 zd5 zd6 zd7 wk1 wk2 m0 m1
        generalize (((w5.setCell ⟨w.heap.size, 6, none⟩ (.int .i64 (m : Int))).setCell ⟨w.heap.size, 4, none⟩ (.int .i64 (wtS g m))).setCell ⟨w.heap.size, 7, none⟩ (.int .i64 now)) = w6 at *
        have d0 : w6.cell? ⟨w.heap.size, 0, none⟩ = some (.int .i64 1) := bs2.cell 0
        have d1 : w6.cell? ⟨w.heap.size, 1, none⟩ = some (.string ⟨#[108, 105, 118, 101]⟩) := bs2.cell 1
        have d2 : w6.cell? ⟨w.heap.size, 2, none⟩ = some (.int .i64 1) := bs2.cell 2
        have d3 : w6.cell? ⟨w.heap.size, 3, none⟩ = some (.int .i64 2) := bs2.cell 3
        have d4 : w6.cell? ⟨w.heap.size, 4, none⟩ = some (.int .i64 (wtS g m)) := bs2.cell 4
        have d5 : w6.cell? ⟨w.heap.size, 5, none⟩ = some (.slice (some ⟨b, o, none⟩) 3 c) := bs2.cell 5
        have d6 : w6.cell? ⟨w.heap.size, 6, none⟩ = some (.int .i64 (m : Int)) := bs2.cell 6
        have d7 : w6.cell? ⟨w.heap.size, 7, none⟩ = some (.int .i64 now) := bs2.cell 7
        have HOW := Lib.hid (show ∀ W, StgR W (some ⟨b, o, none⟩) g → Calls Tryz.prog 11 #[.agg #[.int .i64 1, .string ⟨#[108, 105, 118, 101]⟩, .int .i64 1, .int .i64 2, .int .i64 (wtS g m), .slice (some ⟨b, o, none⟩) 3 c, .int .i64 (m : Int), .int .i64 now]] W (RoPost W ⟨1, ⟨1, 2, wtS g m⟩, m, now⟩ g) from fun W h => own_any ⟨1, ⟨1, 2, wtS g m⟩, m, now⟩ g (some ⟨b, o, none⟩) c W h)
        clear bs2
        go_wp2_with fail
        refine (HOW.out _ HS6.out).mono ?_
        rintro e wb ⟨A2, c2, rfl, hs, hbb⟩
        have b1B := b16.on hbb
        have HSB := Lib.hid hs
        have HBF := Lib.hid (HB6.out.trans (hbb.mono HB6.out.size))
        have q0 : wb.cell? ⟨w.heap.size + 1, 0, none⟩ = some (.int .i64 0) := b1B.cell 0
        have f0 : wb.frozen? ⟨w.heap.size + 1, 0, none⟩ = false := b1B.frozen 0
        have q1 : wb.cell? ⟨w.heap.size + 1, 1, none⟩ = some (.string ⟨#[]⟩) := b1B.cell 1
        have f1 : wb.frozen? ⟨w.heap.size + 1, 1, none⟩ = false := b1B.frozen 1
        have q2 : wb.cell? ⟨w.heap.size + 1, 2, none⟩ = some (.int .i64 0) := b1B.cell 2
        have f2 : wb.frozen? ⟨w.heap.size + 1, 2, none⟩ = false := b1B.frozen 2
        have q3 : wb.cell? ⟨w.heap.size + 1, 3, none⟩ = some (.int .i64 0) := b1B.cell 3
        have f3 : wb.frozen? ⟨w.heap.size + 1, 3, none⟩ = false := b1B.frozen 3
        have q4 : wb.cell? ⟨w.heap.size + 1, 4, none⟩ = some (.int .i64 0) := b1B.cell 4
        have f4 : wb.frozen? ⟨w.heap.size + 1, 4, none⟩ = false := b1B.frozen 4
        have q5 : wb.cell? ⟨w.heap.size + 1, 5, none⟩ = some (.slice none 0 0) := b1B.cell 5
        have f5 : wb.frozen? ⟨w.heap.size + 1, 5, none⟩ = false := b1B.frozen 5
        have q6 : wb.cell? ⟨w.heap.size + 1, 6, none⟩ = some (.int .i64 0) := b1B.cell 6
        have f6 : wb.frozen? ⟨w.heap.size + 1, 6, none⟩ = false := b1B.frozen 6
        have q7 : wb.cell? ⟨w.heap.size + 1, 7, none⟩ = some (.int .i64 0) := b1B.cell 7
        have f7 : wb.frozen? ⟨w.heap.size + 1, 7, none⟩ = false := b1B.frozen 7
        clear hs hbb b1B
        go_wp2_with fail
        refine bodyPost_ret (v := .tuple #[.agg #[.int .i64 1, .string ⟨#[108, 105, 118, 101]⟩, .int .i64 1, .int .i64 2, .int .i64 (wtS g m), .slice A2 3 c2, .int .i64 (m : Int), .int .i64 now], .int .i64 0]) (by simp [results, Tryz.results7, go_sem, q0, q1, q2, q3, q4, q5, q6, q7]) rfl ?_
        rw [HR.out]
        exact ⟨A2, c2, rfl, (own8 HSB.out (by omega) _ _ _ _ _ _ _ _).base (show w.heap.size ≤ w6.heap.size by omega), below_set8 HBF.out (by omega) _ _ _ _ _ _ _ _⟩
end Go.Proofs.YtfhcngnmgfkdkaaGreatDoor
