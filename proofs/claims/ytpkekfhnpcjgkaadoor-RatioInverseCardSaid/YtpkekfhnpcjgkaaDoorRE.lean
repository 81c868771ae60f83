/- The walks of four laws on fractions. -/
import Derived.Test.YtpkekfhnpcjgkaaDoorRD
import Derived.Test.YtpkekfhnpcjgkaaDoorU2
namespace Go.Proofs.YtpkekfhnpcjgkaaDoor
open Go.RowKit
open Rt
open Go.Sort (grow)

theorem qawake_at (W : World) (d : Nat) (os : Array Obj) (hX : LaidW W) :
    Calls Tryd.prog 19 #[] (grow (redrawn W d) os) fun e w' => e = .returned (.bool true) ∧ ∃ p : Regrown, w' = grow (redrawn W p.d) p.os :=
  Calls.regrown_of (qawake_any _ (hX.below (below_regrown W d os)))
theorem qValid_at (p q : Int) (W : World) (d : Nat) (os : Array Obj) :
    Calls Tryd.prog 17 #[.agg #[.int .i64 p, .int .i64 q]] (grow (redrawn W d) os) fun e w' => e = .returned (.bool (vR p q)) ∧ ∃ p : Regrown, w' = grow (redrawn W p.d) p.os :=
  Calls.regrown_of (qValid_any p q _)
theorem qrValid_at (p q : Int) (W : World) (d : Nat) (os : Array Obj) :
    Calls Tryd.prog 18 #[.agg #[.int .i64 p, .int .i64 q]] (grow (redrawn W d) os) fun e w' => e = .returned (.bool (vR p q)) ∧ ∃ p : Regrown, w' = grow (redrawn W p.d) p.os :=
  Calls.regrown_of (qrValid_any p q _)
theorem qCmp_at (a1 a2 b1 b2 : Int) (W : World) (d : Nat) (os : Array Obj) :
    Calls Tryd.prog 22 #[.agg #[.int .i64 a1, .int .i64 a2], .agg #[.int .i64 b1, .int .i64 b2]] (grow (redrawn W d) os) fun e w' => e = .returned (.int .i64 (cmR a1 a2 b1 b2)) ∧ ∃ p : Regrown, w' = grow (redrawn W p.d) p.os :=
  Calls.regrown_of (qCmp_any a1 a2 b1 b2 _)
theorem qrCmp_at (a1 a2 b1 b2 : Int) (W : World) (d : Nat) (os : Array Obj) :
    Calls Tryd.prog 23 #[.agg #[.int .i64 a1, .int .i64 a2], .agg #[.int .i64 b1, .int .i64 b2]] (grow (redrawn W d) os) fun e w' => e = .returned (.int .i64 (cmR a1 a2 b1 b2)) ∧ ∃ p : Regrown, w' = grow (redrawn W p.d) p.os :=
  Calls.regrown_of (qrCmp_any a1 a2 b1 b2 _)
theorem qFloor_at (p q : Int) (W : World) (d : Nat) (os : Array Obj) :
    Calls Tryd.prog 24 #[.agg #[.int .i64 p, .int .i64 q]] (grow (redrawn W d) os) fun e w' => e = .returned (.int .i64 (flR p q)) ∧ ∃ p : Regrown, w' = grow (redrawn W p.d) p.os :=
  Calls.regrown_of (qFloor_any p q _)
theorem qrFloor_at (p q : Int) (W : World) (d : Nat) (os : Array Obj) :
    Calls Tryd.prog 25 #[.agg #[.int .i64 p, .int .i64 q]] (grow (redrawn W d) os) fun e w' => e = .returned (.int .i64 (flR p q)) ∧ ∃ p : Regrown, w' = grow (redrawn W p.d) p.os :=
  Calls.regrown_of (qrFloor_any p q _)
theorem qCeil_at (p q : Int) (W : World) (d : Nat) (os : Array Obj) :
    Calls Tryd.prog 26 #[.agg #[.int .i64 p, .int .i64 q]] (grow (redrawn W d) os) fun e w' => e = .returned (.int .i64 (ceR p q)) ∧ ∃ p : Regrown, w' = grow (redrawn W p.d) p.os :=
  Calls.regrown_of (qCeil_any p q _)
theorem qrCeil_at (p q : Int) (W : World) (d : Nat) (os : Array Obj) :
    Calls Tryd.prog 27 #[.agg #[.int .i64 p, .int .i64 q]] (grow (redrawn W d) os) fun e w' => e = .returned (.int .i64 (ceR p q)) ∧ ∃ p : Regrown, w' = grow (redrawn W p.d) p.os :=
  Calls.regrown_of (qrCeil_any p q _)
theorem qFormat_at (p q : Int) (W : World) (d : Nat) (os : Array Obj) (hX : LaidW W) :
    Calls Tryd.prog 30 #[.agg #[.int .i64 p, .int .i64 q]] (grow (redrawn W d) os) fun e w' => e = .returned (.string (fmB p q)) ∧ ∃ p : Regrown, w' = grow (redrawn W p.d) p.os :=
  Calls.regrown_of (qFormat_any p q _ (hX.below (below_regrown W d os)))
theorem qrFormat_at (p q : Int) (W : World) (d : Nat) (os : Array Obj) :
    Calls Tryd.prog 31 #[.agg #[.int .i64 p, .int .i64 q]] (grow (redrawn W d) os) fun e w' => e = .returned (.string (fmB p q)) ∧ ∃ p : Regrown, w' = grow (redrawn W p.d) p.os :=
  Calls.regrown_of (qrFormat_any p q _)
set_option maxHeartbeats 4000000 in
set_option maxRecDepth 100000 in
theorem law_makes (n d p q : Int) (w : World) (hX : LaidW w) :
    Calls Tryd.prog 3 #[.int .i64 n, .int .i64 d, .agg #[.int .i64 p, .int .i64 q]] w fun e w' => e = .returned (.bool true) ∧ Below w.heap.size w w' := by
  have HX := Lib.hid hX
  clear hX
  have C1 := Lib.hid (fun W => qMake_any n d W)
  have C2 := Lib.hid (fun W => qrMake_any n d W)
  generalize mkI n d = R at *
  obtain ⟨⟨x, y⟩, er⟩ := R
  go_enter Tryd.func3, Tryd.ntmps3
  go_wp2_with fail
  refine (C1.out _).mono ?_
  rintro e w1 ⟨rfl, hb⟩
  have bp : Blk w1 (w.heap.size) 23 #[.int .i64 p, .int .i64 q] := (Blk.new _ _ _).on hb
  have hbz := hb.size
  have HB1 := Lib.hid (((Below.refl w.heap.size w).alloc (by first | exact Nat.le_refl _ | omega | (simp; done) | (simp; omega)) _).trans (hb.mono (by first | exact Nat.le_refl _ | omega | (simp; done) | (simp; omega))))
  have hz1 : w.heap.size ≤ w1.heap.size := HB1.out.size
  clear hb hbz
  simp only [tupR, agg2]
  have q_bp0 : w1.cell? ⟨w.heap.size, 0, none⟩ = some (.int .i64 p) := bp.cell 0
  have q_bp1 : w1.cell? ⟨w.heap.size, 1, none⟩ = some (.int .i64 q) := bp.cell 1
  have l_bp : w.heap.size < w1.heap.size := bp.lt
  go_wp2_with fail
  refine (C2.out _).mono ?_
  rintro e w2 ⟨rfl, hb⟩
  clear q_bp0 q_bp1 l_bp
  have bp : Blk w2 (w.heap.size) 23 #[.int .i64 p, .int .i64 q] := ((bp).alloc _).on hb
  have bx : Blk w2 (w1.heap.size) 23 #[.int .i64 x, .int .i64 y] := (Blk.new _ _ _).on hb
  have hbz := hb.size
  have HB2 := Lib.hid (((HB1.out).alloc (by first | exact Nat.le_refl _ | omega | (simp; done) | (simp; omega)) _).trans (hb.mono (by first | exact Nat.le_refl _ | omega | (simp; done) | (simp; omega))))
  have hz2 : w.heap.size ≤ w2.heap.size := HB2.out.size
  clear hb hbz
  simp only [tupR, agg2]
  have q_bp0 : w2.cell? ⟨w.heap.size, 0, none⟩ = some (.int .i64 p) := bp.cell 0
  have q_bp1 : w2.cell? ⟨w.heap.size, 1, none⟩ = some (.int .i64 q) := bp.cell 1
  have q_bx0 : w2.cell? ⟨w1.heap.size, 0, none⟩ = some (.int .i64 x) := bx.cell 0
  have q_bx1 : w2.cell? ⟨w1.heap.size, 1, none⟩ = some (.int .i64 y) := bx.cell 1
  have l_bp : w.heap.size < w2.heap.size := bp.lt
  have l_bx : w1.heap.size < w2.heap.size := bx.lt
  go_wp2_with fail
  clear q_bp0 q_bp1 q_bx0 q_bx1 l_bp l_bx
  have bp : Blk ((w2).alloc (.cells #[.int .i64 x, .int .i64 y] 23)) (w.heap.size) 23 #[.int .i64 p, .int .i64 q] := (bp).alloc _
  have bx : Blk ((w2).alloc (.cells #[.int .i64 x, .int .i64 y] 23)) (w1.heap.size) 23 #[.int .i64 x, .int .i64 y] := (bx).alloc _
  have by_ : Blk ((w2).alloc (.cells #[.int .i64 x, .int .i64 y] 23)) (w2.heap.size) 23 #[.int .i64 x, .int .i64 y] := Blk.new _ _ _
  have HB3 := Lib.hid (show Below w.heap.size w ((w2).alloc (.cells #[.int .i64 x, .int .i64 y] 23)) from (HB2.out).alloc (by first | exact Nat.le_refl _ | omega | (simp; done) | (simp; omega)) _)
  generalize (w2).alloc (.cells #[.int .i64 x, .int .i64 y] 23) = w3 at *
  have hz3 : w.heap.size ≤ w3.heap.size := HB3.out.size
  have r_bp0 := fun d os => cell_regrown (v := .int .i64 p) (bp.cell 0) d os
  have r_bp1 := fun d os => cell_regrown (v := .int .i64 q) (bp.cell 1) d os
  have r_bx0 := fun d os => cell_regrown (v := .int .i64 x) (bx.cell 0) d os
  have r_bx1 := fun d os => cell_regrown (v := .int .i64 y) (bx.cell 1) d os
  have r_by_0 := fun d os => cell_regrown (v := .int .i64 x) (by_.cell 0) d os
  have r_by_1 := fun d os => cell_regrown (v := .int .i64 y) (by_.cell 1) d os
  have HAW := Lib.hid (fun d os => qawake_at w3 d os (HX.out.below HB3.out))
  refine wp_region_quiet_below (by kernel_rfl) (by kernel_rfl) ?_
  repeat (go_big_quiet_step (first | (go_at_call 19; go_must (exact HAW.out _ _)) | (go_at_call 17; go_must (exact qValid_at p q _ _ _)) | (go_at_call 18; go_must (exact qrValid_at p q _ _ _))))
  refine wpQuiet_nil ?_
  intro _ hw'
  obtain ⟨⟨dq, osq⟩, hw''⟩ := hw'
  subst hw''
  have hb := below_regrown w3 dq osq
  have bp : Blk (Go.Sort.grow (redrawn w3 dq) osq) (w.heap.size) 23 #[.int .i64 p, .int .i64 q] := bp.on hb
  have bx : Blk (Go.Sort.grow (redrawn w3 dq) osq) (w1.heap.size) 23 #[.int .i64 x, .int .i64 y] := bx.on hb
  have by_ : Blk (Go.Sort.grow (redrawn w3 dq) osq) (w2.heap.size) 23 #[.int .i64 x, .int .i64 y] := by_.on hb
  have HB4 := Lib.hid ((HB3.out).trans (hb.mono (by first | exact Nat.le_refl _ | omega | (simp; done) | (simp; omega))))
  clear hb r_bp0 r_bp1 r_bx0 r_bx1 r_by_0 r_by_1
  generalize Go.Sort.grow (redrawn w3 dq) osq = w4 at *
  have hz4 : w.heap.size ≤ w4.heap.size := HB4.out.size
  go_wp2_with fail
  go_ret
  exact ⟨rfl, HB4.out⟩
set_option maxHeartbeats 4000000 in
set_option maxRecDepth 100000 in
theorem law_texts (p q : Int) (s : ByteArray) (w : World) (hs : s.size ≤ 140737488351232) (hX : LaidW w) :
    Calls Tryd.prog 5 #[.agg #[.int .i64 p, .int .i64 q], .string s] w fun e w' => e = .returned (.bool true) ∧ Below w.heap.size w w' := by
  have HX := Lib.hid hX
  clear hX
  have C1 := Lib.hid (fun W hx => qParse_any s W hs hx)
  have C2 := Lib.hid (fun W => qrParse_any s W hs)
  generalize prS s = R at *
  obtain ⟨⟨x, y⟩, er⟩ := R
  go_enter Tryd.func5, Tryd.ntmps5
  go_wp2_with fail
  refine (C1.out _ (HX.out.below ((Below.refl _ _).alloc (Nat.le_refl _) _))).mono ?_
  rintro e w1 ⟨rfl, hb⟩
  have bp : Blk w1 (w.heap.size) 23 #[.int .i64 p, .int .i64 q] := (Blk.new _ _ _).on hb
  have hbz := hb.size
  have HB1 := Lib.hid (((Below.refl w.heap.size w).alloc (by first | exact Nat.le_refl _ | omega | (simp; done) | (simp; omega)) _).trans (hb.mono (by first | exact Nat.le_refl _ | omega | (simp; done) | (simp; omega))))
  have hz1 : w.heap.size ≤ w1.heap.size := HB1.out.size
  clear hb hbz
  simp only [tupR, agg2]
  have q_bp0 : w1.cell? ⟨w.heap.size, 0, none⟩ = some (.int .i64 p) := bp.cell 0
  have q_bp1 : w1.cell? ⟨w.heap.size, 1, none⟩ = some (.int .i64 q) := bp.cell 1
  have l_bp : w.heap.size < w1.heap.size := bp.lt
  go_wp2_with fail
  refine (C2.out _).mono ?_
  rintro e w2 ⟨rfl, hb⟩
  clear q_bp0 q_bp1 l_bp
  have bp : Blk w2 (w.heap.size) 23 #[.int .i64 p, .int .i64 q] := ((bp).alloc _).on hb
  have bx : Blk w2 (w1.heap.size) 23 #[.int .i64 x, .int .i64 y] := (Blk.new _ _ _).on hb
  have hbz := hb.size
  have HB2 := Lib.hid (((HB1.out).alloc (by first | exact Nat.le_refl _ | omega | (simp; done) | (simp; omega)) _).trans (hb.mono (by first | exact Nat.le_refl _ | omega | (simp; done) | (simp; omega))))
  have hz2 : w.heap.size ≤ w2.heap.size := HB2.out.size
  clear hb hbz
  simp only [tupR, agg2]
  have q_bp0 : w2.cell? ⟨w.heap.size, 0, none⟩ = some (.int .i64 p) := bp.cell 0
  have q_bp1 : w2.cell? ⟨w.heap.size, 1, none⟩ = some (.int .i64 q) := bp.cell 1
  have q_bx0 : w2.cell? ⟨w1.heap.size, 0, none⟩ = some (.int .i64 x) := bx.cell 0
  have q_bx1 : w2.cell? ⟨w1.heap.size, 1, none⟩ = some (.int .i64 y) := bx.cell 1
  have l_bp : w.heap.size < w2.heap.size := bp.lt
  have l_bx : w1.heap.size < w2.heap.size := bx.lt
  go_wp2_with fail
  clear q_bp0 q_bp1 q_bx0 q_bx1 l_bp l_bx
  have bp : Blk ((w2).alloc (.cells #[.int .i64 x, .int .i64 y] 23)) (w.heap.size) 23 #[.int .i64 p, .int .i64 q] := (bp).alloc _
  have bx : Blk ((w2).alloc (.cells #[.int .i64 x, .int .i64 y] 23)) (w1.heap.size) 23 #[.int .i64 x, .int .i64 y] := (bx).alloc _
  have by_ : Blk ((w2).alloc (.cells #[.int .i64 x, .int .i64 y] 23)) (w2.heap.size) 23 #[.int .i64 x, .int .i64 y] := Blk.new _ _ _
  have HB3 := Lib.hid (show Below w.heap.size w ((w2).alloc (.cells #[.int .i64 x, .int .i64 y] 23)) from (HB2.out).alloc (by first | exact Nat.le_refl _ | omega | (simp; done) | (simp; omega)) _)
  generalize (w2).alloc (.cells #[.int .i64 x, .int .i64 y] 23) = w3 at *
  have hz3 : w.heap.size ≤ w3.heap.size := HB3.out.size
  have r_bp0 := fun d os => cell_regrown (v := .int .i64 p) (bp.cell 0) d os
  have r_bp1 := fun d os => cell_regrown (v := .int .i64 q) (bp.cell 1) d os
  have r_bx0 := fun d os => cell_regrown (v := .int .i64 x) (bx.cell 0) d os
  have r_bx1 := fun d os => cell_regrown (v := .int .i64 y) (bx.cell 1) d os
  have r_by_0 := fun d os => cell_regrown (v := .int .i64 x) (by_.cell 0) d os
  have r_by_1 := fun d os => cell_regrown (v := .int .i64 y) (by_.cell 1) d os
  have HAW := Lib.hid (fun d os => qawake_at w3 d os (HX.out.below HB3.out))
  have HFM := Lib.hid (fun d os => qFormat_at p q w3 d os (HX.out.below HB3.out))
  refine wp_region_quiet_below (by kernel_rfl) (by kernel_rfl) ?_
  repeat (go_big_quiet_step (first | (go_at_call 19; go_must (exact HAW.out _ _)) | (go_at_call 30; go_must (exact HFM.out _ _)) | (go_at_call 31; go_must (exact qrFormat_at p q _ _ _))))
  refine wpQuiet_nil ?_
  intro _ hw'
  obtain ⟨⟨dq, osq⟩, hw''⟩ := hw'
  subst hw''
  have hb := below_regrown w3 dq osq
  have bp : Blk (Go.Sort.grow (redrawn w3 dq) osq) (w.heap.size) 23 #[.int .i64 p, .int .i64 q] := bp.on hb
  have bx : Blk (Go.Sort.grow (redrawn w3 dq) osq) (w1.heap.size) 23 #[.int .i64 x, .int .i64 y] := bx.on hb
  have by_ : Blk (Go.Sort.grow (redrawn w3 dq) osq) (w2.heap.size) 23 #[.int .i64 x, .int .i64 y] := by_.on hb
  have HB4 := Lib.hid ((HB3.out).trans (hb.mono (by first | exact Nat.le_refl _ | omega | (simp; done) | (simp; omega))))
  clear hb r_bp0 r_bp1 r_bx0 r_bx1 r_by_0 r_by_1
  generalize Go.Sort.grow (redrawn w3 dq) osq = w4 at *
  have hz4 : w.heap.size ≤ w4.heap.size := HB4.out.size
  go_wp2_with fail
  go_ret
  exact ⟨rfl, HB4.out⟩
set_option maxHeartbeats 4000000 in
set_option maxRecDepth 100000 in
theorem law_rounds (a1 a2 b1 b2 n : Int) (w : World) (hX : LaidW w) :
    Calls Tryd.prog 4 #[.agg #[.int .i64 a1, .int .i64 a2], .agg #[.int .i64 b1, .int .i64 b2], .int .i64 n] w fun e w' => e = .returned (.bool true) ∧ Below w.heap.size w w' := by
  have HX := Lib.hid hX
  clear hX
  have C1 := Lib.hid (fun W => qOf_any a1 a2 n W)
  have C2 := Lib.hid (fun W => qrOf_any a1 a2 n W)
  generalize omR a1 a2 n = R at *
  obtain ⟨x, er⟩ := R
  go_enter Tryd.func4, Tryd.ntmps4
  go_wp2_with fail
  refine (C1.out _).mono ?_
  rintro e w1 ⟨rfl, hb⟩
  have ba : Blk w1 (w.heap.size) 23 #[.int .i64 a1, .int .i64 a2] := ((Blk.new _ _ _).alloc _).on hb
  have bb : Blk w1 (w.heap.size + 1) 23 #[.int .i64 b1, .int .i64 b2] := (Blk.new1 _ _ _ _).on hb
  have hbz := hb.size
  have HB1 := Lib.hid ((((Below.refl w.heap.size w).alloc (by first | exact Nat.le_refl _ | omega | (simp; done) | (simp; omega)) _).alloc (by first | exact Nat.le_refl _ | omega | (simp; done) | (simp; omega)) _).trans (hb.mono (by first | exact Nat.le_refl _ | omega | (simp; done) | (simp; omega))))
  have hz1 : w.heap.size ≤ w1.heap.size := HB1.out.size
  clear hb hbz
  simp only [tup2]
  have q_ba0 : w1.cell? ⟨w.heap.size, 0, none⟩ = some (.int .i64 a1) := ba.cell 0
  have q_ba1 : w1.cell? ⟨w.heap.size, 1, none⟩ = some (.int .i64 a2) := ba.cell 1
  have q_bb0 : w1.cell? ⟨w.heap.size + 1, 0, none⟩ = some (.int .i64 b1) := bb.cell 0
  have q_bb1 : w1.cell? ⟨w.heap.size + 1, 1, none⟩ = some (.int .i64 b2) := bb.cell 1
  have l_ba : w.heap.size < w1.heap.size := ba.lt
  have l_bb : w.heap.size + 1 < w1.heap.size := bb.lt
  go_wp2_with fail
  refine (C2.out _).mono ?_
  rintro e w2 ⟨rfl, hb⟩
  clear q_ba0 q_ba1 q_bb0 q_bb1 l_ba l_bb
  have ba : Blk w2 (w.heap.size) 23 #[.int .i64 a1, .int .i64 a2] := (ba).on hb
  have bb : Blk w2 (w.heap.size + 1) 23 #[.int .i64 b1, .int .i64 b2] := (bb).on hb
  have hbz := hb.size
  have HB2 := Lib.hid ((HB1.out).trans (hb.mono (by first | exact Nat.le_refl _ | omega | (simp; done) | (simp; omega))))
  have hz2 : w.heap.size ≤ w2.heap.size := HB2.out.size
  clear hb hbz
  simp only [tup2]
  have q_ba0 : w2.cell? ⟨w.heap.size, 0, none⟩ = some (.int .i64 a1) := ba.cell 0
  have q_ba1 : w2.cell? ⟨w.heap.size, 1, none⟩ = some (.int .i64 a2) := ba.cell 1
  have q_bb0 : w2.cell? ⟨w.heap.size + 1, 0, none⟩ = some (.int .i64 b1) := bb.cell 0
  have q_bb1 : w2.cell? ⟨w.heap.size + 1, 1, none⟩ = some (.int .i64 b2) := bb.cell 1
  have l_ba : w.heap.size < w2.heap.size := ba.lt
  have l_bb : w.heap.size + 1 < w2.heap.size := bb.lt
  go_wp2_with fail
  clear q_ba0 q_ba1 q_bb0 q_bb1 l_ba l_bb
  have r_ba0 := fun d os => cell_regrown (v := .int .i64 a1) (ba.cell 0) d os
  have r_ba1 := fun d os => cell_regrown (v := .int .i64 a2) (ba.cell 1) d os
  have r_bb0 := fun d os => cell_regrown (v := .int .i64 b1) (bb.cell 0) d os
  have r_bb1 := fun d os => cell_regrown (v := .int .i64 b2) (bb.cell 1) d os
  have HAW := Lib.hid (fun d os => qawake_at w2 d os (HX.out.below HB2.out))
  refine wp_region_quiet_below (by kernel_rfl) (by kernel_rfl) ?_
  repeat (go_big_quiet_step (first | (go_at_call 19; go_must (exact HAW.out _ _)) | (go_at_call 22; go_must (exact qCmp_at a1 a2 b1 b2 _ _ _)) | (go_at_call 23; go_must (exact qrCmp_at a1 a2 b1 b2 _ _ _)) | (go_at_call 24; go_must (exact qFloor_at a1 a2 _ _ _)) | (go_at_call 25; go_must (exact qrFloor_at a1 a2 _ _ _)) | (go_at_call 26; go_must (exact qCeil_at a1 a2 _ _ _)) | (go_at_call 27; go_must (exact qrCeil_at a1 a2 _ _ _))))
  refine wpQuiet_nil ?_
  intro _ hw'
  obtain ⟨⟨dq, osq⟩, hw''⟩ := hw'
  subst hw''
  have hb := below_regrown w2 dq osq
  have ba : Blk (Go.Sort.grow (redrawn w2 dq) osq) (w.heap.size) 23 #[.int .i64 a1, .int .i64 a2] := ba.on hb
  have bb : Blk (Go.Sort.grow (redrawn w2 dq) osq) (w.heap.size + 1) 23 #[.int .i64 b1, .int .i64 b2] := bb.on hb
  have HB3 := Lib.hid ((HB2.out).trans (hb.mono (by first | exact Nat.le_refl _ | omega | (simp; done) | (simp; omega))))
  clear hb r_ba0 r_ba1 r_bb0 r_bb1
  generalize Go.Sort.grow (redrawn w2 dq) osq = w3 at *
  have hz3 : w.heap.size ≤ w3.heap.size := HB3.out.size
  go_wp2_with fail
  go_ret
  exact ⟨rfl, HB3.out⟩
set_option maxHeartbeats 4000000 in
set_option maxRecDepth 100000 in
theorem law_arith (a1 a2 b1 b2 : Int) (w : World) (hX : LaidW w) :
    Calls Tryd.prog 7 #[.agg #[.int .i64 a1, .int .i64 a2], .agg #[.int .i64 b1, .int .i64 b2]] w fun e w' => e = .returned (.bool true) ∧ Below w.heap.size w w' := by
  have HX := Lib.hid hX
  clear hX
  have CAdd1 := Lib.hid (fun W => qAdd_any a1 a2 b1 b2 W)
  have CAdd2 := Lib.hid (fun W => qrAdd_any a1 a2 b1 b2 W)
  generalize addR a1 a2 b1 b2 = R at *
  obtain ⟨⟨xAdd, yAdd⟩, eAdd⟩ := R
  have CSub1 := Lib.hid (fun W => qSub_any a1 a2 b1 b2 W)
  have CSub2 := Lib.hid (fun W => qrSub_any a1 a2 b1 b2 W)
  generalize subR a1 a2 b1 b2 = R at *
  obtain ⟨⟨xSub, ySub⟩, eSub⟩ := R
  have CMul1 := Lib.hid (fun W => qMul_any a1 a2 b1 b2 W)
  have CMul2 := Lib.hid (fun W => qrMul_any a1 a2 b1 b2 W)
  generalize mulR a1 a2 b1 b2 = R at *
  obtain ⟨⟨xMul, yMul⟩, eMul⟩ := R
  have CDiv1 := Lib.hid (fun W => qDiv_any a1 a2 b1 b2 W)
  have CDiv2 := Lib.hid (fun W => qrDiv_any a1 a2 b1 b2 W)
  generalize divR a1 a2 b1 b2 = R at *
  obtain ⟨⟨xDiv, yDiv⟩, eDiv⟩ := R
  go_enter Tryd.func7, Tryd.ntmps7
  go_wp2_with fail
  refine (CAdd1.out _).mono ?_
  rintro e w1 ⟨rfl, hb⟩
  have ba : Blk w1 (w.heap.size) 23 #[.int .i64 a1, .int .i64 a2] := ((Blk.new _ _ _).alloc _).on hb
  have bb : Blk w1 (w.heap.size + 1) 23 #[.int .i64 b1, .int .i64 b2] := (Blk.new1 _ _ _ _).on hb
  have hbz := hb.size
  have HB1 := Lib.hid ((((Below.refl w.heap.size w).alloc (by first | exact Nat.le_refl _ | omega | (simp; done) | (simp; omega)) _).alloc (by first | exact Nat.le_refl _ | omega | (simp; done) | (simp; omega)) _).trans (hb.mono (by first | exact Nat.le_refl _ | omega | (simp; done) | (simp; omega))))
  have hz1 : w.heap.size ≤ w1.heap.size := HB1.out.size
  clear hb hbz
  simp only [tupR, agg2]
  have q_ba0 : w1.cell? ⟨w.heap.size, 0, none⟩ = some (.int .i64 a1) := ba.cell 0
  have q_ba1 : w1.cell? ⟨w.heap.size, 1, none⟩ = some (.int .i64 a2) := ba.cell 1
  have q_bb0 : w1.cell? ⟨w.heap.size + 1, 0, none⟩ = some (.int .i64 b1) := bb.cell 0
  have q_bb1 : w1.cell? ⟨w.heap.size + 1, 1, none⟩ = some (.int .i64 b2) := bb.cell 1
  have l_ba : w.heap.size < w1.heap.size := ba.lt
  have l_bb : w.heap.size + 1 < w1.heap.size := bb.lt
  go_wp2_with fail
  refine (CAdd2.out _).mono ?_
  rintro e w2 ⟨rfl, hb⟩
  have n_ba_bx : w.heap.size < w1.heap.size := by have := ba.lt; omega
  have n_bb_bx : w.heap.size + 1 < w1.heap.size := by have := bb.lt; omega
  clear q_ba0 q_ba1 q_bb0 q_bb1 l_ba l_bb
  have ba : Blk w2 (w.heap.size) 23 #[.int .i64 a1, .int .i64 a2] := ((ba).alloc _).on hb
  have bb : Blk w2 (w.heap.size + 1) 23 #[.int .i64 b1, .int .i64 b2] := ((bb).alloc _).on hb
  have bx : Blk w2 (w1.heap.size) 23 #[.int .i64 xAdd, .int .i64 yAdd] := (Blk.new _ _ _).on hb
  have hbz := hb.size
  have HB2 := Lib.hid (((HB1.out).alloc (by first | exact Nat.le_refl _ | omega | (simp; done) | (simp; omega)) _).trans (hb.mono (by first | exact Nat.le_refl _ | omega | (simp; done) | (simp; omega))))
  have hz2 : w.heap.size ≤ w2.heap.size := HB2.out.size
  clear hb hbz
  simp only [tupR, agg2]
  have q_ba0 : w2.cell? ⟨w.heap.size, 0, none⟩ = some (.int .i64 a1) := ba.cell 0
  have q_ba1 : w2.cell? ⟨w.heap.size, 1, none⟩ = some (.int .i64 a2) := ba.cell 1
  have q_bb0 : w2.cell? ⟨w.heap.size + 1, 0, none⟩ = some (.int .i64 b1) := bb.cell 0
  have q_bb1 : w2.cell? ⟨w.heap.size + 1, 1, none⟩ = some (.int .i64 b2) := bb.cell 1
  have q_bx0 : w2.cell? ⟨w1.heap.size, 0, none⟩ = some (.int .i64 xAdd) := bx.cell 0
  have q_bx1 : w2.cell? ⟨w1.heap.size, 1, none⟩ = some (.int .i64 yAdd) := bx.cell 1
  have l_ba : w.heap.size < w2.heap.size := ba.lt
  have l_bb : w.heap.size + 1 < w2.heap.size := bb.lt
  have l_bx : w1.heap.size < w2.heap.size := bx.lt
  go_wp2_with fail
  refine (CSub1.out _).mono ?_
  rintro e w3 ⟨rfl, hb⟩
  have n_ba_by_ : w.heap.size < w2.heap.size := by have := ba.lt; omega
  have n_bb_by_ : w.heap.size + 1 < w2.heap.size := by have := bb.lt; omega
  have n_bx_by_ : w1.heap.size < w2.heap.size := by have := bx.lt; omega
  clear q_ba0 q_ba1 q_bb0 q_bb1 q_bx0 q_bx1 l_ba l_bb l_bx
  have ba : Blk w3 (w.heap.size) 23 #[.int .i64 a1, .int .i64 a2] := ((ba).alloc _).on hb
  have bb : Blk w3 (w.heap.size + 1) 23 #[.int .i64 b1, .int .i64 b2] := ((bb).alloc _).on hb
  have bx : Blk w3 (w1.heap.size) 23 #[.int .i64 xAdd, .int .i64 yAdd] := ((bx).alloc _).on hb
  have by_ : Blk w3 (w2.heap.size) 23 #[.int .i64 xAdd, .int .i64 yAdd] := (Blk.new _ _ _).on hb
  have hbz := hb.size
  have HB3 := Lib.hid (((HB2.out).alloc (by first | exact Nat.le_refl _ | omega | (simp; done) | (simp; omega)) _).trans (hb.mono (by first | exact Nat.le_refl _ | omega | (simp; done) | (simp; omega))))
  have hz3 : w.heap.size ≤ w3.heap.size := HB3.out.size
  clear hb hbz
  simp only [tupR, agg2]
  have q_ba0 : w3.cell? ⟨w.heap.size, 0, none⟩ = some (.int .i64 a1) := ba.cell 0
  have q_ba1 : w3.cell? ⟨w.heap.size, 1, none⟩ = some (.int .i64 a2) := ba.cell 1
  have q_bb0 : w3.cell? ⟨w.heap.size + 1, 0, none⟩ = some (.int .i64 b1) := bb.cell 0
  have q_bb1 : w3.cell? ⟨w.heap.size + 1, 1, none⟩ = some (.int .i64 b2) := bb.cell 1
  have q_bx0 : w3.cell? ⟨w1.heap.size, 0, none⟩ = some (.int .i64 xAdd) := bx.cell 0
  have q_bx1 : w3.cell? ⟨w1.heap.size, 1, none⟩ = some (.int .i64 yAdd) := bx.cell 1
  have q_by_0 : w3.cell? ⟨w2.heap.size, 0, none⟩ = some (.int .i64 xAdd) := by_.cell 0
  have q_by_1 : w3.cell? ⟨w2.heap.size, 1, none⟩ = some (.int .i64 yAdd) := by_.cell 1
  have l_ba : w.heap.size < w3.heap.size := ba.lt
  have l_bb : w.heap.size + 1 < w3.heap.size := bb.lt
  have l_bx : w1.heap.size < w3.heap.size := bx.lt
  have l_by_ : w2.heap.size < w3.heap.size := by_.lt
  have f_bx0 : w3.frozen? ⟨w1.heap.size, 0, none⟩ = false := bx.frozen 0
  have f_bx1 : w3.frozen? ⟨w1.heap.size, 1, none⟩ = false := bx.frozen 1
  have f_by_0 : w3.frozen? ⟨w2.heap.size, 0, none⟩ = false := by_.frozen 0
  have f_by_1 : w3.frozen? ⟨w2.heap.size, 1, none⟩ = false := by_.frozen 1
  go_wp2_with fail
  refine (CSub2.out _).mono ?_
  rintro e w4 ⟨rfl, hb⟩
  clear q_ba0 q_ba1 q_bb0 q_bb1 q_bx0 q_bx1 q_by_0 q_by_1 l_ba l_bb l_bx l_by_ f_bx0 f_bx1 f_by_0 f_by_1
  have ba : Blk w4 (w.heap.size) 23 #[.int .i64 a1, .int .i64 a2] := (Blk.far2 (ba) (g' := w1.heap.size) (by omega) _ _).on hb
  have bb : Blk w4 (w.heap.size + 1) 23 #[.int .i64 b1, .int .i64 b2] := (Blk.far2 (bb) (g' := w1.heap.size) (by omega) _ _).on hb
  have bx : Blk w4 (w1.heap.size) 23 #[.int .i64 xSub, .int .i64 ySub] := (Blk.set2 (bx) _ _).on hb
  have by_ : Blk w4 (w2.heap.size) 23 #[.int .i64 xAdd, .int .i64 yAdd] := (Blk.far2 (by_) (g' := w1.heap.size) (by omega) _ _).on hb
  have hbz := hb.size
  have HB4 := Lib.hid ((below_set2 (HB3.out) (H := w1.heap.size) (by first | exact Nat.le_refl _ | omega) _ _).trans (hb.mono (by first | exact Nat.le_refl _ | omega | (simp; done) | (simp; omega))))
  have hz4 : w.heap.size ≤ w4.heap.size := HB4.out.size
  clear hb hbz
  simp only [tupR, agg2]
  have q_ba0 : w4.cell? ⟨w.heap.size, 0, none⟩ = some (.int .i64 a1) := ba.cell 0
  have q_ba1 : w4.cell? ⟨w.heap.size, 1, none⟩ = some (.int .i64 a2) := ba.cell 1
  have q_bb0 : w4.cell? ⟨w.heap.size + 1, 0, none⟩ = some (.int .i64 b1) := bb.cell 0
  have q_bb1 : w4.cell? ⟨w.heap.size + 1, 1, none⟩ = some (.int .i64 b2) := bb.cell 1
  have q_bx0 : w4.cell? ⟨w1.heap.size, 0, none⟩ = some (.int .i64 xSub) := bx.cell 0
  have q_bx1 : w4.cell? ⟨w1.heap.size, 1, none⟩ = some (.int .i64 ySub) := bx.cell 1
  have q_by_0 : w4.cell? ⟨w2.heap.size, 0, none⟩ = some (.int .i64 xAdd) := by_.cell 0
  have q_by_1 : w4.cell? ⟨w2.heap.size, 1, none⟩ = some (.int .i64 yAdd) := by_.cell 1
  have l_ba : w.heap.size < w4.heap.size := ba.lt
  have l_bb : w.heap.size + 1 < w4.heap.size := bb.lt
  have l_bx : w1.heap.size < w4.heap.size := bx.lt
  have l_by_ : w2.heap.size < w4.heap.size := by_.lt
  have f_bx0 : w4.frozen? ⟨w1.heap.size, 0, none⟩ = false := bx.frozen 0
  have f_bx1 : w4.frozen? ⟨w1.heap.size, 1, none⟩ = false := bx.frozen 1
  have f_by_0 : w4.frozen? ⟨w2.heap.size, 0, none⟩ = false := by_.frozen 0
  have f_by_1 : w4.frozen? ⟨w2.heap.size, 1, none⟩ = false := by_.frozen 1
  go_wp2_with fail
  refine (CMul1.out _).mono ?_
  rintro e w5 ⟨rfl, hb⟩
  clear q_ba0 q_ba1 q_bb0 q_bb1 q_bx0 q_bx1 q_by_0 q_by_1 l_ba l_bb l_bx l_by_ f_bx0 f_bx1 f_by_0 f_by_1
  have ba : Blk w5 (w.heap.size) 23 #[.int .i64 a1, .int .i64 a2] := (Blk.far2 (ba) (g' := w2.heap.size) (by omega) _ _).on hb
  have bb : Blk w5 (w.heap.size + 1) 23 #[.int .i64 b1, .int .i64 b2] := (Blk.far2 (bb) (g' := w2.heap.size) (by omega) _ _).on hb
  have bx : Blk w5 (w1.heap.size) 23 #[.int .i64 xSub, .int .i64 ySub] := (Blk.far2 (bx) (g' := w2.heap.size) (by omega) _ _).on hb
  have by_ : Blk w5 (w2.heap.size) 23 #[.int .i64 xSub, .int .i64 ySub] := (Blk.set2 (by_) _ _).on hb
  have hbz := hb.size
  have HB5 := Lib.hid ((below_set2 (HB4.out) (H := w2.heap.size) (by first | exact Nat.le_refl _ | omega) _ _).trans (hb.mono (by first | exact Nat.le_refl _ | omega | (simp; done) | (simp; omega))))
  have hz5 : w.heap.size ≤ w5.heap.size := HB5.out.size
  clear hb hbz
  simp only [tupR, agg2]
  have q_ba0 : w5.cell? ⟨w.heap.size, 0, none⟩ = some (.int .i64 a1) := ba.cell 0
  have q_ba1 : w5.cell? ⟨w.heap.size, 1, none⟩ = some (.int .i64 a2) := ba.cell 1
  have q_bb0 : w5.cell? ⟨w.heap.size + 1, 0, none⟩ = some (.int .i64 b1) := bb.cell 0
  have q_bb1 : w5.cell? ⟨w.heap.size + 1, 1, none⟩ = some (.int .i64 b2) := bb.cell 1
  have q_bx0 : w5.cell? ⟨w1.heap.size, 0, none⟩ = some (.int .i64 xSub) := bx.cell 0
  have q_bx1 : w5.cell? ⟨w1.heap.size, 1, none⟩ = some (.int .i64 ySub) := bx.cell 1
  have q_by_0 : w5.cell? ⟨w2.heap.size, 0, none⟩ = some (.int .i64 xSub) := by_.cell 0
  have q_by_1 : w5.cell? ⟨w2.heap.size, 1, none⟩ = some (.int .i64 ySub) := by_.cell 1
  have l_ba : w.heap.size < w5.heap.size := ba.lt
  have l_bb : w.heap.size + 1 < w5.heap.size := bb.lt
  have l_bx : w1.heap.size < w5.heap.size := bx.lt
  have l_by_ : w2.heap.size < w5.heap.size := by_.lt
  have f_bx0 : w5.frozen? ⟨w1.heap.size, 0, none⟩ = false := bx.frozen 0
  have f_bx1 : w5.frozen? ⟨w1.heap.size, 1, none⟩ = false := bx.frozen 1
  have f_by_0 : w5.frozen? ⟨w2.heap.size, 0, none⟩ = false := by_.frozen 0
  have f_by_1 : w5.frozen? ⟨w2.heap.size, 1, none⟩ = false := by_.frozen 1
  go_wp2_with fail
  refine (CMul2.out _).mono ?_
  rintro e w6 ⟨rfl, hb⟩
  clear q_ba0 q_ba1 q_bb0 q_bb1 q_bx0 q_bx1 q_by_0 q_by_1 l_ba l_bb l_bx l_by_ f_bx0 f_bx1 f_by_0 f_by_1
  have ba : Blk w6 (w.heap.size) 23 #[.int .i64 a1, .int .i64 a2] := (Blk.far2 (ba) (g' := w1.heap.size) (by omega) _ _).on hb
  have bb : Blk w6 (w.heap.size + 1) 23 #[.int .i64 b1, .int .i64 b2] := (Blk.far2 (bb) (g' := w1.heap.size) (by omega) _ _).on hb
  have bx : Blk w6 (w1.heap.size) 23 #[.int .i64 xMul, .int .i64 yMul] := (Blk.set2 (bx) _ _).on hb
  have by_ : Blk w6 (w2.heap.size) 23 #[.int .i64 xSub, .int .i64 ySub] := (Blk.far2 (by_) (g' := w1.heap.size) (by omega) _ _).on hb
  have hbz := hb.size
  have HB6 := Lib.hid ((below_set2 (HB5.out) (H := w1.heap.size) (by first | exact Nat.le_refl _ | omega) _ _).trans (hb.mono (by first | exact Nat.le_refl _ | omega | (simp; done) | (simp; omega))))
  have hz6 : w.heap.size ≤ w6.heap.size := HB6.out.size
  clear hb hbz
  simp only [tupR, agg2]
  have q_ba0 : w6.cell? ⟨w.heap.size, 0, none⟩ = some (.int .i64 a1) := ba.cell 0
  have q_ba1 : w6.cell? ⟨w.heap.size, 1, none⟩ = some (.int .i64 a2) := ba.cell 1
  have q_bb0 : w6.cell? ⟨w.heap.size + 1, 0, none⟩ = some (.int .i64 b1) := bb.cell 0
  have q_bb1 : w6.cell? ⟨w.heap.size + 1, 1, none⟩ = some (.int .i64 b2) := bb.cell 1
  have q_bx0 : w6.cell? ⟨w1.heap.size, 0, none⟩ = some (.int .i64 xMul) := bx.cell 0
  have q_bx1 : w6.cell? ⟨w1.heap.size, 1, none⟩ = some (.int .i64 yMul) := bx.cell 1
  have q_by_0 : w6.cell? ⟨w2.heap.size, 0, none⟩ = some (.int .i64 xSub) := by_.cell 0
  have q_by_1 : w6.cell? ⟨w2.heap.size, 1, none⟩ = some (.int .i64 ySub) := by_.cell 1
  have l_ba : w.heap.size < w6.heap.size := ba.lt
  have l_bb : w.heap.size + 1 < w6.heap.size := bb.lt
  have l_bx : w1.heap.size < w6.heap.size := bx.lt
  have l_by_ : w2.heap.size < w6.heap.size := by_.lt
  have f_bx0 : w6.frozen? ⟨w1.heap.size, 0, none⟩ = false := bx.frozen 0
  have f_bx1 : w6.frozen? ⟨w1.heap.size, 1, none⟩ = false := bx.frozen 1
  have f_by_0 : w6.frozen? ⟨w2.heap.size, 0, none⟩ = false := by_.frozen 0
  have f_by_1 : w6.frozen? ⟨w2.heap.size, 1, none⟩ = false := by_.frozen 1
  go_wp2_with fail
  refine (CDiv1.out _).mono ?_
  rintro e w7 ⟨rfl, hb⟩
  clear q_ba0 q_ba1 q_bb0 q_bb1 q_bx0 q_bx1 q_by_0 q_by_1 l_ba l_bb l_bx l_by_ f_bx0 f_bx1 f_by_0 f_by_1
  have ba : Blk w7 (w.heap.size) 23 #[.int .i64 a1, .int .i64 a2] := (Blk.far2 (ba) (g' := w2.heap.size) (by omega) _ _).on hb
  have bb : Blk w7 (w.heap.size + 1) 23 #[.int .i64 b1, .int .i64 b2] := (Blk.far2 (bb) (g' := w2.heap.size) (by omega) _ _).on hb
  have bx : Blk w7 (w1.heap.size) 23 #[.int .i64 xMul, .int .i64 yMul] := (Blk.far2 (bx) (g' := w2.heap.size) (by omega) _ _).on hb
  have by_ : Blk w7 (w2.heap.size) 23 #[.int .i64 xMul, .int .i64 yMul] := (Blk.set2 (by_) _ _).on hb
  have hbz := hb.size
  have HB7 := Lib.hid ((below_set2 (HB6.out) (H := w2.heap.size) (by first | exact Nat.le_refl _ | omega) _ _).trans (hb.mono (by first | exact Nat.le_refl _ | omega | (simp; done) | (simp; omega))))
  have hz7 : w.heap.size ≤ w7.heap.size := HB7.out.size
  clear hb hbz
  simp only [tupR, agg2]
  have q_ba0 : w7.cell? ⟨w.heap.size, 0, none⟩ = some (.int .i64 a1) := ba.cell 0
  have q_ba1 : w7.cell? ⟨w.heap.size, 1, none⟩ = some (.int .i64 a2) := ba.cell 1
  have q_bb0 : w7.cell? ⟨w.heap.size + 1, 0, none⟩ = some (.int .i64 b1) := bb.cell 0
  have q_bb1 : w7.cell? ⟨w.heap.size + 1, 1, none⟩ = some (.int .i64 b2) := bb.cell 1
  have q_bx0 : w7.cell? ⟨w1.heap.size, 0, none⟩ = some (.int .i64 xMul) := bx.cell 0
  have q_bx1 : w7.cell? ⟨w1.heap.size, 1, none⟩ = some (.int .i64 yMul) := bx.cell 1
  have q_by_0 : w7.cell? ⟨w2.heap.size, 0, none⟩ = some (.int .i64 xMul) := by_.cell 0
  have q_by_1 : w7.cell? ⟨w2.heap.size, 1, none⟩ = some (.int .i64 yMul) := by_.cell 1
  have l_ba : w.heap.size < w7.heap.size := ba.lt
  have l_bb : w.heap.size + 1 < w7.heap.size := bb.lt
  have l_bx : w1.heap.size < w7.heap.size := bx.lt
  have l_by_ : w2.heap.size < w7.heap.size := by_.lt
  have f_bx0 : w7.frozen? ⟨w1.heap.size, 0, none⟩ = false := bx.frozen 0
  have f_bx1 : w7.frozen? ⟨w1.heap.size, 1, none⟩ = false := bx.frozen 1
  have f_by_0 : w7.frozen? ⟨w2.heap.size, 0, none⟩ = false := by_.frozen 0
  have f_by_1 : w7.frozen? ⟨w2.heap.size, 1, none⟩ = false := by_.frozen 1
  go_wp2_with fail
  refine (CDiv2.out _).mono ?_
  rintro e w8 ⟨rfl, hb⟩
  clear q_ba0 q_ba1 q_bb0 q_bb1 q_bx0 q_bx1 q_by_0 q_by_1 l_ba l_bb l_bx l_by_ f_bx0 f_bx1 f_by_0 f_by_1
  have ba : Blk w8 (w.heap.size) 23 #[.int .i64 a1, .int .i64 a2] := (Blk.far2 (ba) (g' := w1.heap.size) (by omega) _ _).on hb
  have bb : Blk w8 (w.heap.size + 1) 23 #[.int .i64 b1, .int .i64 b2] := (Blk.far2 (bb) (g' := w1.heap.size) (by omega) _ _).on hb
  have bx : Blk w8 (w1.heap.size) 23 #[.int .i64 xDiv, .int .i64 yDiv] := (Blk.set2 (bx) _ _).on hb
  have by_ : Blk w8 (w2.heap.size) 23 #[.int .i64 xMul, .int .i64 yMul] := (Blk.far2 (by_) (g' := w1.heap.size) (by omega) _ _).on hb
  have hbz := hb.size
  have HB8 := Lib.hid ((below_set2 (HB7.out) (H := w1.heap.size) (by first | exact Nat.le_refl _ | omega) _ _).trans (hb.mono (by first | exact Nat.le_refl _ | omega | (simp; done) | (simp; omega))))
  have hz8 : w.heap.size ≤ w8.heap.size := HB8.out.size
  clear hb hbz
  simp only [tupR, agg2]
  have q_ba0 : w8.cell? ⟨w.heap.size, 0, none⟩ = some (.int .i64 a1) := ba.cell 0
  have q_ba1 : w8.cell? ⟨w.heap.size, 1, none⟩ = some (.int .i64 a2) := ba.cell 1
  have q_bb0 : w8.cell? ⟨w.heap.size + 1, 0, none⟩ = some (.int .i64 b1) := bb.cell 0
  have q_bb1 : w8.cell? ⟨w.heap.size + 1, 1, none⟩ = some (.int .i64 b2) := bb.cell 1
  have q_bx0 : w8.cell? ⟨w1.heap.size, 0, none⟩ = some (.int .i64 xDiv) := bx.cell 0
  have q_bx1 : w8.cell? ⟨w1.heap.size, 1, none⟩ = some (.int .i64 yDiv) := bx.cell 1
  have q_by_0 : w8.cell? ⟨w2.heap.size, 0, none⟩ = some (.int .i64 xMul) := by_.cell 0
  have q_by_1 : w8.cell? ⟨w2.heap.size, 1, none⟩ = some (.int .i64 yMul) := by_.cell 1
  have l_ba : w.heap.size < w8.heap.size := ba.lt
  have l_bb : w.heap.size + 1 < w8.heap.size := bb.lt
  have l_bx : w1.heap.size < w8.heap.size := bx.lt
  have l_by_ : w2.heap.size < w8.heap.size := by_.lt
  have f_bx0 : w8.frozen? ⟨w1.heap.size, 0, none⟩ = false := bx.frozen 0
  have f_bx1 : w8.frozen? ⟨w1.heap.size, 1, none⟩ = false := bx.frozen 1
  have f_by_0 : w8.frozen? ⟨w2.heap.size, 0, none⟩ = false := by_.frozen 0
  have f_by_1 : w8.frozen? ⟨w2.heap.size, 1, none⟩ = false := by_.frozen 1
  go_wp2_with fail
  refine (qawake_any _ (HX.out.below (below_set2 (HB8.out) (H := w2.heap.size) (by first | exact Nat.le_refl _ | omega) _ _))).mono ?_
  rintro e w9 ⟨rfl, hb⟩
  clear q_ba0 q_ba1 q_bb0 q_bb1 q_bx0 q_bx1 q_by_0 q_by_1 l_ba l_bb l_bx l_by_ f_bx0 f_bx1 f_by_0 f_by_1
  have ba : Blk w9 (w.heap.size) 23 #[.int .i64 a1, .int .i64 a2] := (Blk.far2 (ba) (g' := w2.heap.size) (by omega) _ _).on hb
  have bb : Blk w9 (w.heap.size + 1) 23 #[.int .i64 b1, .int .i64 b2] := (Blk.far2 (bb) (g' := w2.heap.size) (by omega) _ _).on hb
  have bx : Blk w9 (w1.heap.size) 23 #[.int .i64 xDiv, .int .i64 yDiv] := (Blk.far2 (bx) (g' := w2.heap.size) (by omega) _ _).on hb
  have by_ : Blk w9 (w2.heap.size) 23 #[.int .i64 xDiv, .int .i64 yDiv] := (Blk.set2 (by_) _ _).on hb
  have hbz := hb.size
  have HB9 := Lib.hid ((below_set2 (HB8.out) (H := w2.heap.size) (by first | exact Nat.le_refl _ | omega) _ _).trans (hb.mono (by first | exact Nat.le_refl _ | omega | (simp; done) | (simp; omega))))
  have hz9 : w.heap.size ≤ w9.heap.size := HB9.out.size
  clear hb hbz
  go_wp2_with fail
  go_ret
  exact ⟨rfl, HB9.out⟩
end Go.Proofs.YtpkekfhnpcjgkaaDoor
