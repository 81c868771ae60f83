/- The walks of the reference's arithmetic, of Cmp, Floor, Ceil. -/
import Derived.Test.YtpkekfhnpcjgkaaDoorR6
namespace Go.Proofs.YtpkekfhnpcjgkaaDoor
open Go.RowKit
open Rt

theorem val_no1 {a1 a2 b1 b2 n d : Int} (h : vR a1 a2 = false) : valI2 a1 a2 b1 b2 n d = ((0, 0), 2) := val_no (by rw [h]; rfl)
theorem val_no2 {a1 a2 b1 b2 n d : Int} (h : vR b1 b2 = false) : valI2 a1 a2 b1 b2 n d = ((0, 0), 2) := val_no (by rw [h, Bool.and_false])
theorem val_both {a1 a2 b1 b2 n d : Int} (h : vR a1 a2 = true) (h' : vR b1 b2 = true) : valI2 a1 a2 b1 b2 n d = ofI n d := val_yes (by rw [h, h']; rfl)
set_option maxHeartbeats 1000000 in
theorem qrAdd_any (a1 a2 b1 b2 : Int) (w : World) :
    Calls Tryd.prog 34 #[.agg #[.int .i64 a1, .int .i64 a2], .agg #[.int .i64 b1, .int .i64 b2]] w fun e w' => e = .returned (tupR (addR a1 a2 b1 b2)) ∧ Below w.heap.size w w' := by
  unfold addR
  cases h1 : vR a1 a2
  · have HD := Lib.hid (val_no1 (b1 := b1) (b2 := b2) (n := a1 * b2 + b1 * a2) (d := a2 * b2) h1)
    have H1 := Lib.hid h1
    clear h1
    go_enter Tryd.func34, Tryd.ntmps34
    go_wp2_with fail
    refine (qrValid_any _ _ _).mono ?_
    rintro e w1 ⟨rfl, hb⟩
    have ba : Blk w1 (w.heap.size) 23 #[.int .i64 a1, .int .i64 a2] := (((Blk.new _ _ _).alloc _).alloc _).on hb
    have bb : Blk w1 (w.heap.size + 1) 23 #[.int .i64 b1, .int .i64 b2] := ((Blk.new1 _ _ _ _).alloc _).on hb
    have br : Blk w1 (w.heap.size + 2) 23 #[.int .i64 0, .int .i64 0] := (Blk.new2 _ _ _ _ _).on hb
    have hbz := hb.size
    have HB1 := Lib.hid (((((Below.refl w.heap.size w).alloc (by first | exact Nat.le_refl _ | omega | (simp; done) | (simp; omega)) _).alloc (by first | exact Nat.le_refl _ | omega | (simp; done) | (simp; omega)) _).alloc (by first | exact Nat.le_refl _ | omega | (simp; done) | (simp; omega)) _).trans (hb.mono (by first | exact Nat.le_refl _ | omega | (simp; done) | (simp; omega))))
    have hz1 : w.heap.size ≤ w1.heap.size := HB1.out.size
    clear hb hbz
    rw [H1.out]
    have q_br0 : w1.cell? ⟨w.heap.size + 2, 0, none⟩ = some (.int .i64 0) := br.cell 0
    have q_br1 : w1.cell? ⟨w.heap.size + 2, 1, none⟩ = some (.int .i64 0) := br.cell 1
    have f_br0 : w1.frozen? ⟨w.heap.size + 2, 0, none⟩ = false := br.frozen 0
    have f_br1 : w1.frozen? ⟨w.heap.size + 2, 1, none⟩ = false := br.frozen 1
    go_wp2_with fail
    exact bodyPost_ret (v := .tuple #[.agg #[.int .i64 0, .int .i64 0], .int .i64 2]) (by simp [results, Tryd.results34, go_sem, q_br0, q_br1]) rfl ⟨ret_tupR HD.out, below_set2 (HB1.out) (by first | exact Nat.le_refl _ | omega | (simp; done) | (simp; omega)) _ _⟩
  cases h2 : vR b1 b2
  · have HD := Lib.hid (val_no2 (a1 := a1) (a2 := a2) (n := a1 * b2 + b1 * a2) (d := a2 * b2) h2)
    have H1 := Lib.hid h1
    have H2 := Lib.hid h2
    clear h1 h2
    go_enter Tryd.func34, Tryd.ntmps34
    go_wp2_with fail
    refine (qrValid_any _ _ _).mono ?_
    rintro e w1 ⟨rfl, hb⟩
    have ba : Blk w1 (w.heap.size) 23 #[.int .i64 a1, .int .i64 a2] := (((Blk.new _ _ _).alloc _).alloc _).on hb
    have bb : Blk w1 (w.heap.size + 1) 23 #[.int .i64 b1, .int .i64 b2] := ((Blk.new1 _ _ _ _).alloc _).on hb
    have br : Blk w1 (w.heap.size + 2) 23 #[.int .i64 0, .int .i64 0] := (Blk.new2 _ _ _ _ _).on hb
    have hbz := hb.size
    have HB1 := Lib.hid (((((Below.refl w.heap.size w).alloc (by first | exact Nat.le_refl _ | omega | (simp; done) | (simp; omega)) _).alloc (by first | exact Nat.le_refl _ | omega | (simp; done) | (simp; omega)) _).alloc (by first | exact Nat.le_refl _ | omega | (simp; done) | (simp; omega)) _).trans (hb.mono (by first | exact Nat.le_refl _ | omega | (simp; done) | (simp; omega))))
    have hz1 : w.heap.size ≤ w1.heap.size := HB1.out.size
    clear hb hbz
    rw [H1.out]
    have q_bb0 : w1.cell? ⟨w.heap.size + 1, 0, none⟩ = some (.int .i64 b1) := bb.cell 0
    have q_bb1 : w1.cell? ⟨w.heap.size + 1, 1, none⟩ = some (.int .i64 b2) := bb.cell 1
    go_wp2_with fail
    refine (qrValid_any _ _ _).mono ?_
    rintro e w2 ⟨rfl, hb⟩
    clear q_bb0 q_bb1
    have ba : Blk w2 (w.heap.size) 23 #[.int .i64 a1, .int .i64 a2] := (ba).on hb
    have bb : Blk w2 (w.heap.size + 1) 23 #[.int .i64 b1, .int .i64 b2] := (bb).on hb
    have br : Blk w2 (w.heap.size + 2) 23 #[.int .i64 0, .int .i64 0] := (br).on hb
    have hbz := hb.size
    have HB2 := Lib.hid ((HB1.out).trans (hb.mono (by first | exact Nat.le_refl _ | omega | (simp; done) | (simp; omega))))
    have hz2 : w.heap.size ≤ w2.heap.size := HB2.out.size
    clear hb hbz
    rw [H2.out]
    have q_br0 : w2.cell? ⟨w.heap.size + 2, 0, none⟩ = some (.int .i64 0) := br.cell 0
    have q_br1 : w2.cell? ⟨w.heap.size + 2, 1, none⟩ = some (.int .i64 0) := br.cell 1
    have f_br0 : w2.frozen? ⟨w.heap.size + 2, 0, none⟩ = false := br.frozen 0
    have f_br1 : w2.frozen? ⟨w.heap.size + 2, 1, none⟩ = false := br.frozen 1
    go_wp2_with fail
    exact bodyPost_ret (v := .tuple #[.agg #[.int .i64 0, .int .i64 0], .int .i64 2]) (by simp [results, Tryd.results34, go_sem, q_br0, q_br1]) rfl ⟨ret_tupR HD.out, below_set2 (HB2.out) (by first | exact Nat.le_refl _ | omega | (simp; done) | (simp; omega)) _ _⟩
  have HD := Lib.hid (val_both (n := a1 * b2 + b1 * a2) (d := a2 * b2) h1 h2)
  have ha := vR_bd h1
  have hb := vR_bd h2
  have H1 := Lib.hid h1
  have H2 := Lib.hid h2
  clear h1 h2
  have m1 := bd_nd (x := a1) (y := b2) (by omega) (by omega)
  have m2 := bd_nd (x := b1) (y := a2) (by omega) (by omega)
  have m3 := bd_dd (x := a2) (y := b2) (by omega) (by omega)
  have m4 := bd_nn (x := a1) (y := b1) (by omega) (by omega)
  have m5 : -1000000000000000 ≤ a2 * b1 ∧ a2 * b1 ≤ 1000000000000000 := by rw [Int.mul_comm]; exact m2
  obtain ⟨a21, a22, a11, a12⟩ := ha
  obtain ⟨b21, b22, b11, b12⟩ := hb
  obtain ⟨m11, m12⟩ := m1
  obtain ⟨m21, m22⟩ := m2
  obtain ⟨m31, m32⟩ := m3
  obtain ⟨m41, m42⟩ := m4
  obtain ⟨m51, m52⟩ := m5
  go_enter Tryd.func34, Tryd.ntmps34
  go_wp2_with fail
  refine (qrValid_any _ _ _).mono ?_
  rintro e w1 ⟨rfl, hb⟩
  have ba : Blk w1 (w.heap.size) 23 #[.int .i64 a1, .int .i64 a2] := (((Blk.new _ _ _).alloc _).alloc _).on hb
  have bb : Blk w1 (w.heap.size + 1) 23 #[.int .i64 b1, .int .i64 b2] := ((Blk.new1 _ _ _ _).alloc _).on hb
  have br : Blk w1 (w.heap.size + 2) 23 #[.int .i64 0, .int .i64 0] := (Blk.new2 _ _ _ _ _).on hb
  have hbz := hb.size
  have HB1 := Lib.hid (((((Below.refl w.heap.size w).alloc (by first | exact Nat.le_refl _ | omega | (simp; done) | (simp; omega)) _).alloc (by first | exact Nat.le_refl _ | omega | (simp; done) | (simp; omega)) _).alloc (by first | exact Nat.le_refl _ | omega | (simp; done) | (simp; omega)) _).trans (hb.mono (by first | exact Nat.le_refl _ | omega | (simp; done) | (simp; omega))))
  have hz1 : w.heap.size ≤ w1.heap.size := HB1.out.size
  clear hb hbz
  rw [H1.out]
  have q_bb0 : w1.cell? ⟨w.heap.size + 1, 0, none⟩ = some (.int .i64 b1) := bb.cell 0
  have q_bb1 : w1.cell? ⟨w.heap.size + 1, 1, none⟩ = some (.int .i64 b2) := bb.cell 1
  go_wp2_with fail
  refine (qrValid_any _ _ _).mono ?_
  rintro e w2 ⟨rfl, hb⟩
  clear q_bb0 q_bb1
  have ba : Blk w2 (w.heap.size) 23 #[.int .i64 a1, .int .i64 a2] := (ba).on hb
  have bb : Blk w2 (w.heap.size + 1) 23 #[.int .i64 b1, .int .i64 b2] := (bb).on hb
  have br : Blk w2 (w.heap.size + 2) 23 #[.int .i64 0, .int .i64 0] := (br).on hb
  have hbz := hb.size
  have HB2 := Lib.hid ((HB1.out).trans (hb.mono (by first | exact Nat.le_refl _ | omega | (simp; done) | (simp; omega))))
  have hz2 : w.heap.size ≤ w2.heap.size := HB2.out.size
  clear hb hbz
  rw [H2.out]
  have q_ba0 : w2.cell? ⟨w.heap.size, 0, none⟩ = some (.int .i64 a1) := ba.cell 0
  have q_ba1 : w2.cell? ⟨w.heap.size, 1, none⟩ = some (.int .i64 a2) := ba.cell 1
  have q_bb0 : w2.cell? ⟨w.heap.size + 1, 0, none⟩ = some (.int .i64 b1) := bb.cell 0
  have q_bb1 : w2.cell? ⟨w.heap.size + 1, 1, none⟩ = some (.int .i64 b2) := bb.cell 1
  have q_br0 : w2.cell? ⟨w.heap.size + 2, 0, none⟩ = some (.int .i64 0) := br.cell 0
  have q_br1 : w2.cell? ⟨w.heap.size + 2, 1, none⟩ = some (.int .i64 0) := br.cell 1
  have f_br0 : w2.frozen? ⟨w.heap.size + 2, 0, none⟩ = false := br.frozen 0
  have f_br1 : w2.frozen? ⟨w.heap.size + 2, 1, none⟩ = false := br.frozen 1
  go_wp2_with fail
  refine (rreduced_any (a1 * b2 + b1 * a2) (a2 * b2) _ (by omega) (by omega) (by omega) (by omega) (by omega)).mono ?_
  rintro e w3 ⟨rfl, hb⟩
  clear ba
  clear bb
  clear q_ba0 q_ba1 q_bb0 q_bb1 q_br0 q_br1 f_br0 f_br1
  have br : Blk w3 (w.heap.size + 2) 23 #[.int .i64 0, .int .i64 0] := (br).on hb
  have hbz := hb.size
  have HB3 := Lib.hid ((HB2.out).trans (hb.mono (by first | exact Nat.le_refl _ | omega | (simp; done) | (simp; omega))))
  have hz3 : w.heap.size ≤ w3.heap.size := HB3.out.size
  clear hb hbz
  generalize ofI (a1 * b2 + b1 * a2) (a2 * b2) = R at *
  obtain ⟨⟨x, y⟩, er⟩ := R
  simp only [tupR, agg2]
  have q_br0 : w3.cell? ⟨w.heap.size + 2, 0, none⟩ = some (.int .i64 0) := br.cell 0
  have q_br1 : w3.cell? ⟨w.heap.size + 2, 1, none⟩ = some (.int .i64 0) := br.cell 1
  have f_br0 : w3.frozen? ⟨w.heap.size + 2, 0, none⟩ = false := br.frozen 0
  have f_br1 : w3.frozen? ⟨w.heap.size + 2, 1, none⟩ = false := br.frozen 1
  go_wp2_with fail
  exact bodyPost_ret (v := .tuple #[.agg #[.int .i64 x, .int .i64 y], .int .i64 er]) (by simp [results, Tryd.results34, go_sem, q_br0, q_br1]) rfl ⟨ret_tupR HD.out, below_set2 (HB3.out) (by first | exact Nat.le_refl _ | omega | (simp; done) | (simp; omega)) _ _⟩
set_option maxHeartbeats 1000000 in
theorem qrSub_any (a1 a2 b1 b2 : Int) (w : World) :
    Calls Tryd.prog 35 #[.agg #[.int .i64 a1, .int .i64 a2], .agg #[.int .i64 b1, .int .i64 b2]] w fun e w' => e = .returned (tupR (subR a1 a2 b1 b2)) ∧ Below w.heap.size w w' := by
  unfold subR
  cases h1 : vR a1 a2
  · have HD := Lib.hid (val_no1 (b1 := b1) (b2 := b2) (n := a1 * b2 - b1 * a2) (d := a2 * b2) h1)
    have H1 := Lib.hid h1
    clear h1
    go_enter Tryd.func35, Tryd.ntmps35
    go_wp2_with fail
    refine (qrValid_any _ _ _).mono ?_
    rintro e w1 ⟨rfl, hb⟩
    have ba : Blk w1 (w.heap.size) 23 #[.int .i64 a1, .int .i64 a2] := (((Blk.new _ _ _).alloc _).alloc _).on hb
    have bb : Blk w1 (w.heap.size + 1) 23 #[.int .i64 b1, .int .i64 b2] := ((Blk.new1 _ _ _ _).alloc _).on hb
    have br : Blk w1 (w.heap.size + 2) 23 #[.int .i64 0, .int .i64 0] := (Blk.new2 _ _ _ _ _).on hb
    have hbz := hb.size
    have HB1 := Lib.hid (((((Below.refl w.heap.size w).alloc (by first | exact Nat.le_refl _ | omega | (simp; done) | (simp; omega)) _).alloc (by first | exact Nat.le_refl _ | omega | (simp; done) | (simp; omega)) _).alloc (by first | exact Nat.le_refl _ | omega | (simp; done) | (simp; omega)) _).trans (hb.mono (by first | exact Nat.le_refl _ | omega | (simp; done) | (simp; omega))))
    have hz1 : w.heap.size ≤ w1.heap.size := HB1.out.size
    clear hb hbz
    rw [H1.out]
    have q_br0 : w1.cell? ⟨w.heap.size + 2, 0, none⟩ = some (.int .i64 0) := br.cell 0
    have q_br1 : w1.cell? ⟨w.heap.size + 2, 1, none⟩ = some (.int .i64 0) := br.cell 1
    have f_br0 : w1.frozen? ⟨w.heap.size + 2, 0, none⟩ = false := br.frozen 0
    have f_br1 : w1.frozen? ⟨w.heap.size + 2, 1, none⟩ = false := br.frozen 1
    go_wp2_with fail
    exact bodyPost_ret (v := .tuple #[.agg #[.int .i64 0, .int .i64 0], .int .i64 2]) (by simp [results, Tryd.results35, go_sem, q_br0, q_br1]) rfl ⟨ret_tupR HD.out, below_set2 (HB1.out) (by first | exact Nat.le_refl _ | omega | (simp; done) | (simp; omega)) _ _⟩
  cases h2 : vR b1 b2
  · have HD := Lib.hid (val_no2 (a1 := a1) (a2 := a2) (n := a1 * b2 - b1 * a2) (d := a2 * b2) h2)
    have H1 := Lib.hid h1
    have H2 := Lib.hid h2
    clear h1 h2
    go_enter Tryd.func35, Tryd.ntmps35
    go_wp2_with fail
    refine (qrValid_any _ _ _).mono ?_
    rintro e w1 ⟨rfl, hb⟩
    have ba : Blk w1 (w.heap.size) 23 #[.int .i64 a1, .int .i64 a2] := (((Blk.new _ _ _).alloc _).alloc _).on hb
    have bb : Blk w1 (w.heap.size + 1) 23 #[.int .i64 b1, .int .i64 b2] := ((Blk.new1 _ _ _ _).alloc _).on hb
    have br : Blk w1 (w.heap.size + 2) 23 #[.int .i64 0, .int .i64 0] := (Blk.new2 _ _ _ _ _).on hb
    have hbz := hb.size
    have HB1 := Lib.hid (((((Below.refl w.heap.size w).alloc (by first | exact Nat.le_refl _ | omega | (simp; done) | (simp; omega)) _).alloc (by first | exact Nat.le_refl _ | omega | (simp; done) | (simp; omega)) _).alloc (by first | exact Nat.le_refl _ | omega | (simp; done) | (simp; omega)) _).trans (hb.mono (by first | exact Nat.le_refl _ | omega | (simp; done) | (simp; omega))))
    have hz1 : w.heap.size ≤ w1.heap.size := HB1.out.size
    clear hb hbz
    rw [H1.out]
    have q_bb0 : w1.cell? ⟨w.heap.size + 1, 0, none⟩ = some (.int .i64 b1) := bb.cell 0
    have q_bb1 : w1.cell? ⟨w.heap.size + 1, 1, none⟩ = some (.int .i64 b2) := bb.cell 1
    go_wp2_with fail
    refine (qrValid_any _ _ _).mono ?_
    rintro e w2 ⟨rfl, hb⟩
    clear q_bb0 q_bb1
    have ba : Blk w2 (w.heap.size) 23 #[.int .i64 a1, .int .i64 a2] := (ba).on hb
    have bb : Blk w2 (w.heap.size + 1) 23 #[.int .i64 b1, .int .i64 b2] := (bb).on hb
    have br : Blk w2 (w.heap.size + 2) 23 #[.int .i64 0, .int .i64 0] := (br).on hb
    have hbz := hb.size
    have HB2 := Lib.hid ((HB1.out).trans (hb.mono (by first | exact Nat.le_refl _ | omega | (simp; done) | (simp; omega))))
    have hz2 : w.heap.size ≤ w2.heap.size := HB2.out.size
    clear hb hbz
    rw [H2.out]
    have q_br0 : w2.cell? ⟨w.heap.size + 2, 0, none⟩ = some (.int .i64 0) := br.cell 0
    have q_br1 : w2.cell? ⟨w.heap.size + 2, 1, none⟩ = some (.int .i64 0) := br.cell 1
    have f_br0 : w2.frozen? ⟨w.heap.size + 2, 0, none⟩ = false := br.frozen 0
    have f_br1 : w2.frozen? ⟨w.heap.size + 2, 1, none⟩ = false := br.frozen 1
    go_wp2_with fail
    exact bodyPost_ret (v := .tuple #[.agg #[.int .i64 0, .int .i64 0], .int .i64 2]) (by simp [results, Tryd.results35, go_sem, q_br0, q_br1]) rfl ⟨ret_tupR HD.out, below_set2 (HB2.out) (by first | exact Nat.le_refl _ | omega | (simp; done) | (simp; omega)) _ _⟩
  have HD := Lib.hid (val_both (n := a1 * b2 - b1 * a2) (d := a2 * b2) h1 h2)
  have ha := vR_bd h1
  have hb := vR_bd h2
  have H1 := Lib.hid h1
  have H2 := Lib.hid h2
  clear h1 h2
  have m1 := bd_nd (x := a1) (y := b2) (by omega) (by omega)
  have m2 := bd_nd (x := b1) (y := a2) (by omega) (by omega)
  have m3 := bd_dd (x := a2) (y := b2) (by omega) (by omega)
  have m4 := bd_nn (x := a1) (y := b1) (by omega) (by omega)
  have m5 : -1000000000000000 ≤ a2 * b1 ∧ a2 * b1 ≤ 1000000000000000 := by rw [Int.mul_comm]; exact m2
  obtain ⟨a21, a22, a11, a12⟩ := ha
  obtain ⟨b21, b22, b11, b12⟩ := hb
  obtain ⟨m11, m12⟩ := m1
  obtain ⟨m21, m22⟩ := m2
  obtain ⟨m31, m32⟩ := m3
  obtain ⟨m41, m42⟩ := m4
  obtain ⟨m51, m52⟩ := m5
  go_enter Tryd.func35, Tryd.ntmps35
  go_wp2_with fail
  refine (qrValid_any _ _ _).mono ?_
  rintro e w1 ⟨rfl, hb⟩
  have ba : Blk w1 (w.heap.size) 23 #[.int .i64 a1, .int .i64 a2] := (((Blk.new _ _ _).alloc _).alloc _).on hb
  have bb : Blk w1 (w.heap.size + 1) 23 #[.int .i64 b1, .int .i64 b2] := ((Blk.new1 _ _ _ _).alloc _).on hb
  have br : Blk w1 (w.heap.size + 2) 23 #[.int .i64 0, .int .i64 0] := (Blk.new2 _ _ _ _ _).on hb
  have hbz := hb.size
  have HB1 := Lib.hid (((((Below.refl w.heap.size w).alloc (by first | exact Nat.le_refl _ | omega | (simp; done) | (simp; omega)) _).alloc (by first | exact Nat.le_refl _ | omega | (simp; done) | (simp; omega)) _).alloc (by first | exact Nat.le_refl _ | omega | (simp; done) | (simp; omega)) _).trans (hb.mono (by first | exact Nat.le_refl _ | omega | (simp; done) | (simp; omega))))
  have hz1 : w.heap.size ≤ w1.heap.size := HB1.out.size
  clear hb hbz
  rw [H1.out]
  have q_bb0 : w1.cell? ⟨w.heap.size + 1, 0, none⟩ = some (.int .i64 b1) := bb.cell 0
  have q_bb1 : w1.cell? ⟨w.heap.size + 1, 1, none⟩ = some (.int .i64 b2) := bb.cell 1
  go_wp2_with fail
  refine (qrValid_any _ _ _).mono ?_
  rintro e w2 ⟨rfl, hb⟩
  clear q_bb0 q_bb1
  have ba : Blk w2 (w.heap.size) 23 #[.int .i64 a1, .int .i64 a2] := (ba).on hb
  have bb : Blk w2 (w.heap.size + 1) 23 #[.int .i64 b1, .int .i64 b2] := (bb).on hb
  have br : Blk w2 (w.heap.size + 2) 23 #[.int .i64 0, .int .i64 0] := (br).on hb
  have hbz := hb.size
  have HB2 := Lib.hid ((HB1.out).trans (hb.mono (by first | exact Nat.le_refl _ | omega | (simp; done) | (simp; omega))))
  have hz2 : w.heap.size ≤ w2.heap.size := HB2.out.size
  clear hb hbz
  rw [H2.out]
  have q_ba0 : w2.cell? ⟨w.heap.size, 0, none⟩ = some (.int .i64 a1) := ba.cell 0
  have q_ba1 : w2.cell? ⟨w.heap.size, 1, none⟩ = some (.int .i64 a2) := ba.cell 1
  have q_bb0 : w2.cell? ⟨w.heap.size + 1, 0, none⟩ = some (.int .i64 b1) := bb.cell 0
  have q_bb1 : w2.cell? ⟨w.heap.size + 1, 1, none⟩ = some (.int .i64 b2) := bb.cell 1
  have q_br0 : w2.cell? ⟨w.heap.size + 2, 0, none⟩ = some (.int .i64 0) := br.cell 0
  have q_br1 : w2.cell? ⟨w.heap.size + 2, 1, none⟩ = some (.int .i64 0) := br.cell 1
  have f_br0 : w2.frozen? ⟨w.heap.size + 2, 0, none⟩ = false := br.frozen 0
  have f_br1 : w2.frozen? ⟨w.heap.size + 2, 1, none⟩ = false := br.frozen 1
  go_wp2_with fail
  refine (rreduced_any (a1 * b2 - b1 * a2) (a2 * b2) _ (by omega) (by omega) (by omega) (by omega) (by omega)).mono ?_
  rintro e w3 ⟨rfl, hb⟩
  clear ba
  clear bb
  clear q_ba0 q_ba1 q_bb0 q_bb1 q_br0 q_br1 f_br0 f_br1
  have br : Blk w3 (w.heap.size + 2) 23 #[.int .i64 0, .int .i64 0] := (br).on hb
  have hbz := hb.size
  have HB3 := Lib.hid ((HB2.out).trans (hb.mono (by first | exact Nat.le_refl _ | omega | (simp; done) | (simp; omega))))
  have hz3 : w.heap.size ≤ w3.heap.size := HB3.out.size
  clear hb hbz
  generalize ofI (a1 * b2 - b1 * a2) (a2 * b2) = R at *
  obtain ⟨⟨x, y⟩, er⟩ := R
  simp only [tupR, agg2]
  have q_br0 : w3.cell? ⟨w.heap.size + 2, 0, none⟩ = some (.int .i64 0) := br.cell 0
  have q_br1 : w3.cell? ⟨w.heap.size + 2, 1, none⟩ = some (.int .i64 0) := br.cell 1
  have f_br0 : w3.frozen? ⟨w.heap.size + 2, 0, none⟩ = false := br.frozen 0
  have f_br1 : w3.frozen? ⟨w.heap.size + 2, 1, none⟩ = false := br.frozen 1
  go_wp2_with fail
  exact bodyPost_ret (v := .tuple #[.agg #[.int .i64 x, .int .i64 y], .int .i64 er]) (by simp [results, Tryd.results35, go_sem, q_br0, q_br1]) rfl ⟨ret_tupR HD.out, below_set2 (HB3.out) (by first | exact Nat.le_refl _ | omega | (simp; done) | (simp; omega)) _ _⟩
set_option maxHeartbeats 1000000 in
theorem qrMul_any (a1 a2 b1 b2 : Int) (w : World) :
    Calls Tryd.prog 37 #[.agg #[.int .i64 a1, .int .i64 a2], .agg #[.int .i64 b1, .int .i64 b2]] w fun e w' => e = .returned (tupR (mulR a1 a2 b1 b2)) ∧ Below w.heap.size w w' := by
  unfold mulR
  cases h1 : vR a1 a2
  · have HD := Lib.hid (val_no1 (b1 := b1) (b2 := b2) (n := a1 * b1) (d := a2 * b2) h1)
    have H1 := Lib.hid h1
    clear h1
    go_enter Tryd.func37, Tryd.ntmps37
    go_wp2_with fail
    refine (qrValid_any _ _ _).mono ?_
    rintro e w1 ⟨rfl, hb⟩
    have ba : Blk w1 (w.heap.size) 23 #[.int .i64 a1, .int .i64 a2] := (((Blk.new _ _ _).alloc _).alloc _).on hb
    have bb : Blk w1 (w.heap.size + 1) 23 #[.int .i64 b1, .int .i64 b2] := ((Blk.new1 _ _ _ _).alloc _).on hb
    have br : Blk w1 (w.heap.size + 2) 23 #[.int .i64 0, .int .i64 0] := (Blk.new2 _ _ _ _ _).on hb
    have hbz := hb.size
    have HB1 := Lib.hid (((((Below.refl w.heap.size w).alloc (by first | exact Nat.le_refl _ | omega | (simp; done) | (simp; omega)) _).alloc (by first | exact Nat.le_refl _ | omega | (simp; done) | (simp; omega)) _).alloc (by first | exact Nat.le_refl _ | omega | (simp; done) | (simp; omega)) _).trans (hb.mono (by first | exact Nat.le_refl _ | omega | (simp; done) | (simp; omega))))
    have hz1 : w.heap.size ≤ w1.heap.size := HB1.out.size
    clear hb hbz
    rw [H1.out]
    have q_br0 : w1.cell? ⟨w.heap.size + 2, 0, none⟩ = some (.int .i64 0) := br.cell 0
    have q_br1 : w1.cell? ⟨w.heap.size + 2, 1, none⟩ = some (.int .i64 0) := br.cell 1
    have f_br0 : w1.frozen? ⟨w.heap.size + 2, 0, none⟩ = false := br.frozen 0
    have f_br1 : w1.frozen? ⟨w.heap.size + 2, 1, none⟩ = false := br.frozen 1
    go_wp2_with fail
    exact bodyPost_ret (v := .tuple #[.agg #[.int .i64 0, .int .i64 0], .int .i64 2]) (by simp [results, Tryd.results37, go_sem, q_br0, q_br1]) rfl ⟨ret_tupR HD.out, below_set2 (HB1.out) (by first | exact Nat.le_refl _ | omega | (simp; done) | (simp; omega)) _ _⟩
  cases h2 : vR b1 b2
  · have HD := Lib.hid (val_no2 (a1 := a1) (a2 := a2) (n := a1 * b1) (d := a2 * b2) h2)
    have H1 := Lib.hid h1
    have H2 := Lib.hid h2
    clear h1 h2
    go_enter Tryd.func37, Tryd.ntmps37
    go_wp2_with fail
    refine (qrValid_any _ _ _).mono ?_
    rintro e w1 ⟨rfl, hb⟩
    have ba : Blk w1 (w.heap.size) 23 #[.int .i64 a1, .int .i64 a2] := (((Blk.new _ _ _).alloc _).alloc _).on hb
    have bb : Blk w1 (w.heap.size + 1) 23 #[.int .i64 b1, .int .i64 b2] := ((Blk.new1 _ _ _ _).alloc _).on hb
    have br : Blk w1 (w.heap.size + 2) 23 #[.int .i64 0, .int .i64 0] := (Blk.new2 _ _ _ _ _).on hb
    have hbz := hb.size
    have HB1 := Lib.hid (((((Below.refl w.heap.size w).alloc (by first | exact Nat.le_refl _ | omega | (simp; done) | (simp; omega)) _).alloc (by first | exact Nat.le_refl _ | omega | (simp; done) | (simp; omega)) _).alloc (by first | exact Nat.le_refl _ | omega | (simp; done) | (simp; omega)) _).trans (hb.mono (by first | exact Nat.le_refl _ | omega | (simp; done) | (simp; omega))))
    have hz1 : w.heap.size ≤ w1.heap.size := HB1.out.size
    clear hb hbz
    rw [H1.out]
    have q_bb0 : w1.cell? ⟨w.heap.size + 1, 0, none⟩ = some (.int .i64 b1) := bb.cell 0
    have q_bb1 : w1.cell? ⟨w.heap.size + 1, 1, none⟩ = some (.int .i64 b2) := bb.cell 1
    go_wp2_with fail
    refine (qrValid_any _ _ _).mono ?_
    rintro e w2 ⟨rfl, hb⟩
    clear q_bb0 q_bb1
    have ba : Blk w2 (w.heap.size) 23 #[.int .i64 a1, .int .i64 a2] := (ba).on hb
    have bb : Blk w2 (w.heap.size + 1) 23 #[.int .i64 b1, .int .i64 b2] := (bb).on hb
    have br : Blk w2 (w.heap.size + 2) 23 #[.int .i64 0, .int .i64 0] := (br).on hb
    have hbz := hb.size
    have HB2 := Lib.hid ((HB1.out).trans (hb.mono (by first | exact Nat.le_refl _ | omega | (simp; done) | (simp; omega))))
    have hz2 : w.heap.size ≤ w2.heap.size := HB2.out.size
    clear hb hbz
    rw [H2.out]
    have q_br0 : w2.cell? ⟨w.heap.size + 2, 0, none⟩ = some (.int .i64 0) := br.cell 0
    have q_br1 : w2.cell? ⟨w.heap.size + 2, 1, none⟩ = some (.int .i64 0) := br.cell 1
    have f_br0 : w2.frozen? ⟨w.heap.size + 2, 0, none⟩ = false := br.frozen 0
    have f_br1 : w2.frozen? ⟨w.heap.size + 2, 1, none⟩ = false := br.frozen 1
    go_wp2_with fail
    exact bodyPost_ret (v := .tuple #[.agg #[.int .i64 0, .int .i64 0], .int .i64 2]) (by simp [results, Tryd.results37, go_sem, q_br0, q_br1]) rfl ⟨ret_tupR HD.out, below_set2 (HB2.out) (by first | exact Nat.le_refl _ | omega | (simp; done) | (simp; omega)) _ _⟩
  have HD := Lib.hid (val_both (n := a1 * b1) (d := a2 * b2) h1 h2)
  have ha := vR_bd h1
  have hb := vR_bd h2
  have H1 := Lib.hid h1
  have H2 := Lib.hid h2
  clear h1 h2
  have m1 := bd_nd (x := a1) (y := b2) (by omega) (by omega)
  have m2 := bd_nd (x := b1) (y := a2) (by omega) (by omega)
  have m3 := bd_dd (x := a2) (y := b2) (by omega) (by omega)
  have m4 := bd_nn (x := a1) (y := b1) (by omega) (by omega)
  have m5 : -1000000000000000 ≤ a2 * b1 ∧ a2 * b1 ≤ 1000000000000000 := by rw [Int.mul_comm]; exact m2
  obtain ⟨a21, a22, a11, a12⟩ := ha
  obtain ⟨b21, b22, b11, b12⟩ := hb
  obtain ⟨m11, m12⟩ := m1
  obtain ⟨m21, m22⟩ := m2
  obtain ⟨m31, m32⟩ := m3
  obtain ⟨m41, m42⟩ := m4
  obtain ⟨m51, m52⟩ := m5
  go_enter Tryd.func37, Tryd.ntmps37
  go_wp2_with fail
  refine (qrValid_any _ _ _).mono ?_
  rintro e w1 ⟨rfl, hb⟩
  have ba : Blk w1 (w.heap.size) 23 #[.int .i64 a1, .int .i64 a2] := (((Blk.new _ _ _).alloc _).alloc _).on hb
  have bb : Blk w1 (w.heap.size + 1) 23 #[.int .i64 b1, .int .i64 b2] := ((Blk.new1 _ _ _ _).alloc _).on hb
  have br : Blk w1 (w.heap.size + 2) 23 #[.int .i64 0, .int .i64 0] := (Blk.new2 _ _ _ _ _).on hb
  have hbz := hb.size
  have HB1 := Lib.hid (((((Below.refl w.heap.size w).alloc (by first | exact Nat.le_refl _ | omega | (simp; done) | (simp; omega)) _).alloc (by first | exact Nat.le_refl _ | omega | (simp; done) | (simp; omega)) _).alloc (by first | exact Nat.le_refl _ | omega | (simp; done) | (simp; omega)) _).trans (hb.mono (by first | exact Nat.le_refl _ | omega | (simp; done) | (simp; omega))))
  have hz1 : w.heap.size ≤ w1.heap.size := HB1.out.size
  clear hb hbz
  rw [H1.out]
  have q_bb0 : w1.cell? ⟨w.heap.size + 1, 0, none⟩ = some (.int .i64 b1) := bb.cell 0
  have q_bb1 : w1.cell? ⟨w.heap.size + 1, 1, none⟩ = some (.int .i64 b2) := bb.cell 1
  go_wp2_with fail
  refine (qrValid_any _ _ _).mono ?_
  rintro e w2 ⟨rfl, hb⟩
  clear q_bb0 q_bb1
  have ba : Blk w2 (w.heap.size) 23 #[.int .i64 a1, .int .i64 a2] := (ba).on hb
  have bb : Blk w2 (w.heap.size + 1) 23 #[.int .i64 b1, .int .i64 b2] := (bb).on hb
  have br : Blk w2 (w.heap.size + 2) 23 #[.int .i64 0, .int .i64 0] := (br).on hb
  have hbz := hb.size
  have HB2 := Lib.hid ((HB1.out).trans (hb.mono (by first | exact Nat.le_refl _ | omega | (simp; done) | (simp; omega))))
  have hz2 : w.heap.size ≤ w2.heap.size := HB2.out.size
  clear hb hbz
  rw [H2.out]
  have q_ba0 : w2.cell? ⟨w.heap.size, 0, none⟩ = some (.int .i64 a1) := ba.cell 0
  have q_ba1 : w2.cell? ⟨w.heap.size, 1, none⟩ = some (.int .i64 a2) := ba.cell 1
  have q_bb0 : w2.cell? ⟨w.heap.size + 1, 0, none⟩ = some (.int .i64 b1) := bb.cell 0
  have q_bb1 : w2.cell? ⟨w.heap.size + 1, 1, none⟩ = some (.int .i64 b2) := bb.cell 1
  have q_br0 : w2.cell? ⟨w.heap.size + 2, 0, none⟩ = some (.int .i64 0) := br.cell 0
  have q_br1 : w2.cell? ⟨w.heap.size + 2, 1, none⟩ = some (.int .i64 0) := br.cell 1
  have f_br0 : w2.frozen? ⟨w.heap.size + 2, 0, none⟩ = false := br.frozen 0
  have f_br1 : w2.frozen? ⟨w.heap.size + 2, 1, none⟩ = false := br.frozen 1
  go_wp2_with fail
  refine (rreduced_any (a1 * b1) (a2 * b2) _ (by omega) (by omega) (by omega) (by omega) (by omega)).mono ?_
  rintro e w3 ⟨rfl, hb⟩
  clear ba
  clear bb
  clear q_ba0 q_ba1 q_bb0 q_bb1 q_br0 q_br1 f_br0 f_br1
  have br : Blk w3 (w.heap.size + 2) 23 #[.int .i64 0, .int .i64 0] := (br).on hb
  have hbz := hb.size
  have HB3 := Lib.hid ((HB2.out).trans (hb.mono (by first | exact Nat.le_refl _ | omega | (simp; done) | (simp; omega))))
  have hz3 : w.heap.size ≤ w3.heap.size := HB3.out.size
  clear hb hbz
  generalize ofI (a1 * b1) (a2 * b2) = R at *
  obtain ⟨⟨x, y⟩, er⟩ := R
  simp only [tupR, agg2]
  have q_br0 : w3.cell? ⟨w.heap.size + 2, 0, none⟩ = some (.int .i64 0) := br.cell 0
  have q_br1 : w3.cell? ⟨w.heap.size + 2, 1, none⟩ = some (.int .i64 0) := br.cell 1
  have f_br0 : w3.frozen? ⟨w.heap.size + 2, 0, none⟩ = false := br.frozen 0
  have f_br1 : w3.frozen? ⟨w.heap.size + 2, 1, none⟩ = false := br.frozen 1
  go_wp2_with fail
  exact bodyPost_ret (v := .tuple #[.agg #[.int .i64 x, .int .i64 y], .int .i64 er]) (by simp [results, Tryd.results37, go_sem, q_br0, q_br1]) rfl ⟨ret_tupR HD.out, below_set2 (HB3.out) (by first | exact Nat.le_refl _ | omega | (simp; done) | (simp; omega)) _ _⟩
set_option maxHeartbeats 1000000 in
theorem qrDiv_any (a1 a2 b1 b2 : Int) (w : World) :
    Calls Tryd.prog 39 #[.agg #[.int .i64 a1, .int .i64 a2], .agg #[.int .i64 b1, .int .i64 b2]] w fun e w' => e = .returned (tupR (divR a1 a2 b1 b2)) ∧ Below w.heap.size w w' := by
  unfold divR
  cases h1 : vR a1 a2
  · have HD := Lib.hid (val_no1 (b1 := b1) (b2 := b2) (n := a1 * b2) (d := a2 * b1) h1)
    have H1 := Lib.hid h1
    clear h1
    go_enter Tryd.func39, Tryd.ntmps39
    go_wp2_with fail
    refine (qrValid_any _ _ _).mono ?_
    rintro e w1 ⟨rfl, hb⟩
    have ba : Blk w1 (w.heap.size) 23 #[.int .i64 a1, .int .i64 a2] := (((Blk.new _ _ _).alloc _).alloc _).on hb
    have bb : Blk w1 (w.heap.size + 1) 23 #[.int .i64 b1, .int .i64 b2] := ((Blk.new1 _ _ _ _).alloc _).on hb
    have br : Blk w1 (w.heap.size + 2) 23 #[.int .i64 0, .int .i64 0] := (Blk.new2 _ _ _ _ _).on hb
    have hbz := hb.size
    have HB1 := Lib.hid (((((Below.refl w.heap.size w).alloc (by first | exact Nat.le_refl _ | omega | (simp; done) | (simp; omega)) _).alloc (by first | exact Nat.le_refl _ | omega | (simp; done) | (simp; omega)) _).alloc (by first | exact Nat.le_refl _ | omega | (simp; done) | (simp; omega)) _).trans (hb.mono (by first | exact Nat.le_refl _ | omega | (simp; done) | (simp; omega))))
    have hz1 : w.heap.size ≤ w1.heap.size := HB1.out.size
    clear hb hbz
    rw [H1.out]
    have q_br0 : w1.cell? ⟨w.heap.size + 2, 0, none⟩ = some (.int .i64 0) := br.cell 0
    have q_br1 : w1.cell? ⟨w.heap.size + 2, 1, none⟩ = some (.int .i64 0) := br.cell 1
    have f_br0 : w1.frozen? ⟨w.heap.size + 2, 0, none⟩ = false := br.frozen 0
    have f_br1 : w1.frozen? ⟨w.heap.size + 2, 1, none⟩ = false := br.frozen 1
    go_wp2_with fail
    exact bodyPost_ret (v := .tuple #[.agg #[.int .i64 0, .int .i64 0], .int .i64 2]) (by simp [results, Tryd.results39, go_sem, q_br0, q_br1]) rfl ⟨ret_tupR HD.out, below_set2 (HB1.out) (by first | exact Nat.le_refl _ | omega | (simp; done) | (simp; omega)) _ _⟩
  cases h2 : vR b1 b2
  · have HD := Lib.hid (val_no2 (a1 := a1) (a2 := a2) (n := a1 * b2) (d := a2 * b1) h2)
    have H1 := Lib.hid h1
    have H2 := Lib.hid h2
    clear h1 h2
    go_enter Tryd.func39, Tryd.ntmps39
    go_wp2_with fail
    refine (qrValid_any _ _ _).mono ?_
    rintro e w1 ⟨rfl, hb⟩
    have ba : Blk w1 (w.heap.size) 23 #[.int .i64 a1, .int .i64 a2] := (((Blk.new _ _ _).alloc _).alloc _).on hb
    have bb : Blk w1 (w.heap.size + 1) 23 #[.int .i64 b1, .int .i64 b2] := ((Blk.new1 _ _ _ _).alloc _).on hb
    have br : Blk w1 (w.heap.size + 2) 23 #[.int .i64 0, .int .i64 0] := (Blk.new2 _ _ _ _ _).on hb
    have hbz := hb.size
    have HB1 := Lib.hid (((((Below.refl w.heap.size w).alloc (by first | exact Nat.le_refl _ | omega | (simp; done) | (simp; omega)) _).alloc (by first | exact Nat.le_refl _ | omega | (simp; done) | (simp; omega)) _).alloc (by first | exact Nat.le_refl _ | omega | (simp; done) | (simp; omega)) _).trans (hb.mono (by first | exact Nat.le_refl _ | omega | (simp; done) | (simp; omega))))
    have hz1 : w.heap.size ≤ w1.heap.size := HB1.out.size
    clear hb hbz
    rw [H1.out]
    have q_bb0 : w1.cell? ⟨w.heap.size + 1, 0, none⟩ = some (.int .i64 b1) := bb.cell 0
    have q_bb1 : w1.cell? ⟨w.heap.size + 1, 1, none⟩ = some (.int .i64 b2) := bb.cell 1
    go_wp2_with fail
    refine (qrValid_any _ _ _).mono ?_
    rintro e w2 ⟨rfl, hb⟩
    clear q_bb0 q_bb1
    have ba : Blk w2 (w.heap.size) 23 #[.int .i64 a1, .int .i64 a2] := (ba).on hb
    have bb : Blk w2 (w.heap.size + 1) 23 #[.int .i64 b1, .int .i64 b2] := (bb).on hb
    have br : Blk w2 (w.heap.size + 2) 23 #[.int .i64 0, .int .i64 0] := (br).on hb
    have hbz := hb.size
    have HB2 := Lib.hid ((HB1.out).trans (hb.mono (by first | exact Nat.le_refl _ | omega | (simp; done) | (simp; omega))))
    have hz2 : w.heap.size ≤ w2.heap.size := HB2.out.size
    clear hb hbz
    rw [H2.out]
    have q_br0 : w2.cell? ⟨w.heap.size + 2, 0, none⟩ = some (.int .i64 0) := br.cell 0
    have q_br1 : w2.cell? ⟨w.heap.size + 2, 1, none⟩ = some (.int .i64 0) := br.cell 1
    have f_br0 : w2.frozen? ⟨w.heap.size + 2, 0, none⟩ = false := br.frozen 0
    have f_br1 : w2.frozen? ⟨w.heap.size + 2, 1, none⟩ = false := br.frozen 1
    go_wp2_with fail
    exact bodyPost_ret (v := .tuple #[.agg #[.int .i64 0, .int .i64 0], .int .i64 2]) (by simp [results, Tryd.results39, go_sem, q_br0, q_br1]) rfl ⟨ret_tupR HD.out, below_set2 (HB2.out) (by first | exact Nat.le_refl _ | omega | (simp; done) | (simp; omega)) _ _⟩
  have HD := Lib.hid (val_both (n := a1 * b2) (d := a2 * b1) h1 h2)
  have ha := vR_bd h1
  have hb := vR_bd h2
  have H1 := Lib.hid h1
  have H2 := Lib.hid h2
  clear h1 h2
  have m1 := bd_nd (x := a1) (y := b2) (by omega) (by omega)
  have m2 := bd_nd (x := b1) (y := a2) (by omega) (by omega)
  have m3 := bd_dd (x := a2) (y := b2) (by omega) (by omega)
  have m4 := bd_nn (x := a1) (y := b1) (by omega) (by omega)
  have m5 : -1000000000000000 ≤ a2 * b1 ∧ a2 * b1 ≤ 1000000000000000 := by rw [Int.mul_comm]; exact m2
  obtain ⟨a21, a22, a11, a12⟩ := ha
  obtain ⟨b21, b22, b11, b12⟩ := hb
  obtain ⟨m11, m12⟩ := m1
  obtain ⟨m21, m22⟩ := m2
  obtain ⟨m31, m32⟩ := m3
  obtain ⟨m41, m42⟩ := m4
  obtain ⟨m51, m52⟩ := m5
  by_cases h0 : b1 = 0
  · subst h0
    rw [Int.mul_zero, ofI_zero] at HD
    go_enter Tryd.func39, Tryd.ntmps39
    go_wp2_with fail
    refine (qrValid_any _ _ _).mono ?_
    rintro e w1 ⟨rfl, hb⟩
    have ba : Blk w1 (w.heap.size) 23 #[.int .i64 a1, .int .i64 a2] := (((Blk.new _ _ _).alloc _).alloc _).on hb
    have bb : Blk w1 (w.heap.size + 1) 23 #[.int .i64 0, .int .i64 b2] := ((Blk.new1 _ _ _ _).alloc _).on hb
    have br : Blk w1 (w.heap.size + 2) 23 #[.int .i64 0, .int .i64 0] := (Blk.new2 _ _ _ _ _).on hb
    have hbz := hb.size
    have HB1 := Lib.hid (((((Below.refl w.heap.size w).alloc (by first | exact Nat.le_refl _ | omega | (simp; done) | (simp; omega)) _).alloc (by first | exact Nat.le_refl _ | omega | (simp; done) | (simp; omega)) _).alloc (by first | exact Nat.le_refl _ | omega | (simp; done) | (simp; omega)) _).trans (hb.mono (by first | exact Nat.le_refl _ | omega | (simp; done) | (simp; omega))))
    have hz1 : w.heap.size ≤ w1.heap.size := HB1.out.size
    clear hb hbz
    rw [H1.out]
    have q_bb0 : w1.cell? ⟨w.heap.size + 1, 0, none⟩ = some (.int .i64 0) := bb.cell 0
    have q_bb1 : w1.cell? ⟨w.heap.size + 1, 1, none⟩ = some (.int .i64 b2) := bb.cell 1
    go_wp2_with fail
    refine (qrValid_any _ _ _).mono ?_
    rintro e w2 ⟨rfl, hb⟩
    clear q_bb0 q_bb1
    have ba : Blk w2 (w.heap.size) 23 #[.int .i64 a1, .int .i64 a2] := (ba).on hb
    have bb : Blk w2 (w.heap.size + 1) 23 #[.int .i64 0, .int .i64 b2] := (bb).on hb
    have br : Blk w2 (w.heap.size + 2) 23 #[.int .i64 0, .int .i64 0] := (br).on hb
    have hbz := hb.size
    have HB2 := Lib.hid ((HB1.out).trans (hb.mono (by first | exact Nat.le_refl _ | omega | (simp; done) | (simp; omega))))
    have hz2 : w.heap.size ≤ w2.heap.size := HB2.out.size
    clear hb hbz
    rw [H2.out]
    have q_bb0 : w2.cell? ⟨w.heap.size + 1, 0, none⟩ = some (.int .i64 0) := bb.cell 0
    have q_bb1 : w2.cell? ⟨w.heap.size + 1, 1, none⟩ = some (.int .i64 b2) := bb.cell 1
    have q_br0 : w2.cell? ⟨w.heap.size + 2, 0, none⟩ = some (.int .i64 0) := br.cell 0
    have q_br1 : w2.cell? ⟨w.heap.size + 2, 1, none⟩ = some (.int .i64 0) := br.cell 1
    have f_br0 : w2.frozen? ⟨w.heap.size + 2, 0, none⟩ = false := br.frozen 0
    have f_br1 : w2.frozen? ⟨w.heap.size + 2, 1, none⟩ = false := br.frozen 1
    go_wp2_with fail
    exact bodyPost_ret (v := .tuple #[.agg #[.int .i64 0, .int .i64 0], .int .i64 9]) (by simp [results, Tryd.results39, go_sem, q_br0, q_br1]) rfl ⟨ret_tupR (by rw [Int.mul_zero]; exact HD.out), below_set2 (HB2.out) (by first | exact Nat.le_refl _ | omega | (simp; done) | (simp; omega)) _ _⟩
  · have h0b : (b1 == 0) = false := beq_eq_false_iff_ne.2 h0
    have hne : a2 * b1 ≠ 0 := by rw [Ne, Int.mul_eq_zero]; omega
    go_enter Tryd.func39, Tryd.ntmps39
    go_wp2_with fail
    refine (qrValid_any _ _ _).mono ?_
    rintro e w1 ⟨rfl, hb⟩
    have ba : Blk w1 (w.heap.size) 23 #[.int .i64 a1, .int .i64 a2] := (((Blk.new _ _ _).alloc _).alloc _).on hb
    have bb : Blk w1 (w.heap.size + 1) 23 #[.int .i64 b1, .int .i64 b2] := ((Blk.new1 _ _ _ _).alloc _).on hb
    have br : Blk w1 (w.heap.size + 2) 23 #[.int .i64 0, .int .i64 0] := (Blk.new2 _ _ _ _ _).on hb
    have hbz := hb.size
    have HB1 := Lib.hid (((((Below.refl w.heap.size w).alloc (by first | exact Nat.le_refl _ | omega | (simp; done) | (simp; omega)) _).alloc (by first | exact Nat.le_refl _ | omega | (simp; done) | (simp; omega)) _).alloc (by first | exact Nat.le_refl _ | omega | (simp; done) | (simp; omega)) _).trans (hb.mono (by first | exact Nat.le_refl _ | omega | (simp; done) | (simp; omega))))
    have hz1 : w.heap.size ≤ w1.heap.size := HB1.out.size
    clear hb hbz
    rw [H1.out]
    have q_bb0 : w1.cell? ⟨w.heap.size + 1, 0, none⟩ = some (.int .i64 b1) := bb.cell 0
    have q_bb1 : w1.cell? ⟨w.heap.size + 1, 1, none⟩ = some (.int .i64 b2) := bb.cell 1
    go_wp2_with fail
    refine (qrValid_any _ _ _).mono ?_
    rintro e w2 ⟨rfl, hb⟩
    clear q_bb0 q_bb1
    have ba : Blk w2 (w.heap.size) 23 #[.int .i64 a1, .int .i64 a2] := (ba).on hb
    have bb : Blk w2 (w.heap.size + 1) 23 #[.int .i64 b1, .int .i64 b2] := (bb).on hb
    have br : Blk w2 (w.heap.size + 2) 23 #[.int .i64 0, .int .i64 0] := (br).on hb
    have hbz := hb.size
    have HB2 := Lib.hid ((HB1.out).trans (hb.mono (by first | exact Nat.le_refl _ | omega | (simp; done) | (simp; omega))))
    have hz2 : w.heap.size ≤ w2.heap.size := HB2.out.size
    clear hb hbz
    rw [H2.out]
    have q_ba0 : w2.cell? ⟨w.heap.size, 0, none⟩ = some (.int .i64 a1) := ba.cell 0
    have q_ba1 : w2.cell? ⟨w.heap.size, 1, none⟩ = some (.int .i64 a2) := ba.cell 1
    have q_bb0 : w2.cell? ⟨w.heap.size + 1, 0, none⟩ = some (.int .i64 b1) := bb.cell 0
    have q_bb1 : w2.cell? ⟨w.heap.size + 1, 1, none⟩ = some (.int .i64 b2) := bb.cell 1
    have q_br0 : w2.cell? ⟨w.heap.size + 2, 0, none⟩ = some (.int .i64 0) := br.cell 0
    have q_br1 : w2.cell? ⟨w.heap.size + 2, 1, none⟩ = some (.int .i64 0) := br.cell 1
    have f_br0 : w2.frozen? ⟨w.heap.size + 2, 0, none⟩ = false := br.frozen 0
    have f_br1 : w2.frozen? ⟨w.heap.size + 2, 1, none⟩ = false := br.frozen 1
    go_wp2_with fail
    refine (rreduced_any (a1 * b2) (a2 * b1) _ (by omega) (by omega) (by omega) (by omega) hne).mono ?_
    rintro e w3 ⟨rfl, hb⟩
    clear ba
    clear bb
    clear q_ba0 q_ba1 q_bb0 q_bb1 q_br0 q_br1 f_br0 f_br1
    have br : Blk w3 (w.heap.size + 2) 23 #[.int .i64 0, .int .i64 0] := (br).on hb
    have hbz := hb.size
    have HB3 := Lib.hid ((HB2.out).trans (hb.mono (by first | exact Nat.le_refl _ | omega | (simp; done) | (simp; omega))))
    have hz3 : w.heap.size ≤ w3.heap.size := HB3.out.size
    clear hb hbz
    generalize ofI (a1 * b2) (a2 * b1) = R at *
    obtain ⟨⟨x, y⟩, er⟩ := R
    simp only [tupR, agg2]
    have q_br0 : w3.cell? ⟨w.heap.size + 2, 0, none⟩ = some (.int .i64 0) := br.cell 0
    have q_br1 : w3.cell? ⟨w.heap.size + 2, 1, none⟩ = some (.int .i64 0) := br.cell 1
    have f_br0 : w3.frozen? ⟨w.heap.size + 2, 0, none⟩ = false := br.frozen 0
    have f_br1 : w3.frozen? ⟨w.heap.size + 2, 1, none⟩ = false := br.frozen 1
    go_wp2_with fail
    exact bodyPost_ret (v := .tuple #[.agg #[.int .i64 x, .int .i64 y], .int .i64 er]) (by simp [results, Tryd.results39, go_sem, q_br0, q_br1]) rfl ⟨ret_tupR HD.out, below_set2 (HB3.out) (by first | exact Nat.le_refl _ | omega | (simp; done) | (simp; omega)) _ _⟩
theorem cm_no {a1 a2 b1 b2 : Int} (h : (vR a1 a2 && vR b1 b2) = false) : cmR a1 a2 b1 b2 = 0 := by unfold cmR; rw [h]; rfl
theorem cm_lt {a1 a2 b1 b2 : Int} (ha : vR a1 a2 = true) (hb : vR b1 b2 = true) (h : a1 * b2 < b1 * a2) : cmR a1 a2 b1 b2 = -1 := by rw [cm_of ha hb]; unfold sg; rw [if_pos (by omega)]
theorem cm_gt {a1 a2 b1 b2 : Int} (ha : vR a1 a2 = true) (hb : vR b1 b2 = true) (h : b1 * a2 < a1 * b2) : cmR a1 a2 b1 b2 = 1 := by rw [cm_of ha hb]; unfold sg; rw [if_neg (by omega), if_neg (by omega)]
theorem cm_same {a1 a2 b1 b2 : Int} (ha : vR a1 a2 = true) (hb : vR b1 b2 = true) (h : a1 * b2 = b1 * a2) : cmR a1 a2 b1 b2 = 0 := by rw [cm_of ha hb]; unfold sg; rw [if_neg (by omega), if_pos (by omega)]
theorem same_test {a1 a2 b1 b2 : Int} (ha : vR a1 a2 = true) (hb : vR b1 b2 = true) : (a1 == b1 && a2 == b2) = decide (a1 * b2 = b1 * a2) := by
  rw [Bool.eq_iff_iff]
  simp only [Bool.and_eq_true, beq_iff_eq, decide_eq_true_iff]
  constructor
  · rintro ⟨rfl, rfl⟩; rfl
  · exact cross_eq ha hb
set_option maxHeartbeats 1000000 in
theorem qCmp_any (a1 a2 b1 b2 : Int) (w : World) :
    Calls Tryd.prog 22 #[.agg #[.int .i64 a1, .int .i64 a2], .agg #[.int .i64 b1, .int .i64 b2]] w fun e w' => e = .returned (.int .i64 (cmR a1 a2 b1 b2)) ∧ Below w.heap.size w w' := by
  cases hv : (vR a1 a2 && vR b1 b2)
  · have HD := Lib.hid (cm_no hv)
    go_enter Tryd.func22, Tryd.ntmps22
    go_wp2_with fail
    refine (both_any _ _ _ _ _).mono ?_
    rintro e w1 ⟨rfl, hb⟩
    have ba : Blk w1 (w.heap.size) 23 #[.int .i64 a1, .int .i64 a2] := ((Blk.new _ _ _).alloc _).on hb
    have bb : Blk w1 (w.heap.size + 1) 23 #[.int .i64 b1, .int .i64 b2] := (Blk.new1 _ _ _ _).on hb
    have hbz := hb.size
    have HB1 := Lib.hid ((((Below.refl w.heap.size w).alloc (by first | exact Nat.le_refl _ | omega | (simp; done) | (simp; omega)) _).alloc (by first | exact Nat.le_refl _ | omega | (simp; done) | (simp; omega)) _).trans (hb.mono (by first | exact Nat.le_refl _ | omega | (simp; done) | (simp; omega))))
    have hz1 : w.heap.size ≤ w1.heap.size := HB1.out.size
    clear hb hbz
    rw [hv]
    clear hv
    go_wp2_with fail
    go_ret
    exact ⟨ret_int HD.out.symm, HB1.out⟩
  rw [Bool.and_eq_true] at hv
  obtain ⟨h1, h2⟩ := hv
  have HV := Lib.hid (And.intro h1 h2)
  have ha := vR_bd h1
  have hb := vR_bd h2
  have HS := Lib.hid (same_test h1 h2)
  clear h1 h2
  have m1 := bd_nd (x := a1) (y := b2) (by omega) (by omega)
  have m2 := bd_nd (x := b1) (y := a2) (by omega) (by omega)
  have m3 := bd_dd (x := a2) (y := b2) (by omega) (by omega)
  have m4 := bd_nn (x := a1) (y := b1) (by omega) (by omega)
  have m5 : -1000000000000000 ≤ a2 * b1 ∧ a2 * b1 ≤ 1000000000000000 := by rw [Int.mul_comm]; exact m2
  obtain ⟨a21, a22, a11, a12⟩ := ha
  obtain ⟨b21, b22, b11, b12⟩ := hb
  obtain ⟨m11, m12⟩ := m1
  obtain ⟨m21, m22⟩ := m2
  obtain ⟨m31, m32⟩ := m3
  obtain ⟨m41, m42⟩ := m4
  obtain ⟨m51, m52⟩ := m5
  by_cases h : a1 * b2 = b1 * a2
  · have HD := Lib.hid (cm_same HV.out.1 HV.out.2 h)
    have hs : (a1 == b1 && a2 == b2) = true := HS.out.trans (decide_eq_true h)
    clear h
    go_enter Tryd.func22, Tryd.ntmps22
    go_wp2_with fail
    refine (both_any _ _ _ _ _).mono ?_
    rintro e w1 ⟨rfl, hb⟩
    have ba : Blk w1 (w.heap.size) 23 #[.int .i64 a1, .int .i64 a2] := ((Blk.new _ _ _).alloc _).on hb
    have bb : Blk w1 (w.heap.size + 1) 23 #[.int .i64 b1, .int .i64 b2] := (Blk.new1 _ _ _ _).on hb
    have hbz := hb.size
    have HB1 := Lib.hid ((((Below.refl w.heap.size w).alloc (by first | exact Nat.le_refl _ | omega | (simp; done) | (simp; omega)) _).alloc (by first | exact Nat.le_refl _ | omega | (simp; done) | (simp; omega)) _).trans (hb.mono (by first | exact Nat.le_refl _ | omega | (simp; done) | (simp; omega))))
    have hz1 : w.heap.size ≤ w1.heap.size := HB1.out.size
    clear hb hbz
    rw [HV.out.1, HV.out.2]
    have q_ba0 : w1.cell? ⟨w.heap.size, 0, none⟩ = some (.int .i64 a1) := ba.cell 0
    have q_ba1 : w1.cell? ⟨w.heap.size, 1, none⟩ = some (.int .i64 a2) := ba.cell 1
    have q_bb0 : w1.cell? ⟨w.heap.size + 1, 0, none⟩ = some (.int .i64 b1) := bb.cell 0
    have q_bb1 : w1.cell? ⟨w.heap.size + 1, 1, none⟩ = some (.int .i64 b2) := bb.cell 1
    go_wp2_with fail
    all_goals try (exfalso; omega)
    go_ret
    exact ⟨ret_int HD.out.symm, HB1.out⟩
  by_cases h' : a1 * b2 < b1 * a2
  · have HD := Lib.hid (cm_lt HV.out.1 HV.out.2 h')
    have hs : (a1 == b1 && a2 == b2) = false := HS.out.trans (decide_eq_false h)
    go_enter Tryd.func22, Tryd.ntmps22
    go_wp2_with fail
    refine (both_any _ _ _ _ _).mono ?_
    rintro e w1 ⟨rfl, hb⟩
    have ba : Blk w1 (w.heap.size) 23 #[.int .i64 a1, .int .i64 a2] := ((Blk.new _ _ _).alloc _).on hb
    have bb : Blk w1 (w.heap.size + 1) 23 #[.int .i64 b1, .int .i64 b2] := (Blk.new1 _ _ _ _).on hb
    have hbz := hb.size
    have HB1 := Lib.hid ((((Below.refl w.heap.size w).alloc (by first | exact Nat.le_refl _ | omega | (simp; done) | (simp; omega)) _).alloc (by first | exact Nat.le_refl _ | omega | (simp; done) | (simp; omega)) _).trans (hb.mono (by first | exact Nat.le_refl _ | omega | (simp; done) | (simp; omega))))
    have hz1 : w.heap.size ≤ w1.heap.size := HB1.out.size
    clear hb hbz
    rw [HV.out.1, HV.out.2]
    have q_ba0 : w1.cell? ⟨w.heap.size, 0, none⟩ = some (.int .i64 a1) := ba.cell 0
    have q_ba1 : w1.cell? ⟨w.heap.size, 1, none⟩ = some (.int .i64 a2) := ba.cell 1
    have q_bb0 : w1.cell? ⟨w.heap.size + 1, 0, none⟩ = some (.int .i64 b1) := bb.cell 0
    have q_bb1 : w1.cell? ⟨w.heap.size + 1, 1, none⟩ = some (.int .i64 b2) := bb.cell 1
    go_wp2_with fail
    all_goals try (exfalso; omega)
    go_ret
    exact ⟨ret_int HD.out.symm, HB1.out⟩
  · have HD := Lib.hid (cm_gt HV.out.1 HV.out.2 (show b1 * a2 < a1 * b2 by omega))
    have hs : (a1 == b1 && a2 == b2) = false := HS.out.trans (decide_eq_false h)
    go_enter Tryd.func22, Tryd.ntmps22
    go_wp2_with fail
    refine (both_any _ _ _ _ _).mono ?_
    rintro e w1 ⟨rfl, hb⟩
    have ba : Blk w1 (w.heap.size) 23 #[.int .i64 a1, .int .i64 a2] := ((Blk.new _ _ _).alloc _).on hb
    have bb : Blk w1 (w.heap.size + 1) 23 #[.int .i64 b1, .int .i64 b2] := (Blk.new1 _ _ _ _).on hb
    have hbz := hb.size
    have HB1 := Lib.hid ((((Below.refl w.heap.size w).alloc (by first | exact Nat.le_refl _ | omega | (simp; done) | (simp; omega)) _).alloc (by first | exact Nat.le_refl _ | omega | (simp; done) | (simp; omega)) _).trans (hb.mono (by first | exact Nat.le_refl _ | omega | (simp; done) | (simp; omega))))
    have hz1 : w.heap.size ≤ w1.heap.size := HB1.out.size
    clear hb hbz
    rw [HV.out.1, HV.out.2]
    have q_ba0 : w1.cell? ⟨w.heap.size, 0, none⟩ = some (.int .i64 a1) := ba.cell 0
    have q_ba1 : w1.cell? ⟨w.heap.size, 1, none⟩ = some (.int .i64 a2) := ba.cell 1
    have q_bb0 : w1.cell? ⟨w.heap.size + 1, 0, none⟩ = some (.int .i64 b1) := bb.cell 0
    have q_bb1 : w1.cell? ⟨w.heap.size + 1, 1, none⟩ = some (.int .i64 b2) := bb.cell 1
    go_wp2_with fail
    all_goals try (exfalso; omega)
    go_ret
    exact ⟨ret_int HD.out.symm, HB1.out⟩
set_option maxHeartbeats 1000000 in
theorem qrCmp_any (a1 a2 b1 b2 : Int) (w : World) :
    Calls Tryd.prog 23 #[.agg #[.int .i64 a1, .int .i64 a2], .agg #[.int .i64 b1, .int .i64 b2]] w fun e w' => e = .returned (.int .i64 (cmR a1 a2 b1 b2)) ∧ Below w.heap.size w w' := by
  cases h1 : vR a1 a2
  · have HD := Lib.hid (cm_no (a1 := a1) (a2 := a2) (b1 := b1) (b2 := b2) (by rw [h1]; rfl))
    have H1 := Lib.hid h1
    clear h1
    go_enter Tryd.func23, Tryd.ntmps23
    go_wp2_with fail
    refine (qrValid_any _ _ _).mono ?_
    rintro e w1 ⟨rfl, hb⟩
    have ba : Blk w1 (w.heap.size) 23 #[.int .i64 a1, .int .i64 a2] := ((Blk.new _ _ _).alloc _).on hb
    have bb : Blk w1 (w.heap.size + 1) 23 #[.int .i64 b1, .int .i64 b2] := (Blk.new1 _ _ _ _).on hb
    have hbz := hb.size
    have HB1 := Lib.hid ((((Below.refl w.heap.size w).alloc (by first | exact Nat.le_refl _ | omega | (simp; done) | (simp; omega)) _).alloc (by first | exact Nat.le_refl _ | omega | (simp; done) | (simp; omega)) _).trans (hb.mono (by first | exact Nat.le_refl _ | omega | (simp; done) | (simp; omega))))
    have hz1 : w.heap.size ≤ w1.heap.size := HB1.out.size
    clear hb hbz
    rw [H1.out]
    go_wp2_with fail
    go_ret
    exact ⟨ret_int HD.out.symm, HB1.out⟩
  cases h2 : vR b1 b2
  · have HD := Lib.hid (cm_no (a1 := a1) (a2 := a2) (b1 := b1) (b2 := b2) (by rw [h2, Bool.and_false]))
    have H1 := Lib.hid h1
    have H2 := Lib.hid h2
    clear h1 h2
    go_enter Tryd.func23, Tryd.ntmps23
    go_wp2_with fail
    refine (qrValid_any _ _ _).mono ?_
    rintro e w1 ⟨rfl, hb⟩
    have ba : Blk w1 (w.heap.size) 23 #[.int .i64 a1, .int .i64 a2] := ((Blk.new _ _ _).alloc _).on hb
    have bb : Blk w1 (w.heap.size + 1) 23 #[.int .i64 b1, .int .i64 b2] := (Blk.new1 _ _ _ _).on hb
    have hbz := hb.size
    have HB1 := Lib.hid ((((Below.refl w.heap.size w).alloc (by first | exact Nat.le_refl _ | omega | (simp; done) | (simp; omega)) _).alloc (by first | exact Nat.le_refl _ | omega | (simp; done) | (simp; omega)) _).trans (hb.mono (by first | exact Nat.le_refl _ | omega | (simp; done) | (simp; omega))))
    have hz1 : w.heap.size ≤ w1.heap.size := HB1.out.size
    clear hb hbz
    rw [H1.out]
    have q_bb0 : w1.cell? ⟨w.heap.size + 1, 0, none⟩ = some (.int .i64 b1) := bb.cell 0
    have q_bb1 : w1.cell? ⟨w.heap.size + 1, 1, none⟩ = some (.int .i64 b2) := bb.cell 1
    go_wp2_with fail
    refine (qrValid_any _ _ _).mono ?_
    rintro e w2 ⟨rfl, hb⟩
    clear q_bb0 q_bb1
    have ba : Blk w2 (w.heap.size) 23 #[.int .i64 a1, .int .i64 a2] := (ba).on hb
    have bb : Blk w2 (w.heap.size + 1) 23 #[.int .i64 b1, .int .i64 b2] := (bb).on hb
    have hbz := hb.size
    have HB2 := Lib.hid ((HB1.out).trans (hb.mono (by first | exact Nat.le_refl _ | omega | (simp; done) | (simp; omega))))
    have hz2 : w.heap.size ≤ w2.heap.size := HB2.out.size
    clear hb hbz
    rw [H2.out]
    go_wp2_with fail
    go_ret
    exact ⟨ret_int HD.out.symm, HB2.out⟩
  have HV := Lib.hid (And.intro h1 h2)
  have ha := vR_bd h1
  have hb := vR_bd h2
  have H1 := Lib.hid h1
  have H2 := Lib.hid h2
  clear h1 h2
  have m1 := bd_nd (x := a1) (y := b2) (by omega) (by omega)
  have m2 := bd_nd (x := b1) (y := a2) (by omega) (by omega)
  have m3 := bd_dd (x := a2) (y := b2) (by omega) (by omega)
  have m4 := bd_nn (x := a1) (y := b1) (by omega) (by omega)
  have m5 : -1000000000000000 ≤ a2 * b1 ∧ a2 * b1 ≤ 1000000000000000 := by rw [Int.mul_comm]; exact m2
  obtain ⟨a21, a22, a11, a12⟩ := ha
  obtain ⟨b21, b22, b11, b12⟩ := hb
  obtain ⟨m11, m12⟩ := m1
  obtain ⟨m21, m22⟩ := m2
  obtain ⟨m31, m32⟩ := m3
  obtain ⟨m41, m42⟩ := m4
  obtain ⟨m51, m52⟩ := m5
  rcases Int.lt_trichotomy (a1 * b2) (b1 * a2) with h | h | h
  · have HD := Lib.hid (cm_lt HV.out.1 HV.out.2 h)
    go_enter Tryd.func23, Tryd.ntmps23
    go_wp2_with fail
    refine (qrValid_any _ _ _).mono ?_
    rintro e w1 ⟨rfl, hb⟩
    have ba : Blk w1 (w.heap.size) 23 #[.int .i64 a1, .int .i64 a2] := ((Blk.new _ _ _).alloc _).on hb
    have bb : Blk w1 (w.heap.size + 1) 23 #[.int .i64 b1, .int .i64 b2] := (Blk.new1 _ _ _ _).on hb
    have hbz := hb.size
    have HB1 := Lib.hid ((((Below.refl w.heap.size w).alloc (by first | exact Nat.le_refl _ | omega | (simp; done) | (simp; omega)) _).alloc (by first | exact Nat.le_refl _ | omega | (simp; done) | (simp; omega)) _).trans (hb.mono (by first | exact Nat.le_refl _ | omega | (simp; done) | (simp; omega))))
    have hz1 : w.heap.size ≤ w1.heap.size := HB1.out.size
    clear hb hbz
    rw [H1.out]
    have q_bb0 : w1.cell? ⟨w.heap.size + 1, 0, none⟩ = some (.int .i64 b1) := bb.cell 0
    have q_bb1 : w1.cell? ⟨w.heap.size + 1, 1, none⟩ = some (.int .i64 b2) := bb.cell 1
    go_wp2_with fail
    refine (qrValid_any _ _ _).mono ?_
    rintro e w2 ⟨rfl, hb⟩
    clear q_bb0 q_bb1
    have ba : Blk w2 (w.heap.size) 23 #[.int .i64 a1, .int .i64 a2] := (ba).on hb
    have bb : Blk w2 (w.heap.size + 1) 23 #[.int .i64 b1, .int .i64 b2] := (bb).on hb
    have hbz := hb.size
    have HB2 := Lib.hid ((HB1.out).trans (hb.mono (by first | exact Nat.le_refl _ | omega | (simp; done) | (simp; omega))))
    have hz2 : w.heap.size ≤ w2.heap.size := HB2.out.size
    clear hb hbz
    rw [H2.out]
    have q_ba0 : w2.cell? ⟨w.heap.size, 0, none⟩ = some (.int .i64 a1) := ba.cell 0
    have q_ba1 : w2.cell? ⟨w.heap.size, 1, none⟩ = some (.int .i64 a2) := ba.cell 1
    have q_bb0 : w2.cell? ⟨w.heap.size + 1, 0, none⟩ = some (.int .i64 b1) := bb.cell 0
    have q_bb1 : w2.cell? ⟨w.heap.size + 1, 1, none⟩ = some (.int .i64 b2) := bb.cell 1
    go_wp2_with fail
    all_goals try (exfalso; omega)
    go_ret
    exact ⟨ret_int HD.out.symm, HB2.out⟩
  · have HD := Lib.hid (cm_same HV.out.1 HV.out.2 h)
    have x1 : a1 * b2 ≤ b1 * a2 := by omega
    have x2 : b1 * a2 ≤ a1 * b2 := by omega
    clear h
    go_enter Tryd.func23, Tryd.ntmps23
    go_wp2_with fail
    refine (qrValid_any _ _ _).mono ?_
    rintro e w1 ⟨rfl, hb⟩
    have ba : Blk w1 (w.heap.size) 23 #[.int .i64 a1, .int .i64 a2] := ((Blk.new _ _ _).alloc _).on hb
    have bb : Blk w1 (w.heap.size + 1) 23 #[.int .i64 b1, .int .i64 b2] := (Blk.new1 _ _ _ _).on hb
    have hbz := hb.size
    have HB1 := Lib.hid ((((Below.refl w.heap.size w).alloc (by first | exact Nat.le_refl _ | omega | (simp; done) | (simp; omega)) _).alloc (by first | exact Nat.le_refl _ | omega | (simp; done) | (simp; omega)) _).trans (hb.mono (by first | exact Nat.le_refl _ | omega | (simp; done) | (simp; omega))))
    have hz1 : w.heap.size ≤ w1.heap.size := HB1.out.size
    clear hb hbz
    rw [H1.out]
    have q_bb0 : w1.cell? ⟨w.heap.size + 1, 0, none⟩ = some (.int .i64 b1) := bb.cell 0
    have q_bb1 : w1.cell? ⟨w.heap.size + 1, 1, none⟩ = some (.int .i64 b2) := bb.cell 1
    go_wp2_with fail
    refine (qrValid_any _ _ _).mono ?_
    rintro e w2 ⟨rfl, hb⟩
    clear q_bb0 q_bb1
    have ba : Blk w2 (w.heap.size) 23 #[.int .i64 a1, .int .i64 a2] := (ba).on hb
    have bb : Blk w2 (w.heap.size + 1) 23 #[.int .i64 b1, .int .i64 b2] := (bb).on hb
    have hbz := hb.size
    have HB2 := Lib.hid ((HB1.out).trans (hb.mono (by first | exact Nat.le_refl _ | omega | (simp; done) | (simp; omega))))
    have hz2 : w.heap.size ≤ w2.heap.size := HB2.out.size
    clear hb hbz
    rw [H2.out]
    have q_ba0 : w2.cell? ⟨w.heap.size, 0, none⟩ = some (.int .i64 a1) := ba.cell 0
    have q_ba1 : w2.cell? ⟨w.heap.size, 1, none⟩ = some (.int .i64 a2) := ba.cell 1
    have q_bb0 : w2.cell? ⟨w.heap.size + 1, 0, none⟩ = some (.int .i64 b1) := bb.cell 0
    have q_bb1 : w2.cell? ⟨w.heap.size + 1, 1, none⟩ = some (.int .i64 b2) := bb.cell 1
    go_wp2_with fail
    all_goals try (exfalso; omega)
    go_ret
    exact ⟨ret_int HD.out.symm, HB2.out⟩
  · have HD := Lib.hid (cm_gt HV.out.1 HV.out.2 h)
    go_enter Tryd.func23, Tryd.ntmps23
    go_wp2_with fail
    refine (qrValid_any _ _ _).mono ?_
    rintro e w1 ⟨rfl, hb⟩
    have ba : Blk w1 (w.heap.size) 23 #[.int .i64 a1, .int .i64 a2] := ((Blk.new _ _ _).alloc _).on hb
    have bb : Blk w1 (w.heap.size + 1) 23 #[.int .i64 b1, .int .i64 b2] := (Blk.new1 _ _ _ _).on hb
    have hbz := hb.size
    have HB1 := Lib.hid ((((Below.refl w.heap.size w).alloc (by first | exact Nat.le_refl _ | omega | (simp; done) | (simp; omega)) _).alloc (by first | exact Nat.le_refl _ | omega | (simp; done) | (simp; omega)) _).trans (hb.mono (by first | exact Nat.le_refl _ | omega | (simp; done) | (simp; omega))))
    have hz1 : w.heap.size ≤ w1.heap.size := HB1.out.size
    clear hb hbz
    rw [H1.out]
    have q_bb0 : w1.cell? ⟨w.heap.size + 1, 0, none⟩ = some (.int .i64 b1) := bb.cell 0
    have q_bb1 : w1.cell? ⟨w.heap.size + 1, 1, none⟩ = some (.int .i64 b2) := bb.cell 1
    go_wp2_with fail
    refine (qrValid_any _ _ _).mono ?_
    rintro e w2 ⟨rfl, hb⟩
    clear q_bb0 q_bb1
    have ba : Blk w2 (w.heap.size) 23 #[.int .i64 a1, .int .i64 a2] := (ba).on hb
    have bb : Blk w2 (w.heap.size + 1) 23 #[.int .i64 b1, .int .i64 b2] := (bb).on hb
    have hbz := hb.size
    have HB2 := Lib.hid ((HB1.out).trans (hb.mono (by first | exact Nat.le_refl _ | omega | (simp; done) | (simp; omega))))
    have hz2 : w.heap.size ≤ w2.heap.size := HB2.out.size
    clear hb hbz
    rw [H2.out]
    have q_ba0 : w2.cell? ⟨w.heap.size, 0, none⟩ = some (.int .i64 a1) := ba.cell 0
    have q_ba1 : w2.cell? ⟨w.heap.size, 1, none⟩ = some (.int .i64 a2) := ba.cell 1
    have q_bb0 : w2.cell? ⟨w.heap.size + 1, 0, none⟩ = some (.int .i64 b1) := bb.cell 0
    have q_bb1 : w2.cell? ⟨w.heap.size + 1, 1, none⟩ = some (.int .i64 b2) := bb.cell 1
    go_wp2_with fail
    all_goals try (exfalso; omega)
    go_ret
    exact ⟨ret_int HD.out.symm, HB2.out⟩
end Go.Proofs.YtpkekfhnpcjgkaaDoor
