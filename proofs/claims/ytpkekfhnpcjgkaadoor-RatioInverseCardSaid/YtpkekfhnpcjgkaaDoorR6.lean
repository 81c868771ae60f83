/- The walks of the arithmetic and its reference. -/
import Derived.Test.YtpkekfhnpcjgkaaDoorR5
namespace Go.Proofs.YtpkekfhnpcjgkaaDoor
open Go.RowKit
open Rt

def mkI (n d : Int) : (Int × Int) × Int := if vI n && vI d then ofI n d else ((0, 0), 2)
theorem mkI_no {n d : Int} (h : (vI n && vI d) = false) : mkI n d = ((0, 0), 2) := by unfold mkI; rw [h]; rfl
theorem mkI_yes {n d : Int} (h : (vI n && vI d) = true) : mkI n d = ofI n d := by unfold mkI; rw [h]; rfl
set_option maxHeartbeats 1000000 in
theorem qMake_any (n d : Int) (w : World) :
    Calls Tryd.prog 15 #[.int .i64 n, .int .i64 d] w fun e w' => e = .returned (tupR (mkI n d)) ∧ Below w.heap.size w w' := by
  cases h1 : vI n
  · have HD := Lib.hid (mkI_no (n := n) (d := d) (by rw [h1]; rfl))
    have H1 := Lib.hid h1
    clear h1
    go_enter Tryd.func15, Tryd.ntmps15
    go_wp2_with fail
    refine (Valid_any _ _).mono ?_
    rintro e wq ⟨rfl, rfl⟩
    rw [H1.out]
    go_wp2_with fail
    exact bodyPost_ret (v := .tuple #[.agg #[.int .i64 0, .int .i64 0], .int .i64 2]) (by simp [results, Tryd.results15, go_sem]) rfl ⟨ret_tupR HD.out, (Below.refl w.heap.size w).alloc (by first | exact Nat.le_refl _ | omega | (simp; done) | (simp; omega)) _⟩
  cases h2 : vI d
  · have HD := Lib.hid (mkI_no (n := n) (d := d) (by rw [h1, h2]; rfl))
    have H1 := Lib.hid h1
    have H2 := Lib.hid h2
    clear h1 h2
    go_enter Tryd.func15, Tryd.ntmps15
    go_wp2_with fail
    refine (Valid_any _ _).mono ?_
    rintro e wq ⟨rfl, rfl⟩
    rw [H1.out]
    go_wp2_with fail
    refine (Valid_any _ _).mono ?_
    rintro e wq ⟨rfl, rfl⟩
    rw [H2.out]
    go_wp2_with fail
    exact bodyPost_ret (v := .tuple #[.agg #[.int .i64 0, .int .i64 0], .int .i64 2]) (by simp [results, Tryd.results15, go_sem]) rfl ⟨ret_tupR HD.out, (Below.refl w.heap.size w).alloc (by first | exact Nat.le_refl _ | omega | (simp; done) | (simp; omega)) _⟩
  have HD := Lib.hid (mkI_yes (n := n) (d := d) (by rw [h1, h2]; rfl))
  have H1 := Lib.hid h1
  have H2 := Lib.hid h2
  have b1 := (vI_iff n).1 h1
  have b2 := (vI_iff d).1 h2
  clear h1 h2
  go_enter Tryd.func15, Tryd.ntmps15
  go_wp2_with fail
  refine (Valid_any _ _).mono ?_
  rintro e wq ⟨rfl, rfl⟩
  rw [H1.out]
  go_wp2_with fail
  refine (Valid_any _ _).mono ?_
  rintro e wq ⟨rfl, rfl⟩
  rw [H2.out]
  go_wp2_with fail
  refine (of_any _ _ _ (by omega) (by omega) (by omega) (by omega)).mono ?_
  rintro e w1 ⟨rfl, hb⟩
  have br : Blk w1 (w.heap.size) 23 #[.int .i64 0, .int .i64 0] := (Blk.new _ _ _).on hb
  have hbz := hb.size
  have HB1 := Lib.hid (((Below.refl w.heap.size w).alloc (by first | exact Nat.le_refl _ | omega | (simp; done) | (simp; omega)) _).trans (hb.mono (by first | exact Nat.le_refl _ | omega | (simp; done) | (simp; omega))))
  have hz1 : w.heap.size ≤ w1.heap.size := HB1.out.size
  clear hb hbz
  generalize ofI n d = R at *
  obtain ⟨⟨x, y⟩, er⟩ := R
  simp only [tupR, agg2]
  have q_br0 : w1.cell? ⟨w.heap.size, 0, none⟩ = some (.int .i64 0) := br.cell 0
  have q_br1 : w1.cell? ⟨w.heap.size, 1, none⟩ = some (.int .i64 0) := br.cell 1
  have f_br0 : w1.frozen? ⟨w.heap.size, 0, none⟩ = false := br.frozen 0
  have f_br1 : w1.frozen? ⟨w.heap.size, 1, none⟩ = false := br.frozen 1
  go_wp2_with fail
  exact bodyPost_ret (v := .tuple #[.agg #[.int .i64 x, .int .i64 y], .int .i64 er]) (by simp [results, Tryd.results15, go_sem, q_br0, q_br1]) rfl ⟨ret_tupR HD.out, below_set2 (HB1.out) (by first | exact Nat.le_refl _ | omega | (simp; done) | (simp; omega)) _ _⟩
set_option maxHeartbeats 1000000 in
theorem qrMake_any (n d : Int) (w : World) :
    Calls Tryd.prog 16 #[.int .i64 n, .int .i64 d] w fun e w' => e = .returned (tupR (mkI n d)) ∧ Below w.heap.size w w' := by
  cases h1 : vI n
  · have HD := Lib.hid (mkI_no (n := n) (d := d) (by rw [h1]; rfl))
    have H1 := Lib.hid h1
    clear h1
    go_enter Tryd.func16, Tryd.ntmps16
    go_wp2_with fail
    refine (rValid_any _ _).mono ?_
    rintro e wq ⟨rfl, rfl⟩
    rw [H1.out]
    go_wp2_with fail
    exact bodyPost_ret (v := .tuple #[.agg #[.int .i64 0, .int .i64 0], .int .i64 2]) (by simp [results, Tryd.results16, go_sem]) rfl ⟨ret_tupR HD.out, (Below.refl w.heap.size w).alloc (by first | exact Nat.le_refl _ | omega | (simp; done) | (simp; omega)) _⟩
  cases h2 : vI d
  · have HD := Lib.hid (mkI_no (n := n) (d := d) (by rw [h1, h2]; rfl))
    have H1 := Lib.hid h1
    have H2 := Lib.hid h2
    clear h1 h2
    go_enter Tryd.func16, Tryd.ntmps16
    go_wp2_with fail
    refine (rValid_any _ _).mono ?_
    rintro e wq ⟨rfl, rfl⟩
    rw [H1.out]
    go_wp2_with fail
    refine (rValid_any _ _).mono ?_
    rintro e wq ⟨rfl, rfl⟩
    rw [H2.out]
    go_wp2_with fail
    exact bodyPost_ret (v := .tuple #[.agg #[.int .i64 0, .int .i64 0], .int .i64 2]) (by simp [results, Tryd.results16, go_sem]) rfl ⟨ret_tupR HD.out, (Below.refl w.heap.size w).alloc (by first | exact Nat.le_refl _ | omega | (simp; done) | (simp; omega)) _⟩
  have HD := Lib.hid (mkI_yes (n := n) (d := d) (by rw [h1, h2]; rfl))
  have H1 := Lib.hid h1
  have H2 := Lib.hid h2
  have b1 := (vI_iff n).1 h1
  have b2 := (vI_iff d).1 h2
  clear h1 h2
  by_cases h0 : d = 0
  · subst h0
    have HD0 := Lib.hid (HD.out.trans (ofI_zero n))
    go_enter Tryd.func16, Tryd.ntmps16
    go_wp2_with fail
    refine (rValid_any _ _).mono ?_
    rintro e wq ⟨rfl, rfl⟩
    rw [H1.out]
    go_wp2_with fail
    refine (rValid_any _ _).mono ?_
    rintro e wq ⟨rfl, rfl⟩
    rw [H2.out]
    go_wp2_with fail
    exact bodyPost_ret (v := .tuple #[.agg #[.int .i64 0, .int .i64 0], .int .i64 9]) (by simp [results, Tryd.results16, go_sem]) rfl ⟨ret_tupR HD0.out, (Below.refl w.heap.size w).alloc (by first | exact Nat.le_refl _ | omega | (simp; done) | (simp; omega)) _⟩
  · have h0b : (d == 0) = false := beq_eq_false_iff_ne.2 h0
    go_enter Tryd.func16, Tryd.ntmps16
    go_wp2_with fail
    refine (rValid_any _ _).mono ?_
    rintro e wq ⟨rfl, rfl⟩
    rw [H1.out]
    go_wp2_with fail
    refine (rValid_any _ _).mono ?_
    rintro e wq ⟨rfl, rfl⟩
    rw [H2.out]
    go_wp2_with fail
    refine (rreduced_any _ _ _ (by omega) (by omega) (by omega) (by omega) h0).mono ?_
    rintro e w1 ⟨rfl, hb⟩
    have br : Blk w1 (w.heap.size) 23 #[.int .i64 0, .int .i64 0] := (Blk.new _ _ _).on hb
    have hbz := hb.size
    have HB1 := Lib.hid (((Below.refl w.heap.size w).alloc (by first | exact Nat.le_refl _ | omega | (simp; done) | (simp; omega)) _).trans (hb.mono (by first | exact Nat.le_refl _ | omega | (simp; done) | (simp; omega))))
    have hz1 : w.heap.size ≤ w1.heap.size := HB1.out.size
    clear hb hbz
    generalize ofI n d = R at *
    obtain ⟨⟨x, y⟩, er⟩ := R
    simp only [tupR, agg2]
    have q_br0 : w1.cell? ⟨w.heap.size, 0, none⟩ = some (.int .i64 0) := br.cell 0
    have q_br1 : w1.cell? ⟨w.heap.size, 1, none⟩ = some (.int .i64 0) := br.cell 1
    have f_br0 : w1.frozen? ⟨w.heap.size, 0, none⟩ = false := br.frozen 0
    have f_br1 : w1.frozen? ⟨w.heap.size, 1, none⟩ = false := br.frozen 1
    go_wp2_with fail
    exact bodyPost_ret (v := .tuple #[.agg #[.int .i64 x, .int .i64 y], .int .i64 er]) (by simp [results, Tryd.results16, go_sem, q_br0, q_br1]) rfl ⟨ret_tupR HD.out, below_set2 (HB1.out) (by first | exact Nat.le_refl _ | omega | (simp; done) | (simp; omega)) _ _⟩
set_option maxHeartbeats 1000000 in
theorem both_any (a1 a2 b1 b2 : Int) (w : World) :
    Calls Tryd.prog 71 #[.agg #[.int .i64 a1, .int .i64 a2], .agg #[.int .i64 b1, .int .i64 b2]] w fun e w' => e = .returned (.bool (vR a1 a2 && vR b1 b2)) ∧ Below w.heap.size w w' := by
  go_enter Tryd.func71, Tryd.ntmps71
  go_wp2_with fail
  refine (qValid_any _ _ _).mono ?_
  rintro e w1 ⟨rfl, hb⟩
  have ba : Blk w1 (w.heap.size) 23 #[.int .i64 a1, .int .i64 a2] := ((Blk.new _ _ _).alloc _).on hb
  have bb : Blk w1 (w.heap.size + 1) 23 #[.int .i64 b1, .int .i64 b2] := (Blk.new1 _ _ _ _).on hb
  have hbz := hb.size
  have HB1 := Lib.hid ((((Below.refl w.heap.size w).alloc (by first | exact Nat.le_refl _ | omega | (simp; done) | (simp; omega)) _).alloc (by first | exact Nat.le_refl _ | omega | (simp; done) | (simp; omega)) _).trans (hb.mono (by first | exact Nat.le_refl _ | omega | (simp; done) | (simp; omega))))
  have hz1 : w.heap.size ≤ w1.heap.size := HB1.out.size
  clear hb hbz
  have q_ba0 : w1.cell? ⟨w.heap.size, 0, none⟩ = some (.int .i64 a1) := ba.cell 0
  have q_ba1 : w1.cell? ⟨w.heap.size, 1, none⟩ = some (.int .i64 a2) := ba.cell 1
  have q_bb0 : w1.cell? ⟨w.heap.size + 1, 0, none⟩ = some (.int .i64 b1) := bb.cell 0
  have q_bb1 : w1.cell? ⟨w.heap.size + 1, 1, none⟩ = some (.int .i64 b2) := bb.cell 1
  cases hA : vR a1 a2
  · skip
    go_wp2_with fail
    go_ret
    exact ⟨ret_bool (by rw [hA]; rfl), HB1.out⟩
  · skip
    go_wp2_with fail
    refine (qValid_any _ _ _).mono ?_
    rintro e w2 ⟨rfl, hb⟩
    clear q_ba0 q_ba1 q_bb0 q_bb1
    have ba : Blk w2 (w.heap.size) 23 #[.int .i64 a1, .int .i64 a2] := (ba).on hb
    have bb : Blk w2 (w.heap.size + 1) 23 #[.int .i64 b1, .int .i64 b2] := (bb).on hb
    have hbz := hb.size
    have HB2 := Lib.hid ((HB1.out).trans (hb.mono (by first | exact Nat.le_refl _ | omega | (simp; done) | (simp; omega))))
    have hz2 : w.heap.size ≤ w2.heap.size := HB2.out.size
    clear hb hbz
    go_wp2_with fail
    go_ret
    exact ⟨ret_bool (by rw [hA]; rfl), HB2.out⟩
theorem mul_bd {x y : Int} {X Y : Nat} (hx : -(X : Int) ≤ x ∧ x ≤ X) (hy : -(Y : Int) ≤ y ∧ y ≤ Y) : -((X * Y : Nat) : Int) ≤ x * y ∧ x * y ≤ ((X * Y : Nat) : Int) := by
  have h : (x * y).natAbs ≤ X * Y := by rw [Int.natAbs_mul]; exact Nat.mul_le_mul (by omega) (by omega)
  omega
theorem vR_bd {p q : Int} (h : vR p q = true) : 1 ≤ q ∧ q ≤ 1000000 ∧ -1000000000 ≤ p ∧ p ≤ 1000000000 := ((vR_iff p q).1 h).1
theorem bd_nn {x y : Int} (hx : -1000000000 ≤ x ∧ x ≤ 1000000000) (hy : -1000000000 ≤ y ∧ y ≤ 1000000000) : -1000000000000000000 ≤ x * y ∧ x * y ≤ 1000000000000000000 := by
  have := mul_bd (X := 1000000000) (Y := 1000000000) hx hy; omega
theorem bd_nd {x y : Int} (hx : -1000000000 ≤ x ∧ x ≤ 1000000000) (hy : 1 ≤ y ∧ y ≤ 1000000) : -1000000000000000 ≤ x * y ∧ x * y ≤ 1000000000000000 := by
  have := mul_bd (X := 1000000000) (Y := 1000000) (y := y) hx (by omega); omega
theorem bd_dd {x y : Int} (hx : 1 ≤ x ∧ x ≤ 1000000) (hy : 1 ≤ y ∧ y ≤ 1000000) : 1 ≤ x * y ∧ x * y ≤ 1000000000000 := by
  have := mul_bd (X := 1000000) (Y := 1000000) (x := x) (y := y) (by omega) (by omega)
  have := Int.mul_pos (show 0 < x by omega) (show 0 < y by omega)
  omega
theorem val_no {a1 a2 b1 b2 n d : Int} (h : (vR a1 a2 && vR b1 b2) = false) : valI2 a1 a2 b1 b2 n d = ((0, 0), 2) := by unfold valI2; rw [h]; rfl
theorem val_yes {a1 a2 b1 b2 n d : Int} (h : (vR a1 a2 && vR b1 b2) = true) : valI2 a1 a2 b1 b2 n d = ofI n d := by unfold valI2; rw [h]; rfl
set_option maxHeartbeats 1000000 in
theorem qAdd_any (a1 a2 b1 b2 : Int) (w : World) :
    Calls Tryd.prog 33 #[.agg #[.int .i64 a1, .int .i64 a2], .agg #[.int .i64 b1, .int .i64 b2]] w fun e w' => e = .returned (tupR (addR a1 a2 b1 b2)) ∧ Below w.heap.size w w' := by
  unfold addR
  cases hv : (vR a1 a2 && vR b1 b2)
  · have HD := Lib.hid (val_no (n := a1 * b2 + b1 * a2) (d := a2 * b2) hv)
    go_enter Tryd.func33, Tryd.ntmps33
    go_wp2_with fail
    refine (both_any _ _ _ _ _).mono ?_
    rintro e w1 ⟨rfl, hb⟩
    have ba : Blk w1 (w.heap.size) 23 #[.int .i64 a1, .int .i64 a2] := (((Blk.new _ _ _).alloc _).alloc _).on hb
    have bb : Blk w1 (w.heap.size + 1) 23 #[.int .i64 b1, .int .i64 b2] := ((Blk.new1 _ _ _ _).alloc _).on hb
    have br : Blk w1 (w.heap.size + 2) 23 #[.int .i64 0, .int .i64 0] := (Blk.new2 _ _ _ _ _).on hb
    have hbz := hb.size
    have HB1 := Lib.hid (((((Below.refl w.heap.size w).alloc (by first | exact Nat.le_refl _ | omega | (simp; done) | (simp; omega)) _).alloc (by first | exact Nat.le_refl _ | omega | (simp; done) | (simp; omega)) _).alloc (by first | exact Nat.le_refl _ | omega | (simp; done) | (simp; omega)) _).trans (hb.mono (by first | exact Nat.le_refl _ | omega | (simp; done) | (simp; omega))))
    have hz1 : w.heap.size ≤ w1.heap.size := HB1.out.size
    clear hb hbz
    rw [hv]
    clear hv
    have q_br0 : w1.cell? ⟨w.heap.size + 2, 0, none⟩ = some (.int .i64 0) := br.cell 0
    have q_br1 : w1.cell? ⟨w.heap.size + 2, 1, none⟩ = some (.int .i64 0) := br.cell 1
    have f_br0 : w1.frozen? ⟨w.heap.size + 2, 0, none⟩ = false := br.frozen 0
    have f_br1 : w1.frozen? ⟨w.heap.size + 2, 1, none⟩ = false := br.frozen 1
    go_wp2_with fail
    exact bodyPost_ret (v := .tuple #[.agg #[.int .i64 0, .int .i64 0], .int .i64 2]) (by simp [results, Tryd.results33, go_sem, q_br0, q_br1]) rfl ⟨ret_tupR HD.out, below_set2 (HB1.out) (by first | exact Nat.le_refl _ | omega | (simp; done) | (simp; omega)) _ _⟩
  · have HD := Lib.hid (val_yes (n := a1 * b2 + b1 * a2) (d := a2 * b2) hv)
    rw [Bool.and_eq_true] at hv
    have HV := Lib.hid hv
    have ha := vR_bd hv.1
    have hb := vR_bd hv.2
    clear hv
    have m1 := bd_nd (x := a1) (y := b2) (by omega) (by omega)
    have m2 := bd_nd (x := b1) (y := a2) (by omega) (by omega)
    have m3 := bd_dd (x := a2) (y := b2) (by omega) (by omega)
    have m4 := bd_nn (x := a1) (y := b1) (by omega) (by omega)
    have m5 : -1000000000000000 ≤ a2 * b1 ∧ a2 * b1 ≤ 1000000000000000 := by rw [Int.mul_comm]; exact m2
    obtain ⟨a21, a22, a11, a12⟩ := ha
    obtain ⟨b21, b22, b11, b12⟩ := hb
    obtain ⟨m11, m12⟩ := m1
    obtain ⟨m21, m22⟩ := m2
    obtain ⟨m31, m32⟩ := m3
    obtain ⟨m41, m42⟩ := m4
    obtain ⟨m51, m52⟩ := m5
    go_enter Tryd.func33, Tryd.ntmps33
    go_wp2_with fail
    refine (both_any _ _ _ _ _).mono ?_
    rintro e w1 ⟨rfl, hb⟩
    have ba : Blk w1 (w.heap.size) 23 #[.int .i64 a1, .int .i64 a2] := (((Blk.new _ _ _).alloc _).alloc _).on hb
    have bb : Blk w1 (w.heap.size + 1) 23 #[.int .i64 b1, .int .i64 b2] := ((Blk.new1 _ _ _ _).alloc _).on hb
    have br : Blk w1 (w.heap.size + 2) 23 #[.int .i64 0, .int .i64 0] := (Blk.new2 _ _ _ _ _).on hb
    have hbz := hb.size
    have HB1 := Lib.hid (((((Below.refl w.heap.size w).alloc (by first | exact Nat.le_refl _ | omega | (simp; done) | (simp; omega)) _).alloc (by first | exact Nat.le_refl _ | omega | (simp; done) | (simp; omega)) _).alloc (by first | exact Nat.le_refl _ | omega | (simp; done) | (simp; omega)) _).trans (hb.mono (by first | exact Nat.le_refl _ | omega | (simp; done) | (simp; omega))))
    have hz1 : w.heap.size ≤ w1.heap.size := HB1.out.size
    clear hb hbz
    rw [HV.out.1, HV.out.2]
    have q_ba0 : w1.cell? ⟨w.heap.size, 0, none⟩ = some (.int .i64 a1) := ba.cell 0
    have q_ba1 : w1.cell? ⟨w.heap.size, 1, none⟩ = some (.int .i64 a2) := ba.cell 1
    have q_bb0 : w1.cell? ⟨w.heap.size + 1, 0, none⟩ = some (.int .i64 b1) := bb.cell 0
    have q_bb1 : w1.cell? ⟨w.heap.size + 1, 1, none⟩ = some (.int .i64 b2) := bb.cell 1
    have q_br0 : w1.cell? ⟨w.heap.size + 2, 0, none⟩ = some (.int .i64 0) := br.cell 0
    have q_br1 : w1.cell? ⟨w.heap.size + 2, 1, none⟩ = some (.int .i64 0) := br.cell 1
    have f_br0 : w1.frozen? ⟨w.heap.size + 2, 0, none⟩ = false := br.frozen 0
    have f_br1 : w1.frozen? ⟨w.heap.size + 2, 1, none⟩ = false := br.frozen 1
    go_wp2_with fail
    refine (of_any (a1 * b2 + b1 * a2) (a2 * b2) _ (by omega) (by omega) (by omega) (by omega)).mono ?_
    rintro e w2 ⟨rfl, hb⟩
    clear ba
    clear bb
    clear q_ba0 q_ba1 q_bb0 q_bb1 q_br0 q_br1 f_br0 f_br1
    have br : Blk w2 (w.heap.size + 2) 23 #[.int .i64 0, .int .i64 0] := (br).on hb
    have hbz := hb.size
    have HB2 := Lib.hid ((HB1.out).trans (hb.mono (by first | exact Nat.le_refl _ | omega | (simp; done) | (simp; omega))))
    have hz2 : w.heap.size ≤ w2.heap.size := HB2.out.size
    clear hb hbz
    generalize ofI (a1 * b2 + b1 * a2) (a2 * b2) = R at *
    obtain ⟨⟨x, y⟩, er⟩ := R
    simp only [tupR, agg2]
    have q_br0 : w2.cell? ⟨w.heap.size + 2, 0, none⟩ = some (.int .i64 0) := br.cell 0
    have q_br1 : w2.cell? ⟨w.heap.size + 2, 1, none⟩ = some (.int .i64 0) := br.cell 1
    have f_br0 : w2.frozen? ⟨w.heap.size + 2, 0, none⟩ = false := br.frozen 0
    have f_br1 : w2.frozen? ⟨w.heap.size + 2, 1, none⟩ = false := br.frozen 1
    go_wp2_with fail
    exact bodyPost_ret (v := .tuple #[.agg #[.int .i64 x, .int .i64 y], .int .i64 er]) (by simp [results, Tryd.results33, go_sem, q_br0, q_br1]) rfl ⟨ret_tupR HD.out, below_set2 (HB2.out) (by first | exact Nat.le_refl _ | omega | (simp; done) | (simp; omega)) _ _⟩
set_option maxHeartbeats 1000000 in
theorem qSub_any (a1 a2 b1 b2 : Int) (w : World) :
    Calls Tryd.prog 32 #[.agg #[.int .i64 a1, .int .i64 a2], .agg #[.int .i64 b1, .int .i64 b2]] w fun e w' => e = .returned (tupR (subR a1 a2 b1 b2)) ∧ Below w.heap.size w w' := by
  unfold subR
  cases hv : (vR a1 a2 && vR b1 b2)
  · have HD := Lib.hid (val_no (n := a1 * b2 - b1 * a2) (d := a2 * b2) hv)
    go_enter Tryd.func32, Tryd.ntmps32
    go_wp2_with fail
    refine (both_any _ _ _ _ _).mono ?_
    rintro e w1 ⟨rfl, hb⟩
    have ba : Blk w1 (w.heap.size) 23 #[.int .i64 a1, .int .i64 a2] := (((Blk.new _ _ _).alloc _).alloc _).on hb
    have bb : Blk w1 (w.heap.size + 1) 23 #[.int .i64 b1, .int .i64 b2] := ((Blk.new1 _ _ _ _).alloc _).on hb
    have br : Blk w1 (w.heap.size + 2) 23 #[.int .i64 0, .int .i64 0] := (Blk.new2 _ _ _ _ _).on hb
    have hbz := hb.size
    have HB1 := Lib.hid (((((Below.refl w.heap.size w).alloc (by first | exact Nat.le_refl _ | omega | (simp; done) | (simp; omega)) _).alloc (by first | exact Nat.le_refl _ | omega | (simp; done) | (simp; omega)) _).alloc (by first | exact Nat.le_refl _ | omega | (simp; done) | (simp; omega)) _).trans (hb.mono (by first | exact Nat.le_refl _ | omega | (simp; done) | (simp; omega))))
    have hz1 : w.heap.size ≤ w1.heap.size := HB1.out.size
    clear hb hbz
    rw [hv]
    clear hv
    have q_br0 : w1.cell? ⟨w.heap.size + 2, 0, none⟩ = some (.int .i64 0) := br.cell 0
    have q_br1 : w1.cell? ⟨w.heap.size + 2, 1, none⟩ = some (.int .i64 0) := br.cell 1
    have f_br0 : w1.frozen? ⟨w.heap.size + 2, 0, none⟩ = false := br.frozen 0
    have f_br1 : w1.frozen? ⟨w.heap.size + 2, 1, none⟩ = false := br.frozen 1
    go_wp2_with fail
    exact bodyPost_ret (v := .tuple #[.agg #[.int .i64 0, .int .i64 0], .int .i64 2]) (by simp [results, Tryd.results32, go_sem, q_br0, q_br1]) rfl ⟨ret_tupR HD.out, below_set2 (HB1.out) (by first | exact Nat.le_refl _ | omega | (simp; done) | (simp; omega)) _ _⟩
  · have HD := Lib.hid (val_yes (n := a1 * b2 - b1 * a2) (d := a2 * b2) hv)
    rw [Bool.and_eq_true] at hv
    have HV := Lib.hid hv
    have ha := vR_bd hv.1
    have hb := vR_bd hv.2
    clear hv
    have m1 := bd_nd (x := a1) (y := b2) (by omega) (by omega)
    have m2 := bd_nd (x := b1) (y := a2) (by omega) (by omega)
    have m3 := bd_dd (x := a2) (y := b2) (by omega) (by omega)
    have m4 := bd_nn (x := a1) (y := b1) (by omega) (by omega)
    have m5 : -1000000000000000 ≤ a2 * b1 ∧ a2 * b1 ≤ 1000000000000000 := by rw [Int.mul_comm]; exact m2
    obtain ⟨a21, a22, a11, a12⟩ := ha
    obtain ⟨b21, b22, b11, b12⟩ := hb
    obtain ⟨m11, m12⟩ := m1
    obtain ⟨m21, m22⟩ := m2
    obtain ⟨m31, m32⟩ := m3
    obtain ⟨m41, m42⟩ := m4
    obtain ⟨m51, m52⟩ := m5
    go_enter Tryd.func32, Tryd.ntmps32
    go_wp2_with fail
    refine (both_any _ _ _ _ _).mono ?_
    rintro e w1 ⟨rfl, hb⟩
    have ba : Blk w1 (w.heap.size) 23 #[.int .i64 a1, .int .i64 a2] := (((Blk.new _ _ _).alloc _).alloc _).on hb
    have bb : Blk w1 (w.heap.size + 1) 23 #[.int .i64 b1, .int .i64 b2] := ((Blk.new1 _ _ _ _).alloc _).on hb
    have br : Blk w1 (w.heap.size + 2) 23 #[.int .i64 0, .int .i64 0] := (Blk.new2 _ _ _ _ _).on hb
    have hbz := hb.size
    have HB1 := Lib.hid (((((Below.refl w.heap.size w).alloc (by first | exact Nat.le_refl _ | omega | (simp; done) | (simp; omega)) _).alloc (by first | exact Nat.le_refl _ | omega | (simp; done) | (simp; omega)) _).alloc (by first | exact Nat.le_refl _ | omega | (simp; done) | (simp; omega)) _).trans (hb.mono (by first | exact Nat.le_refl _ | omega | (simp; done) | (simp; omega))))
    have hz1 : w.heap.size ≤ w1.heap.size := HB1.out.size
    clear hb hbz
    rw [HV.out.1, HV.out.2]
    have q_ba0 : w1.cell? ⟨w.heap.size, 0, none⟩ = some (.int .i64 a1) := ba.cell 0
    have q_ba1 : w1.cell? ⟨w.heap.size, 1, none⟩ = some (.int .i64 a2) := ba.cell 1
    have q_bb0 : w1.cell? ⟨w.heap.size + 1, 0, none⟩ = some (.int .i64 b1) := bb.cell 0
    have q_bb1 : w1.cell? ⟨w.heap.size + 1, 1, none⟩ = some (.int .i64 b2) := bb.cell 1
    have q_br0 : w1.cell? ⟨w.heap.size + 2, 0, none⟩ = some (.int .i64 0) := br.cell 0
    have q_br1 : w1.cell? ⟨w.heap.size + 2, 1, none⟩ = some (.int .i64 0) := br.cell 1
    have f_br0 : w1.frozen? ⟨w.heap.size + 2, 0, none⟩ = false := br.frozen 0
    have f_br1 : w1.frozen? ⟨w.heap.size + 2, 1, none⟩ = false := br.frozen 1
    go_wp2_with fail
    refine (of_any (a1 * b2 - b1 * a2) (a2 * b2) _ (by omega) (by omega) (by omega) (by omega)).mono ?_
    rintro e w2 ⟨rfl, hb⟩
    clear ba
    clear bb
    clear q_ba0 q_ba1 q_bb0 q_bb1 q_br0 q_br1 f_br0 f_br1
    have br : Blk w2 (w.heap.size + 2) 23 #[.int .i64 0, .int .i64 0] := (br).on hb
    have hbz := hb.size
    have HB2 := Lib.hid ((HB1.out).trans (hb.mono (by first | exact Nat.le_refl _ | omega | (simp; done) | (simp; omega))))
    have hz2 : w.heap.size ≤ w2.heap.size := HB2.out.size
    clear hb hbz
    generalize ofI (a1 * b2 - b1 * a2) (a2 * b2) = R at *
    obtain ⟨⟨x, y⟩, er⟩ := R
    simp only [tupR, agg2]
    have q_br0 : w2.cell? ⟨w.heap.size + 2, 0, none⟩ = some (.int .i64 0) := br.cell 0
    have q_br1 : w2.cell? ⟨w.heap.size + 2, 1, none⟩ = some (.int .i64 0) := br.cell 1
    have f_br0 : w2.frozen? ⟨w.heap.size + 2, 0, none⟩ = false := br.frozen 0
    have f_br1 : w2.frozen? ⟨w.heap.size + 2, 1, none⟩ = false := br.frozen 1
    go_wp2_with fail
    exact bodyPost_ret (v := .tuple #[.agg #[.int .i64 x, .int .i64 y], .int .i64 er]) (by simp [results, Tryd.results32, go_sem, q_br0, q_br1]) rfl ⟨ret_tupR HD.out, below_set2 (HB2.out) (by first | exact Nat.le_refl _ | omega | (simp; done) | (simp; omega)) _ _⟩
set_option maxHeartbeats 1000000 in
theorem qMul_any (a1 a2 b1 b2 : Int) (w : World) :
    Calls Tryd.prog 36 #[.agg #[.int .i64 a1, .int .i64 a2], .agg #[.int .i64 b1, .int .i64 b2]] w fun e w' => e = .returned (tupR (mulR a1 a2 b1 b2)) ∧ Below w.heap.size w w' := by
  unfold mulR
  cases hv : (vR a1 a2 && vR b1 b2)
  · have HD := Lib.hid (val_no (n := a1 * b1) (d := a2 * b2) hv)
    go_enter Tryd.func36, Tryd.ntmps36
    go_wp2_with fail
    refine (both_any _ _ _ _ _).mono ?_
    rintro e w1 ⟨rfl, hb⟩
    have ba : Blk w1 (w.heap.size) 23 #[.int .i64 a1, .int .i64 a2] := (((Blk.new _ _ _).alloc _).alloc _).on hb
    have bb : Blk w1 (w.heap.size + 1) 23 #[.int .i64 b1, .int .i64 b2] := ((Blk.new1 _ _ _ _).alloc _).on hb
    have br : Blk w1 (w.heap.size + 2) 23 #[.int .i64 0, .int .i64 0] := (Blk.new2 _ _ _ _ _).on hb
    have hbz := hb.size
    have HB1 := Lib.hid (((((Below.refl w.heap.size w).alloc (by first | exact Nat.le_refl _ | omega | (simp; done) | (simp; omega)) _).alloc (by first | exact Nat.le_refl _ | omega | (simp; done) | (simp; omega)) _).alloc (by first | exact Nat.le_refl _ | omega | (simp; done) | (simp; omega)) _).trans (hb.mono (by first | exact Nat.le_refl _ | omega | (simp; done) | (simp; omega))))
    have hz1 : w.heap.size ≤ w1.heap.size := HB1.out.size
    clear hb hbz
    rw [hv]
    clear hv
    have q_br0 : w1.cell? ⟨w.heap.size + 2, 0, none⟩ = some (.int .i64 0) := br.cell 0
    have q_br1 : w1.cell? ⟨w.heap.size + 2, 1, none⟩ = some (.int .i64 0) := br.cell 1
    have f_br0 : w1.frozen? ⟨w.heap.size + 2, 0, none⟩ = false := br.frozen 0
    have f_br1 : w1.frozen? ⟨w.heap.size + 2, 1, none⟩ = false := br.frozen 1
    go_wp2_with fail
    exact bodyPost_ret (v := .tuple #[.agg #[.int .i64 0, .int .i64 0], .int .i64 2]) (by simp [results, Tryd.results36, go_sem, q_br0, q_br1]) rfl ⟨ret_tupR HD.out, below_set2 (HB1.out) (by first | exact Nat.le_refl _ | omega | (simp; done) | (simp; omega)) _ _⟩
  · have HD := Lib.hid (val_yes (n := a1 * b1) (d := a2 * b2) hv)
    rw [Bool.and_eq_true] at hv
    have HV := Lib.hid hv
    have ha := vR_bd hv.1
    have hb := vR_bd hv.2
    clear hv
    have m1 := bd_nd (x := a1) (y := b2) (by omega) (by omega)
    have m2 := bd_nd (x := b1) (y := a2) (by omega) (by omega)
    have m3 := bd_dd (x := a2) (y := b2) (by omega) (by omega)
    have m4 := bd_nn (x := a1) (y := b1) (by omega) (by omega)
    have m5 : -1000000000000000 ≤ a2 * b1 ∧ a2 * b1 ≤ 1000000000000000 := by rw [Int.mul_comm]; exact m2
    obtain ⟨a21, a22, a11, a12⟩ := ha
    obtain ⟨b21, b22, b11, b12⟩ := hb
    obtain ⟨m11, m12⟩ := m1
    obtain ⟨m21, m22⟩ := m2
    obtain ⟨m31, m32⟩ := m3
    obtain ⟨m41, m42⟩ := m4
    obtain ⟨m51, m52⟩ := m5
    go_enter Tryd.func36, Tryd.ntmps36
    go_wp2_with fail
    refine (both_any _ _ _ _ _).mono ?_
    rintro e w1 ⟨rfl, hb⟩
    have ba : Blk w1 (w.heap.size) 23 #[.int .i64 a1, .int .i64 a2] := (((Blk.new _ _ _).alloc _).alloc _).on hb
    have bb : Blk w1 (w.heap.size + 1) 23 #[.int .i64 b1, .int .i64 b2] := ((Blk.new1 _ _ _ _).alloc _).on hb
    have br : Blk w1 (w.heap.size + 2) 23 #[.int .i64 0, .int .i64 0] := (Blk.new2 _ _ _ _ _).on hb
    have hbz := hb.size
    have HB1 := Lib.hid (((((Below.refl w.heap.size w).alloc (by first | exact Nat.le_refl _ | omega | (simp; done) | (simp; omega)) _).alloc (by first | exact Nat.le_refl _ | omega | (simp; done) | (simp; omega)) _).alloc (by first | exact Nat.le_refl _ | omega | (simp; done) | (simp; omega)) _).trans (hb.mono (by first | exact Nat.le_refl _ | omega | (simp; done) | (simp; omega))))
    have hz1 : w.heap.size ≤ w1.heap.size := HB1.out.size
    clear hb hbz
    rw [HV.out.1, HV.out.2]
    have q_ba0 : w1.cell? ⟨w.heap.size, 0, none⟩ = some (.int .i64 a1) := ba.cell 0
    have q_ba1 : w1.cell? ⟨w.heap.size, 1, none⟩ = some (.int .i64 a2) := ba.cell 1
    have q_bb0 : w1.cell? ⟨w.heap.size + 1, 0, none⟩ = some (.int .i64 b1) := bb.cell 0
    have q_bb1 : w1.cell? ⟨w.heap.size + 1, 1, none⟩ = some (.int .i64 b2) := bb.cell 1
    have q_br0 : w1.cell? ⟨w.heap.size + 2, 0, none⟩ = some (.int .i64 0) := br.cell 0
    have q_br1 : w1.cell? ⟨w.heap.size + 2, 1, none⟩ = some (.int .i64 0) := br.cell 1
    have f_br0 : w1.frozen? ⟨w.heap.size + 2, 0, none⟩ = false := br.frozen 0
    have f_br1 : w1.frozen? ⟨w.heap.size + 2, 1, none⟩ = false := br.frozen 1
    go_wp2_with fail
    refine (of_any (a1 * b1) (a2 * b2) _ (by omega) (by omega) (by omega) (by omega)).mono ?_
    rintro e w2 ⟨rfl, hb⟩
    clear ba
    clear bb
    clear q_ba0 q_ba1 q_bb0 q_bb1 q_br0 q_br1 f_br0 f_br1
    have br : Blk w2 (w.heap.size + 2) 23 #[.int .i64 0, .int .i64 0] := (br).on hb
    have hbz := hb.size
    have HB2 := Lib.hid ((HB1.out).trans (hb.mono (by first | exact Nat.le_refl _ | omega | (simp; done) | (simp; omega))))
    have hz2 : w.heap.size ≤ w2.heap.size := HB2.out.size
    clear hb hbz
    generalize ofI (a1 * b1) (a2 * b2) = R at *
    obtain ⟨⟨x, y⟩, er⟩ := R
    simp only [tupR, agg2]
    have q_br0 : w2.cell? ⟨w.heap.size + 2, 0, none⟩ = some (.int .i64 0) := br.cell 0
    have q_br1 : w2.cell? ⟨w.heap.size + 2, 1, none⟩ = some (.int .i64 0) := br.cell 1
    have f_br0 : w2.frozen? ⟨w.heap.size + 2, 0, none⟩ = false := br.frozen 0
    have f_br1 : w2.frozen? ⟨w.heap.size + 2, 1, none⟩ = false := br.frozen 1
    go_wp2_with fail
    exact bodyPost_ret (v := .tuple #[.agg #[.int .i64 x, .int .i64 y], .int .i64 er]) (by simp [results, Tryd.results36, go_sem, q_br0, q_br1]) rfl ⟨ret_tupR HD.out, below_set2 (HB2.out) (by first | exact Nat.le_refl _ | omega | (simp; done) | (simp; omega)) _ _⟩
set_option maxHeartbeats 1000000 in
theorem qDiv_any (a1 a2 b1 b2 : Int) (w : World) :
    Calls Tryd.prog 38 #[.agg #[.int .i64 a1, .int .i64 a2], .agg #[.int .i64 b1, .int .i64 b2]] w fun e w' => e = .returned (tupR (divR a1 a2 b1 b2)) ∧ Below w.heap.size w w' := by
  unfold divR
  cases hv : (vR a1 a2 && vR b1 b2)
  · have HD := Lib.hid (val_no (n := a1 * b2) (d := a2 * b1) hv)
    go_enter Tryd.func38, Tryd.ntmps38
    go_wp2_with fail
    refine (both_any _ _ _ _ _).mono ?_
    rintro e w1 ⟨rfl, hb⟩
    have ba : Blk w1 (w.heap.size) 23 #[.int .i64 a1, .int .i64 a2] := (((Blk.new _ _ _).alloc _).alloc _).on hb
    have bb : Blk w1 (w.heap.size + 1) 23 #[.int .i64 b1, .int .i64 b2] := ((Blk.new1 _ _ _ _).alloc _).on hb
    have br : Blk w1 (w.heap.size + 2) 23 #[.int .i64 0, .int .i64 0] := (Blk.new2 _ _ _ _ _).on hb
    have hbz := hb.size
    have HB1 := Lib.hid (((((Below.refl w.heap.size w).alloc (by first | exact Nat.le_refl _ | omega | (simp; done) | (simp; omega)) _).alloc (by first | exact Nat.le_refl _ | omega | (simp; done) | (simp; omega)) _).alloc (by first | exact Nat.le_refl _ | omega | (simp; done) | (simp; omega)) _).trans (hb.mono (by first | exact Nat.le_refl _ | omega | (simp; done) | (simp; omega))))
    have hz1 : w.heap.size ≤ w1.heap.size := HB1.out.size
    clear hb hbz
    rw [hv]
    clear hv
    have q_br0 : w1.cell? ⟨w.heap.size + 2, 0, none⟩ = some (.int .i64 0) := br.cell 0
    have q_br1 : w1.cell? ⟨w.heap.size + 2, 1, none⟩ = some (.int .i64 0) := br.cell 1
    have f_br0 : w1.frozen? ⟨w.heap.size + 2, 0, none⟩ = false := br.frozen 0
    have f_br1 : w1.frozen? ⟨w.heap.size + 2, 1, none⟩ = false := br.frozen 1
    go_wp2_with fail
    exact bodyPost_ret (v := .tuple #[.agg #[.int .i64 0, .int .i64 0], .int .i64 2]) (by simp [results, Tryd.results38, go_sem, q_br0, q_br1]) rfl ⟨ret_tupR HD.out, below_set2 (HB1.out) (by first | exact Nat.le_refl _ | omega | (simp; done) | (simp; omega)) _ _⟩
  · have HD := Lib.hid (val_yes (n := a1 * b2) (d := a2 * b1) hv)
    rw [Bool.and_eq_true] at hv
    have HV := Lib.hid hv
    have ha := vR_bd hv.1
    have hb := vR_bd hv.2
    clear hv
    have m1 := bd_nd (x := a1) (y := b2) (by omega) (by omega)
    have m2 := bd_nd (x := b1) (y := a2) (by omega) (by omega)
    have m3 := bd_dd (x := a2) (y := b2) (by omega) (by omega)
    have m4 := bd_nn (x := a1) (y := b1) (by omega) (by omega)
    have m5 : -1000000000000000 ≤ a2 * b1 ∧ a2 * b1 ≤ 1000000000000000 := by rw [Int.mul_comm]; exact m2
    obtain ⟨a21, a22, a11, a12⟩ := ha
    obtain ⟨b21, b22, b11, b12⟩ := hb
    obtain ⟨m11, m12⟩ := m1
    obtain ⟨m21, m22⟩ := m2
    obtain ⟨m31, m32⟩ := m3
    obtain ⟨m41, m42⟩ := m4
    obtain ⟨m51, m52⟩ := m5
    go_enter Tryd.func38, Tryd.ntmps38
    go_wp2_with fail
    refine (both_any _ _ _ _ _).mono ?_
    rintro e w1 ⟨rfl, hb⟩
    have ba : Blk w1 (w.heap.size) 23 #[.int .i64 a1, .int .i64 a2] := (((Blk.new _ _ _).alloc _).alloc _).on hb
    have bb : Blk w1 (w.heap.size + 1) 23 #[.int .i64 b1, .int .i64 b2] := ((Blk.new1 _ _ _ _).alloc _).on hb
    have br : Blk w1 (w.heap.size + 2) 23 #[.int .i64 0, .int .i64 0] := (Blk.new2 _ _ _ _ _).on hb
    have hbz := hb.size
    have HB1 := Lib.hid (((((Below.refl w.heap.size w).alloc (by first | exact Nat.le_refl _ | omega | (simp; done) | (simp; omega)) _).alloc (by first | exact Nat.le_refl _ | omega | (simp; done) | (simp; omega)) _).alloc (by first | exact Nat.le_refl _ | omega | (simp; done) | (simp; omega)) _).trans (hb.mono (by first | exact Nat.le_refl _ | omega | (simp; done) | (simp; omega))))
    have hz1 : w.heap.size ≤ w1.heap.size := HB1.out.size
    clear hb hbz
    rw [HV.out.1, HV.out.2]
    have q_ba0 : w1.cell? ⟨w.heap.size, 0, none⟩ = some (.int .i64 a1) := ba.cell 0
    have q_ba1 : w1.cell? ⟨w.heap.size, 1, none⟩ = some (.int .i64 a2) := ba.cell 1
    have q_bb0 : w1.cell? ⟨w.heap.size + 1, 0, none⟩ = some (.int .i64 b1) := bb.cell 0
    have q_bb1 : w1.cell? ⟨w.heap.size + 1, 1, none⟩ = some (.int .i64 b2) := bb.cell 1
    have q_br0 : w1.cell? ⟨w.heap.size + 2, 0, none⟩ = some (.int .i64 0) := br.cell 0
    have q_br1 : w1.cell? ⟨w.heap.size + 2, 1, none⟩ = some (.int .i64 0) := br.cell 1
    have f_br0 : w1.frozen? ⟨w.heap.size + 2, 0, none⟩ = false := br.frozen 0
    have f_br1 : w1.frozen? ⟨w.heap.size + 2, 1, none⟩ = false := br.frozen 1
    go_wp2_with fail
    refine (of_any (a1 * b2) (a2 * b1) _ (by omega) (by omega) (by omega) (by omega)).mono ?_
    rintro e w2 ⟨rfl, hb⟩
    clear ba
    clear bb
    clear q_ba0 q_ba1 q_bb0 q_bb1 q_br0 q_br1 f_br0 f_br1
    have br : Blk w2 (w.heap.size + 2) 23 #[.int .i64 0, .int .i64 0] := (br).on hb
    have hbz := hb.size
    have HB2 := Lib.hid ((HB1.out).trans (hb.mono (by first | exact Nat.le_refl _ | omega | (simp; done) | (simp; omega))))
    have hz2 : w.heap.size ≤ w2.heap.size := HB2.out.size
    clear hb hbz
    generalize ofI (a1 * b2) (a2 * b1) = R at *
    obtain ⟨⟨x, y⟩, er⟩ := R
    simp only [tupR, agg2]
    have q_br0 : w2.cell? ⟨w.heap.size + 2, 0, none⟩ = some (.int .i64 0) := br.cell 0
    have q_br1 : w2.cell? ⟨w.heap.size + 2, 1, none⟩ = some (.int .i64 0) := br.cell 1
    have f_br0 : w2.frozen? ⟨w.heap.size + 2, 0, none⟩ = false := br.frozen 0
    have f_br1 : w2.frozen? ⟨w.heap.size + 2, 1, none⟩ = false := br.frozen 1
    go_wp2_with fail
    exact bodyPost_ret (v := .tuple #[.agg #[.int .i64 x, .int .i64 y], .int .i64 er]) (by simp [results, Tryd.results38, go_sem, q_br0, q_br1]) rfl ⟨ret_tupR HD.out, below_set2 (HB2.out) (by first | exact Nat.le_refl _ | omega | (simp; done) | (simp; omega)) _ _⟩
end Go.Proofs.YtpkekfhnpcjgkaaDoor
