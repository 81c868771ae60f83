/- Results that are states: ranged, checked, done, the two Start. -/
import Derived.Test.YtojghgeemdpmpaaMU
namespace Go.Proofs.Ytojghgeemdpmpaa
open Go.RowKit
open Go.Sort (grow)

def MS.z : MS := ⟨0, 0, 0, 0, 0, 0, 0⟩
/-- A state and an error. -/
def MR (x : MS × Int) : Value := .tuple #[.agg x.1.cs, .int .i64 x.2]
def rgS (s : MS) : MS × Int := if s.e = 0 then (s, 0) else (MS.z, 2)
def ckS (s : MS) : MS × Int := if s.e = 0 then (s, 0) else (MS.z, s.e)
theorem rg_ok {s : MS} (h : s.e = 0) : rgS s = (s, 0) := if_pos h
theorem rg_no {s : MS} (h : s.e ≠ 0) : rgS s = (MS.z, 2) := if_neg h
theorem ck_ok {s : MS} (h : s.e = 0) : ckS s = (s, 0) := if_pos h
theorem ck_no {s : MS} (h : s.e ≠ 0) : ckS s = (MS.z, s.e) := if_neg h
theorem ret_MR {x : MS × Int} {sh nx fl ac fi wa li e : Int} (h : x = (⟨sh, nx, fl, ac, fi, wa, li⟩, e)) : Ending.returned (.tuple #[.agg #[.int .i64 sh, .int .i64 nx, .int .i64 fl, .int .i64 ac, .int .i64 fi, .int .i64 wa, .int .i64 li], .int .i64 e]) = .returned (MR x) := by subst h; rfl
theorem MCheck_lit (sh nx fl ac fi wa li : Int) (w : World) : Calls Try.prog 12 #[.agg #[.int .i64 sh, .int .i64 nx, .int .i64 fl, .int .i64 ac, .int .i64 fi, .int .i64 wa, .int .i64 li]] w fun e w' => e = .returned (.int .i64 (MS.e ⟨sh, nx, fl, ac, fi, wa, li⟩)) ∧ Below w.heap.size w w' := MCheck_any ⟨sh, nx, fl, ac, fi, wa, li⟩ w
theorem rMCheck_lit (sh nx fl ac fi wa li : Int) (w : World) : Calls Try.prog 13 #[.agg #[.int .i64 sh, .int .i64 nx, .int .i64 fl, .int .i64 ac, .int .i64 fi, .int .i64 wa, .int .i64 li]] w fun e w' => e = .returned (.int .i64 (MS.e ⟨sh, nx, fl, ac, fi, wa, li⟩)) ∧ Below w.heap.size w w' := rMCheck_any ⟨sh, nx, fl, ac, fi, wa, li⟩ w
set_option maxHeartbeats 2000000 in
set_option maxRecDepth 20000 in
theorem ranged_any (sh nx fl ac fi wa li : Int) (w : World) : Calls Try.prog 41 #[.agg #[.int .i64 sh, .int .i64 nx, .int .i64 fl, .int .i64 ac, .int .i64 fi, .int .i64 wa, .int .i64 li]] w fun e w' => e = .returned (MR (rgS ⟨sh, nx, fl, ac, fi, wa, li⟩)) ∧ Below w.heap.size w w' := by
  go_enter Try.func41, Try.ntmps41
  go_wp2_with fail
  refine (MCheck_lit sh nx fl ac fi wa li _).mono ?_
  rintro e w1 ⟨rfl, hb⟩
  have bs : Blk w1 (w.heap.size) 23 #[.int .i64 sh, .int .i64 nx, .int .i64 fl, .int .i64 ac, .int .i64 fi, .int .i64 wa, .int .i64 li] := ((Blk.new _ _ _).alloc _).on hb
  have br : Blk w1 (w.heap.size + 1) 23 #[.int .i64 0, .int .i64 0, .int .i64 0, .int .i64 0, .int .i64 0, .int .i64 0, .int .i64 0] := (Blk.new1 _ _ _ _).on hb
  have hbz := hb.size
  have HB1 := Lib.hid ((((Below.refl w.heap.size w).alloc (by first | exact Nat.le_refl _ | omega | (simp; done) | (simp; omega)) _).alloc (by first | exact Nat.le_refl _ | omega | (simp; done) | (simp; omega)) _).trans (hb.mono (by first | exact Nat.le_refl _ | omega | (simp; done) | (simp; omega))))
  have hz1 : w.heap.size ≤ w1.heap.size := HB1.out.size
  clear hb hbz
  have hn0 := Nat.le_refl w.heap.size
  by_cases h0 : MS.e ⟨sh, nx, fl, ac, fi, wa, li⟩ = 0
  · have HD := Lib.hid (rg_ok h0)
    rw [h0]
    clear h0
    have q_bs0 : w1.cell? ⟨w.heap.size, 0, none⟩ = some (.int .i64 sh) := bs.cell 0
    have q_bs1 : w1.cell? ⟨w.heap.size, 1, none⟩ = some (.int .i64 nx) := bs.cell 1
    have q_bs2 : w1.cell? ⟨w.heap.size, 2, none⟩ = some (.int .i64 fl) := bs.cell 2
    have q_bs3 : w1.cell? ⟨w.heap.size, 3, none⟩ = some (.int .i64 ac) := bs.cell 3
    have q_bs4 : w1.cell? ⟨w.heap.size, 4, none⟩ = some (.int .i64 fi) := bs.cell 4
    have q_bs5 : w1.cell? ⟨w.heap.size, 5, none⟩ = some (.int .i64 wa) := bs.cell 5
    have q_bs6 : w1.cell? ⟨w.heap.size, 6, none⟩ = some (.int .i64 li) := bs.cell 6
    have q_br0 : w1.cell? ⟨w.heap.size + 1, 0, none⟩ = some (.int .i64 0) := br.cell 0
    have q_br1 : w1.cell? ⟨w.heap.size + 1, 1, none⟩ = some (.int .i64 0) := br.cell 1
    have q_br2 : w1.cell? ⟨w.heap.size + 1, 2, none⟩ = some (.int .i64 0) := br.cell 2
    have q_br3 : w1.cell? ⟨w.heap.size + 1, 3, none⟩ = some (.int .i64 0) := br.cell 3
    have q_br4 : w1.cell? ⟨w.heap.size + 1, 4, none⟩ = some (.int .i64 0) := br.cell 4
    have q_br5 : w1.cell? ⟨w.heap.size + 1, 5, none⟩ = some (.int .i64 0) := br.cell 5
    have q_br6 : w1.cell? ⟨w.heap.size + 1, 6, none⟩ = some (.int .i64 0) := br.cell 6
    have f_br0 : w1.frozen? ⟨w.heap.size + 1, 0, none⟩ = false := br.frozen 0
    have f_br1 : w1.frozen? ⟨w.heap.size + 1, 1, none⟩ = false := br.frozen 1
    have f_br2 : w1.frozen? ⟨w.heap.size + 1, 2, none⟩ = false := br.frozen 2
    have f_br3 : w1.frozen? ⟨w.heap.size + 1, 3, none⟩ = false := br.frozen 3
    have f_br4 : w1.frozen? ⟨w.heap.size + 1, 4, none⟩ = false := br.frozen 4
    have f_br5 : w1.frozen? ⟨w.heap.size + 1, 5, none⟩ = false := br.frozen 5
    have f_br6 : w1.frozen? ⟨w.heap.size + 1, 6, none⟩ = false := br.frozen 6
    go_wp2_with fail
    exact bodyPost_ret (v := .tuple #[.agg #[.int .i64 sh, .int .i64 nx, .int .i64 fl, .int .i64 ac, .int .i64 fi, .int .i64 wa, .int .i64 li], .int .i64 0]) (by simp [results, Try.results41, go_sem, q_br0, q_br1, q_br2, q_br3, q_br4, q_br5, q_br6]) rfl ⟨ret_MR HD.out, below_set7 HB1.out (H := w.heap.size + 1) (by omega) _ _ _ _ _ _ _⟩
  · have HD := Lib.hid (rg_no h0)
    generalize MS.e ⟨sh, nx, fl, ac, fi, wa, li⟩ = n at *
    have hne : (n == 0) = false := beq_eq_false_iff_ne.2 h0
    clear h0
    have q_bs0 : w1.cell? ⟨w.heap.size, 0, none⟩ = some (.int .i64 sh) := bs.cell 0
    have q_bs1 : w1.cell? ⟨w.heap.size, 1, none⟩ = some (.int .i64 nx) := bs.cell 1
    have q_bs2 : w1.cell? ⟨w.heap.size, 2, none⟩ = some (.int .i64 fl) := bs.cell 2
    have q_bs3 : w1.cell? ⟨w.heap.size, 3, none⟩ = some (.int .i64 ac) := bs.cell 3
    have q_bs4 : w1.cell? ⟨w.heap.size, 4, none⟩ = some (.int .i64 fi) := bs.cell 4
    have q_bs5 : w1.cell? ⟨w.heap.size, 5, none⟩ = some (.int .i64 wa) := bs.cell 5
    have q_bs6 : w1.cell? ⟨w.heap.size, 6, none⟩ = some (.int .i64 li) := bs.cell 6
    have q_br0 : w1.cell? ⟨w.heap.size + 1, 0, none⟩ = some (.int .i64 0) := br.cell 0
    have q_br1 : w1.cell? ⟨w.heap.size + 1, 1, none⟩ = some (.int .i64 0) := br.cell 1
    have q_br2 : w1.cell? ⟨w.heap.size + 1, 2, none⟩ = some (.int .i64 0) := br.cell 2
    have q_br3 : w1.cell? ⟨w.heap.size + 1, 3, none⟩ = some (.int .i64 0) := br.cell 3
    have q_br4 : w1.cell? ⟨w.heap.size + 1, 4, none⟩ = some (.int .i64 0) := br.cell 4
    have q_br5 : w1.cell? ⟨w.heap.size + 1, 5, none⟩ = some (.int .i64 0) := br.cell 5
    have q_br6 : w1.cell? ⟨w.heap.size + 1, 6, none⟩ = some (.int .i64 0) := br.cell 6
    have f_br0 : w1.frozen? ⟨w.heap.size + 1, 0, none⟩ = false := br.frozen 0
    have f_br1 : w1.frozen? ⟨w.heap.size + 1, 1, none⟩ = false := br.frozen 1
    have f_br2 : w1.frozen? ⟨w.heap.size + 1, 2, none⟩ = false := br.frozen 2
    have f_br3 : w1.frozen? ⟨w.heap.size + 1, 3, none⟩ = false := br.frozen 3
    have f_br4 : w1.frozen? ⟨w.heap.size + 1, 4, none⟩ = false := br.frozen 4
    have f_br5 : w1.frozen? ⟨w.heap.size + 1, 5, none⟩ = false := br.frozen 5
    have f_br6 : w1.frozen? ⟨w.heap.size + 1, 6, none⟩ = false := br.frozen 6
    go_wp2_with fail
    exact bodyPost_ret (v := .tuple #[.agg #[.int .i64 0, .int .i64 0, .int .i64 0, .int .i64 0, .int .i64 0, .int .i64 0, .int .i64 0], .int .i64 2]) (by simp [results, Try.results41, go_sem, q_br0, q_br1, q_br2, q_br3, q_br4, q_br5, q_br6]) rfl ⟨ret_MR HD.out, below_set7 HB1.out (H := w.heap.size + 1) (by omega) _ _ _ _ _ _ _⟩
set_option maxHeartbeats 2000000 in
set_option maxRecDepth 20000 in
theorem done_any (sh nx fl ac fi wa li : Int) (w : World) : Calls Try.prog 42 #[.agg #[.int .i64 sh, .int .i64 nx, .int .i64 fl, .int .i64 ac, .int .i64 fi, .int .i64 wa, .int .i64 li]] w fun e w' => e = .returned (MR (rgS ⟨sh, nx, fl, ac, fi, wa, li⟩)) ∧ Below w.heap.size w w' := by
  go_enter Try.func42, Try.ntmps42
  go_wp2_with fail
  refine (rMCheck_lit sh nx fl ac fi wa li _).mono ?_
  rintro e w1 ⟨rfl, hb⟩
  have bs : Blk w1 (w.heap.size) 23 #[.int .i64 sh, .int .i64 nx, .int .i64 fl, .int .i64 ac, .int .i64 fi, .int .i64 wa, .int .i64 li] := ((Blk.new _ _ _).alloc _).on hb
  have br : Blk w1 (w.heap.size + 1) 23 #[.int .i64 0, .int .i64 0, .int .i64 0, .int .i64 0, .int .i64 0, .int .i64 0, .int .i64 0] := (Blk.new1 _ _ _ _).on hb
  have hbz := hb.size
  have HB1 := Lib.hid ((((Below.refl w.heap.size w).alloc (by first | exact Nat.le_refl _ | omega | (simp; done) | (simp; omega)) _).alloc (by first | exact Nat.le_refl _ | omega | (simp; done) | (simp; omega)) _).trans (hb.mono (by first | exact Nat.le_refl _ | omega | (simp; done) | (simp; omega))))
  have hz1 : w.heap.size ≤ w1.heap.size := HB1.out.size
  clear hb hbz
  have hn0 := Nat.le_refl w.heap.size
  by_cases h0 : MS.e ⟨sh, nx, fl, ac, fi, wa, li⟩ = 0
  · have HD := Lib.hid (rg_ok h0)
    rw [h0]
    clear h0
    have q_bs0 : w1.cell? ⟨w.heap.size, 0, none⟩ = some (.int .i64 sh) := bs.cell 0
    have q_bs1 : w1.cell? ⟨w.heap.size, 1, none⟩ = some (.int .i64 nx) := bs.cell 1
    have q_bs2 : w1.cell? ⟨w.heap.size, 2, none⟩ = some (.int .i64 fl) := bs.cell 2
    have q_bs3 : w1.cell? ⟨w.heap.size, 3, none⟩ = some (.int .i64 ac) := bs.cell 3
    have q_bs4 : w1.cell? ⟨w.heap.size, 4, none⟩ = some (.int .i64 fi) := bs.cell 4
    have q_bs5 : w1.cell? ⟨w.heap.size, 5, none⟩ = some (.int .i64 wa) := bs.cell 5
    have q_bs6 : w1.cell? ⟨w.heap.size, 6, none⟩ = some (.int .i64 li) := bs.cell 6
    have q_br0 : w1.cell? ⟨w.heap.size + 1, 0, none⟩ = some (.int .i64 0) := br.cell 0
    have q_br1 : w1.cell? ⟨w.heap.size + 1, 1, none⟩ = some (.int .i64 0) := br.cell 1
    have q_br2 : w1.cell? ⟨w.heap.size + 1, 2, none⟩ = some (.int .i64 0) := br.cell 2
    have q_br3 : w1.cell? ⟨w.heap.size + 1, 3, none⟩ = some (.int .i64 0) := br.cell 3
    have q_br4 : w1.cell? ⟨w.heap.size + 1, 4, none⟩ = some (.int .i64 0) := br.cell 4
    have q_br5 : w1.cell? ⟨w.heap.size + 1, 5, none⟩ = some (.int .i64 0) := br.cell 5
    have q_br6 : w1.cell? ⟨w.heap.size + 1, 6, none⟩ = some (.int .i64 0) := br.cell 6
    have f_br0 : w1.frozen? ⟨w.heap.size + 1, 0, none⟩ = false := br.frozen 0
    have f_br1 : w1.frozen? ⟨w.heap.size + 1, 1, none⟩ = false := br.frozen 1
    have f_br2 : w1.frozen? ⟨w.heap.size + 1, 2, none⟩ = false := br.frozen 2
    have f_br3 : w1.frozen? ⟨w.heap.size + 1, 3, none⟩ = false := br.frozen 3
    have f_br4 : w1.frozen? ⟨w.heap.size + 1, 4, none⟩ = false := br.frozen 4
    have f_br5 : w1.frozen? ⟨w.heap.size + 1, 5, none⟩ = false := br.frozen 5
    have f_br6 : w1.frozen? ⟨w.heap.size + 1, 6, none⟩ = false := br.frozen 6
    go_wp2_with fail
    exact bodyPost_ret (v := .tuple #[.agg #[.int .i64 sh, .int .i64 nx, .int .i64 fl, .int .i64 ac, .int .i64 fi, .int .i64 wa, .int .i64 li], .int .i64 0]) (by simp [results, Try.results42, go_sem, q_br0, q_br1, q_br2, q_br3, q_br4, q_br5, q_br6]) rfl ⟨ret_MR HD.out, below_set7 HB1.out (H := w.heap.size + 1) (by omega) _ _ _ _ _ _ _⟩
  · have HD := Lib.hid (rg_no h0)
    generalize MS.e ⟨sh, nx, fl, ac, fi, wa, li⟩ = n at *
    have hne : (n == 0) = false := beq_eq_false_iff_ne.2 h0
    clear h0
    have q_bs0 : w1.cell? ⟨w.heap.size, 0, none⟩ = some (.int .i64 sh) := bs.cell 0
    have q_bs1 : w1.cell? ⟨w.heap.size, 1, none⟩ = some (.int .i64 nx) := bs.cell 1
    have q_bs2 : w1.cell? ⟨w.heap.size, 2, none⟩ = some (.int .i64 fl) := bs.cell 2
    have q_bs3 : w1.cell? ⟨w.heap.size, 3, none⟩ = some (.int .i64 ac) := bs.cell 3
    have q_bs4 : w1.cell? ⟨w.heap.size, 4, none⟩ = some (.int .i64 fi) := bs.cell 4
    have q_bs5 : w1.cell? ⟨w.heap.size, 5, none⟩ = some (.int .i64 wa) := bs.cell 5
    have q_bs6 : w1.cell? ⟨w.heap.size, 6, none⟩ = some (.int .i64 li) := bs.cell 6
    have q_br0 : w1.cell? ⟨w.heap.size + 1, 0, none⟩ = some (.int .i64 0) := br.cell 0
    have q_br1 : w1.cell? ⟨w.heap.size + 1, 1, none⟩ = some (.int .i64 0) := br.cell 1
    have q_br2 : w1.cell? ⟨w.heap.size + 1, 2, none⟩ = some (.int .i64 0) := br.cell 2
    have q_br3 : w1.cell? ⟨w.heap.size + 1, 3, none⟩ = some (.int .i64 0) := br.cell 3
    have q_br4 : w1.cell? ⟨w.heap.size + 1, 4, none⟩ = some (.int .i64 0) := br.cell 4
    have q_br5 : w1.cell? ⟨w.heap.size + 1, 5, none⟩ = some (.int .i64 0) := br.cell 5
    have q_br6 : w1.cell? ⟨w.heap.size + 1, 6, none⟩ = some (.int .i64 0) := br.cell 6
    have f_br0 : w1.frozen? ⟨w.heap.size + 1, 0, none⟩ = false := br.frozen 0
    have f_br1 : w1.frozen? ⟨w.heap.size + 1, 1, none⟩ = false := br.frozen 1
    have f_br2 : w1.frozen? ⟨w.heap.size + 1, 2, none⟩ = false := br.frozen 2
    have f_br3 : w1.frozen? ⟨w.heap.size + 1, 3, none⟩ = false := br.frozen 3
    have f_br4 : w1.frozen? ⟨w.heap.size + 1, 4, none⟩ = false := br.frozen 4
    have f_br5 : w1.frozen? ⟨w.heap.size + 1, 5, none⟩ = false := br.frozen 5
    have f_br6 : w1.frozen? ⟨w.heap.size + 1, 6, none⟩ = false := br.frozen 6
    go_wp2_with fail
    exact bodyPost_ret (v := .tuple #[.agg #[.int .i64 0, .int .i64 0, .int .i64 0, .int .i64 0, .int .i64 0, .int .i64 0, .int .i64 0], .int .i64 2]) (by simp [results, Try.results42, go_sem, q_br0, q_br1, q_br2, q_br3, q_br4, q_br5, q_br6]) rfl ⟨ret_MR HD.out, below_set7 HB1.out (H := w.heap.size + 1) (by omega) _ _ _ _ _ _ _⟩
set_option maxHeartbeats 2000000 in
set_option maxRecDepth 20000 in
theorem checked_any (sh nx fl ac fi wa li : Int) (w : World) : Calls Try.prog 34 #[.agg #[.int .i64 sh, .int .i64 nx, .int .i64 fl, .int .i64 ac, .int .i64 fi, .int .i64 wa, .int .i64 li]] w fun e w' => e = .returned (MR (ckS ⟨sh, nx, fl, ac, fi, wa, li⟩)) ∧ Below w.heap.size w w' := by
  go_enter Try.func34, Try.ntmps34
  go_wp2_with fail
  refine (MCheck_lit sh nx fl ac fi wa li _).mono ?_
  rintro e w1 ⟨rfl, hb⟩
  have bs : Blk w1 (w.heap.size) 23 #[.int .i64 sh, .int .i64 nx, .int .i64 fl, .int .i64 ac, .int .i64 fi, .int .i64 wa, .int .i64 li] := ((Blk.new _ _ _).alloc _).on hb
  have br : Blk w1 (w.heap.size + 1) 23 #[.int .i64 0, .int .i64 0, .int .i64 0, .int .i64 0, .int .i64 0, .int .i64 0, .int .i64 0] := (Blk.new1 _ _ _ _).on hb
  have hbz := hb.size
  have HB1 := Lib.hid ((((Below.refl w.heap.size w).alloc (by first | exact Nat.le_refl _ | omega | (simp; done) | (simp; omega)) _).alloc (by first | exact Nat.le_refl _ | omega | (simp; done) | (simp; omega)) _).trans (hb.mono (by first | exact Nat.le_refl _ | omega | (simp; done) | (simp; omega))))
  have hz1 : w.heap.size ≤ w1.heap.size := HB1.out.size
  clear hb hbz
  have hn0 := Nat.le_refl w.heap.size
  by_cases h0 : MS.e ⟨sh, nx, fl, ac, fi, wa, li⟩ = 0
  · have HD := Lib.hid (ck_ok h0)
    rw [h0]
    clear h0
    have q_bs0 : w1.cell? ⟨w.heap.size, 0, none⟩ = some (.int .i64 sh) := bs.cell 0
    have q_bs1 : w1.cell? ⟨w.heap.size, 1, none⟩ = some (.int .i64 nx) := bs.cell 1
    have q_bs2 : w1.cell? ⟨w.heap.size, 2, none⟩ = some (.int .i64 fl) := bs.cell 2
    have q_bs3 : w1.cell? ⟨w.heap.size, 3, none⟩ = some (.int .i64 ac) := bs.cell 3
    have q_bs4 : w1.cell? ⟨w.heap.size, 4, none⟩ = some (.int .i64 fi) := bs.cell 4
    have q_bs5 : w1.cell? ⟨w.heap.size, 5, none⟩ = some (.int .i64 wa) := bs.cell 5
    have q_bs6 : w1.cell? ⟨w.heap.size, 6, none⟩ = some (.int .i64 li) := bs.cell 6
    have q_br0 : w1.cell? ⟨w.heap.size + 1, 0, none⟩ = some (.int .i64 0) := br.cell 0
    have q_br1 : w1.cell? ⟨w.heap.size + 1, 1, none⟩ = some (.int .i64 0) := br.cell 1
    have q_br2 : w1.cell? ⟨w.heap.size + 1, 2, none⟩ = some (.int .i64 0) := br.cell 2
    have q_br3 : w1.cell? ⟨w.heap.size + 1, 3, none⟩ = some (.int .i64 0) := br.cell 3
    have q_br4 : w1.cell? ⟨w.heap.size + 1, 4, none⟩ = some (.int .i64 0) := br.cell 4
    have q_br5 : w1.cell? ⟨w.heap.size + 1, 5, none⟩ = some (.int .i64 0) := br.cell 5
    have q_br6 : w1.cell? ⟨w.heap.size + 1, 6, none⟩ = some (.int .i64 0) := br.cell 6
    have f_br0 : w1.frozen? ⟨w.heap.size + 1, 0, none⟩ = false := br.frozen 0
    have f_br1 : w1.frozen? ⟨w.heap.size + 1, 1, none⟩ = false := br.frozen 1
    have f_br2 : w1.frozen? ⟨w.heap.size + 1, 2, none⟩ = false := br.frozen 2
    have f_br3 : w1.frozen? ⟨w.heap.size + 1, 3, none⟩ = false := br.frozen 3
    have f_br4 : w1.frozen? ⟨w.heap.size + 1, 4, none⟩ = false := br.frozen 4
    have f_br5 : w1.frozen? ⟨w.heap.size + 1, 5, none⟩ = false := br.frozen 5
    have f_br6 : w1.frozen? ⟨w.heap.size + 1, 6, none⟩ = false := br.frozen 6
    go_wp2_with fail
    exact bodyPost_ret (v := .tuple #[.agg #[.int .i64 sh, .int .i64 nx, .int .i64 fl, .int .i64 ac, .int .i64 fi, .int .i64 wa, .int .i64 li], .int .i64 0]) (by simp [results, Try.results34, go_sem, q_br0, q_br1, q_br2, q_br3, q_br4, q_br5, q_br6]) rfl ⟨ret_MR HD.out, below_set7 HB1.out (H := w.heap.size + 1) (by omega) _ _ _ _ _ _ _⟩
  · have HD := Lib.hid (ck_no h0)
    generalize MS.e ⟨sh, nx, fl, ac, fi, wa, li⟩ = n at *
    have hne : (n == 0) = false := beq_eq_false_iff_ne.2 h0
    clear h0
    have q_bs0 : w1.cell? ⟨w.heap.size, 0, none⟩ = some (.int .i64 sh) := bs.cell 0
    have q_bs1 : w1.cell? ⟨w.heap.size, 1, none⟩ = some (.int .i64 nx) := bs.cell 1
    have q_bs2 : w1.cell? ⟨w.heap.size, 2, none⟩ = some (.int .i64 fl) := bs.cell 2
    have q_bs3 : w1.cell? ⟨w.heap.size, 3, none⟩ = some (.int .i64 ac) := bs.cell 3
    have q_bs4 : w1.cell? ⟨w.heap.size, 4, none⟩ = some (.int .i64 fi) := bs.cell 4
    have q_bs5 : w1.cell? ⟨w.heap.size, 5, none⟩ = some (.int .i64 wa) := bs.cell 5
    have q_bs6 : w1.cell? ⟨w.heap.size, 6, none⟩ = some (.int .i64 li) := bs.cell 6
    have q_br0 : w1.cell? ⟨w.heap.size + 1, 0, none⟩ = some (.int .i64 0) := br.cell 0
    have q_br1 : w1.cell? ⟨w.heap.size + 1, 1, none⟩ = some (.int .i64 0) := br.cell 1
    have q_br2 : w1.cell? ⟨w.heap.size + 1, 2, none⟩ = some (.int .i64 0) := br.cell 2
    have q_br3 : w1.cell? ⟨w.heap.size + 1, 3, none⟩ = some (.int .i64 0) := br.cell 3
    have q_br4 : w1.cell? ⟨w.heap.size + 1, 4, none⟩ = some (.int .i64 0) := br.cell 4
    have q_br5 : w1.cell? ⟨w.heap.size + 1, 5, none⟩ = some (.int .i64 0) := br.cell 5
    have q_br6 : w1.cell? ⟨w.heap.size + 1, 6, none⟩ = some (.int .i64 0) := br.cell 6
    have f_br0 : w1.frozen? ⟨w.heap.size + 1, 0, none⟩ = false := br.frozen 0
    have f_br1 : w1.frozen? ⟨w.heap.size + 1, 1, none⟩ = false := br.frozen 1
    have f_br2 : w1.frozen? ⟨w.heap.size + 1, 2, none⟩ = false := br.frozen 2
    have f_br3 : w1.frozen? ⟨w.heap.size + 1, 3, none⟩ = false := br.frozen 3
    have f_br4 : w1.frozen? ⟨w.heap.size + 1, 4, none⟩ = false := br.frozen 4
    have f_br5 : w1.frozen? ⟨w.heap.size + 1, 5, none⟩ = false := br.frozen 5
    have f_br6 : w1.frozen? ⟨w.heap.size + 1, 6, none⟩ = false := br.frozen 6
    go_wp2_with fail
    exact bodyPost_ret (v := .tuple #[.agg #[.int .i64 0, .int .i64 0, .int .i64 0, .int .i64 0, .int .i64 0, .int .i64 0, .int .i64 0], .int .i64 n]) (by simp [results, Try.results34, go_sem, q_br0, q_br1, q_br2, q_br3, q_br4, q_br5, q_br6]) rfl ⟨ret_MR HD.out, below_set7 HB1.out (H := w.heap.size + 1) (by omega) _ _ _ _ _ _ _⟩
set_option maxHeartbeats 2000000 in
set_option maxRecDepth 20000 in
theorem Start_any (a b : Int) (w : World) : Calls Try.prog 15 #[.int .i64 a, .int .i64 b] w fun e w' => e = .returned (MR (ckS ⟨a, b, 0, 0, 0, 0, 0⟩)) ∧ Below w.heap.size w w' := by
  go_enter Try.func15, Try.ntmps15
  go_wp2_with fail
  refine (checked_any a b 0 0 0 0 0 _).mono ?_
  rintro e w1 ⟨rfl, hb⟩
  have br : Blk w1 (w.heap.size) 23 #[.int .i64 0, .int .i64 0, .int .i64 0, .int .i64 0, .int .i64 0, .int .i64 0, .int .i64 0] := (Blk.new _ _ _).on hb
  have hbz := hb.size
  have HB1 := Lib.hid (((Below.refl w.heap.size w).alloc (by first | exact Nat.le_refl _ | omega | (simp; done) | (simp; omega)) _).trans (hb.mono (by first | exact Nat.le_refl _ | omega | (simp; done) | (simp; omega))))
  have hz1 : w.heap.size ≤ w1.heap.size := HB1.out.size
  clear hb hbz
  generalize hR : ckS ⟨a, b, 0, 0, 0, 0, 0⟩ = R
  obtain ⟨⟨sh, nx, fl, ac, fi, wa, li⟩, n⟩ := R
  have HD := Lib.hid hR
  clear hR
  simp only [MR, MS.cs]
  have q_br0 : w1.cell? ⟨w.heap.size, 0, none⟩ = some (.int .i64 0) := br.cell 0
  have q_br1 : w1.cell? ⟨w.heap.size, 1, none⟩ = some (.int .i64 0) := br.cell 1
  have q_br2 : w1.cell? ⟨w.heap.size, 2, none⟩ = some (.int .i64 0) := br.cell 2
  have q_br3 : w1.cell? ⟨w.heap.size, 3, none⟩ = some (.int .i64 0) := br.cell 3
  have q_br4 : w1.cell? ⟨w.heap.size, 4, none⟩ = some (.int .i64 0) := br.cell 4
  have q_br5 : w1.cell? ⟨w.heap.size, 5, none⟩ = some (.int .i64 0) := br.cell 5
  have q_br6 : w1.cell? ⟨w.heap.size, 6, none⟩ = some (.int .i64 0) := br.cell 6
  have f_br0 : w1.frozen? ⟨w.heap.size, 0, none⟩ = false := br.frozen 0
  have f_br1 : w1.frozen? ⟨w.heap.size, 1, none⟩ = false := br.frozen 1
  have f_br2 : w1.frozen? ⟨w.heap.size, 2, none⟩ = false := br.frozen 2
  have f_br3 : w1.frozen? ⟨w.heap.size, 3, none⟩ = false := br.frozen 3
  have f_br4 : w1.frozen? ⟨w.heap.size, 4, none⟩ = false := br.frozen 4
  have f_br5 : w1.frozen? ⟨w.heap.size, 5, none⟩ = false := br.frozen 5
  have f_br6 : w1.frozen? ⟨w.heap.size, 6, none⟩ = false := br.frozen 6
  go_wp2_with fail
  exact bodyPost_ret (v := .tuple #[.agg #[.int .i64 sh, .int .i64 nx, .int .i64 fl, .int .i64 ac, .int .i64 fi, .int .i64 wa, .int .i64 li], .int .i64 n]) (by simp [results, Try.results15, go_sem, q_br0, q_br1, q_br2, q_br3, q_br4, q_br5, q_br6]) rfl ⟨ret_MR HD.out, below_set7 HB1.out (H := w.heap.size) (Nat.le_refl _) _ _ _ _ _ _ _⟩
set_option maxHeartbeats 2000000 in
set_option maxRecDepth 20000 in
theorem rStart_any (a b : Int) (w : World) : Calls Try.prog 16 #[.int .i64 a, .int .i64 b] w fun e w' => e = .returned (MR (ckS ⟨a, b, 0, 0, 0, 0, 0⟩)) ∧ Below w.heap.size w w' := by
  go_enter Try.func16, Try.ntmps16
  go_wp2_with fail
  refine (rMCheck_lit a b 0 0 0 0 0 _).mono ?_
  rintro e w1 ⟨rfl, hb⟩
  have br : Blk w1 (w.heap.size) 23 #[.int .i64 0, .int .i64 0, .int .i64 0, .int .i64 0, .int .i64 0, .int .i64 0, .int .i64 0] := ((Blk.new _ _ _).alloc _).on hb
  have bs : Blk w1 (w.heap.size + 1) 23 #[.int .i64 a, .int .i64 b, .int .i64 0, .int .i64 0, .int .i64 0, .int .i64 0, .int .i64 0] := (Blk.new1 _ _ _ _).on hb
  have hbz := hb.size
  have HB1 := Lib.hid ((((Below.refl w.heap.size w).alloc (by first | exact Nat.le_refl _ | omega | (simp; done) | (simp; omega)) _).alloc (by first | exact Nat.le_refl _ | omega | (simp; done) | (simp; omega)) _).trans (hb.mono (by first | exact Nat.le_refl _ | omega | (simp; done) | (simp; omega))))
  have hz1 : w.heap.size ≤ w1.heap.size := HB1.out.size
  clear hb hbz
  by_cases h0 : MS.e ⟨a, b, 0, 0, 0, 0, 0⟩ = 0
  · have HD := Lib.hid (ck_ok h0)
    rw [h0]
    clear h0
    have q_br0 : w1.cell? ⟨w.heap.size, 0, none⟩ = some (.int .i64 0) := br.cell 0
    have q_br1 : w1.cell? ⟨w.heap.size, 1, none⟩ = some (.int .i64 0) := br.cell 1
    have q_br2 : w1.cell? ⟨w.heap.size, 2, none⟩ = some (.int .i64 0) := br.cell 2
    have q_br3 : w1.cell? ⟨w.heap.size, 3, none⟩ = some (.int .i64 0) := br.cell 3
    have q_br4 : w1.cell? ⟨w.heap.size, 4, none⟩ = some (.int .i64 0) := br.cell 4
    have q_br5 : w1.cell? ⟨w.heap.size, 5, none⟩ = some (.int .i64 0) := br.cell 5
    have q_br6 : w1.cell? ⟨w.heap.size, 6, none⟩ = some (.int .i64 0) := br.cell 6
    have q_bs0 : w1.cell? ⟨w.heap.size + 1, 0, none⟩ = some (.int .i64 a) := bs.cell 0
    have q_bs1 : w1.cell? ⟨w.heap.size + 1, 1, none⟩ = some (.int .i64 b) := bs.cell 1
    have q_bs2 : w1.cell? ⟨w.heap.size + 1, 2, none⟩ = some (.int .i64 0) := bs.cell 2
    have q_bs3 : w1.cell? ⟨w.heap.size + 1, 3, none⟩ = some (.int .i64 0) := bs.cell 3
    have q_bs4 : w1.cell? ⟨w.heap.size + 1, 4, none⟩ = some (.int .i64 0) := bs.cell 4
    have q_bs5 : w1.cell? ⟨w.heap.size + 1, 5, none⟩ = some (.int .i64 0) := bs.cell 5
    have q_bs6 : w1.cell? ⟨w.heap.size + 1, 6, none⟩ = some (.int .i64 0) := bs.cell 6
    have f_br0 : w1.frozen? ⟨w.heap.size, 0, none⟩ = false := br.frozen 0
    have f_br1 : w1.frozen? ⟨w.heap.size, 1, none⟩ = false := br.frozen 1
    have f_br2 : w1.frozen? ⟨w.heap.size, 2, none⟩ = false := br.frozen 2
    have f_br3 : w1.frozen? ⟨w.heap.size, 3, none⟩ = false := br.frozen 3
    have f_br4 : w1.frozen? ⟨w.heap.size, 4, none⟩ = false := br.frozen 4
    have f_br5 : w1.frozen? ⟨w.heap.size, 5, none⟩ = false := br.frozen 5
    have f_br6 : w1.frozen? ⟨w.heap.size, 6, none⟩ = false := br.frozen 6
    go_wp2_with fail
    exact bodyPost_ret (v := .tuple #[.agg #[.int .i64 a, .int .i64 b, .int .i64 0, .int .i64 0, .int .i64 0, .int .i64 0, .int .i64 0], .int .i64 0]) (by simp [results, Try.results16, go_sem, q_br0, q_br1, q_br2, q_br3, q_br4, q_br5, q_br6]) rfl ⟨ret_MR HD.out, below_set7 HB1.out (H := w.heap.size) (Nat.le_refl _) _ _ _ _ _ _ _⟩
  · have HD := Lib.hid (ck_no h0)
    generalize MS.e ⟨a, b, 0, 0, 0, 0, 0⟩ = n at *
    have hne : (n == 0) = false := beq_eq_false_iff_ne.2 h0
    clear h0
    have q_br0 : w1.cell? ⟨w.heap.size, 0, none⟩ = some (.int .i64 0) := br.cell 0
    have q_br1 : w1.cell? ⟨w.heap.size, 1, none⟩ = some (.int .i64 0) := br.cell 1
    have q_br2 : w1.cell? ⟨w.heap.size, 2, none⟩ = some (.int .i64 0) := br.cell 2
    have q_br3 : w1.cell? ⟨w.heap.size, 3, none⟩ = some (.int .i64 0) := br.cell 3
    have q_br4 : w1.cell? ⟨w.heap.size, 4, none⟩ = some (.int .i64 0) := br.cell 4
    have q_br5 : w1.cell? ⟨w.heap.size, 5, none⟩ = some (.int .i64 0) := br.cell 5
    have q_br6 : w1.cell? ⟨w.heap.size, 6, none⟩ = some (.int .i64 0) := br.cell 6
    have q_bs0 : w1.cell? ⟨w.heap.size + 1, 0, none⟩ = some (.int .i64 a) := bs.cell 0
    have q_bs1 : w1.cell? ⟨w.heap.size + 1, 1, none⟩ = some (.int .i64 b) := bs.cell 1
    have q_bs2 : w1.cell? ⟨w.heap.size + 1, 2, none⟩ = some (.int .i64 0) := bs.cell 2
    have q_bs3 : w1.cell? ⟨w.heap.size + 1, 3, none⟩ = some (.int .i64 0) := bs.cell 3
    have q_bs4 : w1.cell? ⟨w.heap.size + 1, 4, none⟩ = some (.int .i64 0) := bs.cell 4
    have q_bs5 : w1.cell? ⟨w.heap.size + 1, 5, none⟩ = some (.int .i64 0) := bs.cell 5
    have q_bs6 : w1.cell? ⟨w.heap.size + 1, 6, none⟩ = some (.int .i64 0) := bs.cell 6
    have f_br0 : w1.frozen? ⟨w.heap.size, 0, none⟩ = false := br.frozen 0
    have f_br1 : w1.frozen? ⟨w.heap.size, 1, none⟩ = false := br.frozen 1
    have f_br2 : w1.frozen? ⟨w.heap.size, 2, none⟩ = false := br.frozen 2
    have f_br3 : w1.frozen? ⟨w.heap.size, 3, none⟩ = false := br.frozen 3
    have f_br4 : w1.frozen? ⟨w.heap.size, 4, none⟩ = false := br.frozen 4
    have f_br5 : w1.frozen? ⟨w.heap.size, 5, none⟩ = false := br.frozen 5
    have f_br6 : w1.frozen? ⟨w.heap.size, 6, none⟩ = false := br.frozen 6
    go_wp2_with fail
    exact bodyPost_ret (v := .tuple #[.agg #[.int .i64 0, .int .i64 0, .int .i64 0, .int .i64 0, .int .i64 0, .int .i64 0, .int .i64 0], .int .i64 n]) (by simp [results, Try.results16, go_sem, q_br0, q_br1, q_br2, q_br3, q_br4, q_br5, q_br6]) rfl ⟨ret_MR HD.out, below_set7 HB1.out (H := w.heap.size) (Nat.le_refl _) _ _ _ _ _ _ _⟩
end Go.Proofs.Ytojghgeemdpmpaa
