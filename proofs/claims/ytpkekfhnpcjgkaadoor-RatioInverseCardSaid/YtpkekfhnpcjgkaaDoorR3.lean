/- The walks of the arithmetic of fractions. -/
import Derived.Test.YtpkekfhnpcjgkaaDoorR2
namespace Go.Proofs.YtpkekfhnpcjgkaaDoor
open Go.RowKit
open Rt
open Go.Sort (grow)

def tupR (x : (Int × Int) × Int) : Value := .tuple #[agg2 x.1, .int .i64 x.2]
theorem ret_tupR {x : (Int × Int) × Int} {a b c : Int} (h : x = ((a, b), c)) : Ending.returned (.tuple #[.agg #[.int .i64 a, .int .i64 b], .int .i64 c]) = .returned (tupR x) := by subst h; rfl
theorem ofI_zero (n : Int) : ofI n 0 = ((0, 0), 9) := by unfold ofI; rw [if_pos rfl]
set_option maxHeartbeats 1000000 in
theorem of_any (n d : Int) (w : World) (hn1 : -4000000000000000000 ≤ n) (hn2 : n ≤ 4000000000000000000) (hd1 : -4000000000000000000 ≤ d) (hd2 : d ≤ 4000000000000000000) :
    Calls Tryd.prog 61 #[.int .i64 n, .int .i64 d] w fun e w' => e = .returned (tupR (ofI n d)) ∧ Below w.heap.size w w' := by
  by_cases h0 : d = 0
  · subst h0
    have HD := Lib.hid (ofI_zero n)
    go_enter Tryd.func61, Tryd.ntmps61
    go_wp2_with fail
    exact bodyPost_ret (v := .tuple #[.agg #[.int .i64 0, .int .i64 0], .int .i64 9]) (by simp [results, Tryd.results61, go_sem]) rfl ⟨ret_tupR HD.out, (Below.refl w.heap.size w).alloc (by first | exact Nat.le_refl _ | omega | (simp; done) | (simp; omega)) _⟩
  · have h0b : (d == 0) = false := beq_eq_false_iff_ne.2 h0
    have HO := Lib.hid (show ofI n d = if lim (rd n d).1 (rd n d).2 = true then (rd n d, 0) else ((0, 0), 8) by unfold ofI; rw [if_neg h0])
    go_enter Tryd.func61, Tryd.ntmps61
    go_wp2_with fail
    refine (reduced_any _ _ _ hn1 hn2 hd1 hd2 h0).mono ?_
    rintro e w1 ⟨rfl, hb⟩
    have br : Blk w1 (w.heap.size) 23 #[.int .i64 0, .int .i64 0] := (Blk.new _ _ _).on hb
    have hbz := hb.size
    have HB1 := Lib.hid (((Below.refl w.heap.size w).alloc (by first | exact Nat.le_refl _ | omega | (simp; done) | (simp; omega)) _).trans (hb.mono (by first | exact Nat.le_refl _ | omega | (simp; done) | (simp; omega))))
    have hz1 : w.heap.size ≤ w1.heap.size := HB1.out.size
    clear hb hbz
    generalize rd n d = R at *
    obtain ⟨x, y⟩ := R
    simp only [agg2]
    go_wp2_with fail
    refine (limited_any _ _ _).mono ?_
    rintro e w2 ⟨rfl, hb⟩
    have br : Blk w2 (w.heap.size) 23 #[.int .i64 0, .int .i64 0] := ((br).alloc _).on hb
    have bx : Blk w2 (w1.heap.size) 23 #[.int .i64 x, .int .i64 y] := (Blk.new _ _ _).on hb
    have hbz := hb.size
    have HB2 := Lib.hid (((HB1.out).alloc (by first | exact Nat.le_refl _ | omega | (simp; done) | (simp; omega)) _).trans (hb.mono (by first | exact Nat.le_refl _ | omega | (simp; done) | (simp; omega))))
    have hz2 : w.heap.size ≤ w2.heap.size := HB2.out.size
    clear hb hbz
    have q_br0 : w2.cell? ⟨w.heap.size, 0, none⟩ = some (.int .i64 0) := br.cell 0
    have q_br1 : w2.cell? ⟨w.heap.size, 1, none⟩ = some (.int .i64 0) := br.cell 1
    have q_bx0 : w2.cell? ⟨w1.heap.size, 0, none⟩ = some (.int .i64 x) := bx.cell 0
    have q_bx1 : w2.cell? ⟨w1.heap.size, 1, none⟩ = some (.int .i64 y) := bx.cell 1
    have f_br0 : w2.frozen? ⟨w.heap.size, 0, none⟩ = false := br.frozen 0
    have f_br1 : w2.frozen? ⟨w.heap.size, 1, none⟩ = false := br.frozen 1
    cases hl : lim x y
    · have HD := Lib.hid (HO.out.trans (if_neg (by show ¬ lim x y = true; rw [hl]; simp)))
      clear hl
      go_wp2_with fail
      exact bodyPost_ret (v := .tuple #[.agg #[.int .i64 0, .int .i64 0], .int .i64 8]) (by simp [results, Tryd.results61, go_sem, q_br0, q_br1]) rfl ⟨ret_tupR HD.out, below_set2 HB2.out (by first | exact Nat.le_refl _ | omega) _ _⟩
    · have HD := Lib.hid (HO.out.trans (if_pos (by show lim x y = true; rw [hl])))
      clear hl
      go_wp2_with fail
      exact bodyPost_ret (v := .tuple #[.agg #[.int .i64 x, .int .i64 y], .int .i64 0]) (by simp [results, Tryd.results61, go_sem, q_br0, q_br1]) rfl ⟨ret_tupR HD.out, below_set2 HB2.out (by first | exact Nat.le_refl _ | omega) _ _⟩
end Go.Proofs.YtpkekfhnpcjgkaaDoor
