/- The walks of Make, both and their references. -/
import Derived.Test.YtpkekfhnpcjgkaaDoorR4
import Derived.Test.YtpkekfhnpcjgkaaDoorB1
namespace Go.Proofs.YtpkekfhnpcjgkaaDoor
open Go.RowKit
open Rt
open Go.Sort (grow)

theorem rd_cases (n d : Int) : ∃ n' d' : Int, rd n d = rdP n' d' ∧ ((0 < d' ∧ n = -n' ∧ d = -d') ∨ ((0 < d' ∨ d = 0) ∧ n = n' ∧ d = d')) := by
  unfold rd
  by_cases h : d < 0
  · exact ⟨_, _, if_pos h, .inl ⟨by omega, by omega, by omega⟩⟩
  · exact ⟨_, _, if_neg h, .inr ⟨by omega, rfl, rfl⟩⟩
set_option maxHeartbeats 1000000 in
theorem rreduced_any (n d : Int) (w : World) (hn1 : -4000000000000000000 ≤ n) (hn2 : n ≤ 4000000000000000000) (hd1 : -4000000000000000000 ≤ d) (hd2 : d ≤ 4000000000000000000) (h0 : d ≠ 0) :
    Calls Tryd.prog 63 #[.int .i64 n, .int .i64 d] w fun e w' => e = .returned (tupR (ofI n d)) ∧ Below w.heap.size w w' := by
  have HO := Lib.hid (ofI_vR n d h0)
  obtain ⟨n', d', hr, hc⟩ := rd_cases n d
  have HRD := Lib.hid hr
  clear hr
  have hpos : 0 < d' := by omega
  have hn' : -4000000000000000000 ≤ n' ∧ n' ≤ 4000000000000000000 := by omega
  have hd' : d' ≤ 4000000000000000000 := by omega
  obtain ⟨t1, t2, t3⟩ := tdiv_gc n' d' (by omega)
  have q1 := quo_abs n' (gc n' d') t3 hn'.1 hn'.2
  have q2 := quo_abs d' (gc n' d') t3 (by omega) hd'
  have HP := Lib.hid (HRD.out.trans (show rdP n' d' = (n' / gc n' d', d' / gc n' d') from rfl))
  have HA := Lib.hid (gc_abs n' d')
  clear HRD
  generalize rd n d = R at *
  generalize n' / gc n' d' = p at *
  generalize d' / gc n' d' = q at *
  generalize ofI n d = O at *
  obtain rfl := HP.out
  have HT := Lib.hid (And.intro t1 t2)
  clear t1 t2 HP
  rcases hc with ⟨-, rfl, rfl⟩ | ⟨-, rfl, rfl⟩
  all_goals
    go_enter Tryd.func63, Tryd.ntmps63
    go_wp2_with fail
    all_goals try (exfalso; omega)
    refine (amount_any _ _ (by omega) (by omega)).mono ?_
    rintro e w1 ⟨rfl, rfl⟩
    go_wp2_with fail
    refine (divisor_any _ _ _ (by omega) (by omega) (by omega) (by omega)).mono ?_
    rintro e w1 ⟨rfl, hb⟩
    have br : Blk w1 (w.heap.size) 23 #[.int .i64 0, .int .i64 0] := (Blk.new _ _ _).on hb
    have hbz := hb.size
    have HB1 := Lib.hid (((Below.refl w.heap.size w).alloc (by first | exact Nat.le_refl _ | omega | (simp; done) | (simp; omega)) _).trans (hb.mono (by first | exact Nat.le_refl _ | omega | (simp; done) | (simp; omega))))
    have hz1 : w.heap.size ≤ w1.heap.size := HB1.out.size
    clear hb hbz
    rw [HA.out]
    obtain ⟨t1, t2⟩ := HT.out
    have hg0 : gc _ _ ≠ 0 := Int.ne_of_gt t3
    generalize gc _ _ = g at *
    have e1 : IntKind.i64.wrap p = p := IntWalk.i64_in _ (by omega)
    have e2 : IntKind.i64.wrap q = q := IntWalk.i64_in _ (by omega)
    go_wp2_with fail
    go_region
    all_goals
      go_wp2_with fail
      refine (qrValid_any _ _ _).mono ?_
      rintro e w2 ⟨rfl, hb⟩
      have br : Blk w2 (w.heap.size) 23 #[.int .i64 0, .int .i64 0] := (((br).alloc _).drew).on hb
      have bx : Blk w2 (w1.heap.size) 23 #[.int .i64 p, .int .i64 q] := ((Blk.new _ _ _).drew).on hb
      have hbz := hb.size
      have HB2 := Lib.hid ((((HB1.out).alloc (by first | exact Nat.le_refl _ | omega | (simp; done) | (simp; omega)) _).drew).trans (hb.mono (by first | exact Nat.le_refl _ | omega | (simp; done) | (simp; omega))))
      have hz2 : w.heap.size ≤ w2.heap.size := HB2.out.size
      clear hb hbz
      have q_br0 : w2.cell? ⟨w.heap.size, 0, none⟩ = some (.int .i64 0) := br.cell 0
      have q_br1 : w2.cell? ⟨w.heap.size, 1, none⟩ = some (.int .i64 0) := br.cell 1
      have q_bx0 : w2.cell? ⟨w1.heap.size, 0, none⟩ = some (.int .i64 p) := bx.cell 0
      have q_bx1 : w2.cell? ⟨w1.heap.size, 1, none⟩ = some (.int .i64 q) := bx.cell 1
      have f_br0 : w2.frozen? ⟨w.heap.size, 0, none⟩ = false := br.frozen 0
      have f_br1 : w2.frozen? ⟨w.heap.size, 1, none⟩ = false := br.frozen 1
      cases hv : vR p q
      · have HD := Lib.hid (HO.out.symm.trans (if_neg (by show ¬ vR p q = true; rw [hv]; simp)))
        clear hv
        go_wp2_with fail
        exact bodyPost_ret (v := .tuple #[.agg #[.int .i64 0, .int .i64 0], .int .i64 8]) (by simp [results, Tryd.results63, go_sem, q_br0, q_br1]) rfl ⟨ret_tupR HD.out, below_set2 HB2.out (by first | exact Nat.le_refl _ | omega) _ _⟩
      · have HD := Lib.hid (HO.out.symm.trans (if_pos (by show vR p q = true; rw [hv])))
        clear hv
        go_wp2_with fail
        exact bodyPost_ret (v := .tuple #[.agg #[.int .i64 p, .int .i64 q], .int .i64 0]) (by simp [results, Tryd.results63, go_sem, q_br0, q_br1]) rfl ⟨ret_tupR HD.out, below_set2 HB2.out (by first | exact Nat.le_refl _ | omega) _ _⟩
end Go.Proofs.YtpkekfhnpcjgkaaDoor
