/- The states behind a batch that succeeded. -/
import Derived.Test.YtojghgeemdpmpaaMCC
namespace Go.Proofs.Ytojghgeemdpmpaa
open Go.RowKit
open Go.Sort (grow)

theorem fly_bad {s : MS} (h : s.e ≠ 0) : flyE s = s.e := if_neg h
theorem fly_none {s : MS} (h : s.e = 0) (h' : s.fl = 0) : flyE s = 10 := by unfold flyE firstE; rw [if_pos h]; simp [firstE, whenE, h']
theorem fly_ok {s : MS} (h : s.e = 0) (h' : s.fl ≠ 0) : flyE s = 0 := by unfold flyE firstE; rw [if_pos h]; simp [firstE, whenE, h']
theorem nx_bd {s : MS} (h : s.e = 0) : 0 ≤ s.nx ∧ s.nx ≤ 999999999968 ∧ 0 ≤ s.fl ∧ s.fl ≤ 32 := by
  have hr := (MS.ok_iff.1 h).1
  exact ⟨hr.2.2.1, hr.2.2.2.1, hr.2.2.2.2.1, hr.2.2.2.2.2.1⟩
def sucS (s : MS) : MS × Int := if s.e ≠ 0 then (MS.z, s.e) else if s.fl = 0 then (MS.z, 10) else rgS ⟨s.sh, s.nx + s.fl, 0, 0, 0, 0, 0⟩
theorem suc_bad {s : MS} (h : s.e ≠ 0) : sucS s = (MS.z, s.e) := if_pos h
theorem suc_none {s : MS} (h : s.e = 0) (h' : s.fl = 0) : sucS s = (MS.z, 10) := by unfold sucS; rw [if_neg (fun hh => hh h), if_pos h']
theorem suc_ok {s : MS} (h : s.e = 0) (h' : s.fl ≠ 0) : sucS s = rgS ⟨s.sh, s.nx + s.fl, 0, 0, 0, 0, 0⟩ := by unfold sucS; rw [if_neg (fun hh => hh h), if_neg h']
set_option maxHeartbeats 2000000 in
set_option maxRecDepth 20000 in
theorem Succeed_any (sh nx fl ac fi wa li : Int) (w : World) : Calls Try.prog 17 #[.agg #[.int .i64 sh, .int .i64 nx, .int .i64 fl, .int .i64 ac, .int .i64 fi, .int .i64 wa, .int .i64 li]] w fun e w' => e = .returned (MR (sucS ⟨sh, nx, fl, ac, fi, wa, li⟩)) ∧ Below w.heap.size w w' := by
  have hn0 := Nat.le_refl w.heap.size
  by_cases h0 : MS.e ⟨sh, nx, fl, ac, fi, wa, li⟩ = 0
  · by_cases hf : fl = 0
    · have HD := Lib.hid (suc_none h0 hf)
      have HE := Lib.hid (fly_none h0 hf)
      have hfb : (fl == 0) = true := beq_iff_eq.2 hf
      clear h0 hf
      go_enter Try.func17, Try.ntmps17
      go_wp2_with fail
      refine (flying_any sh nx fl ac fi wa li _).mono ?_
      rintro e w1 ⟨rfl, hb⟩
      have bs : Blk w1 (w.heap.size) 23 #[.int .i64 sh, .int .i64 nx, .int .i64 fl, .int .i64 ac, .int .i64 fi, .int .i64 wa, .int .i64 li] := ((Blk.new _ _ _).alloc _).on hb
      have br : Blk w1 (w.heap.size + 1) 23 #[.int .i64 0, .int .i64 0, .int .i64 0, .int .i64 0, .int .i64 0, .int .i64 0, .int .i64 0] := (Blk.new1 _ _ _ _).on hb
      have hbz := hb.size
      have HB1 := Lib.hid ((((Below.refl w.heap.size w).alloc (by first | exact Nat.le_refl _ | omega | (simp; done) | (simp; omega)) _).alloc (by first | exact Nat.le_refl _ | omega | (simp; done) | (simp; omega)) _).trans (hb.mono (by first | exact Nat.le_refl _ | omega | (simp; done) | (simp; omega))))
      have hz1 : w.heap.size ≤ w1.heap.size := HB1.out.size
      clear hb hbz
      rw [HE.out]
      have q_bs0 : w1.cell? ⟨w.heap.size, 0, none⟩ = some (.int .i64 sh) := bs.cell 0
      have q_bs1 : w1.cell? ⟨w.heap.size, 1, none⟩ = some (.int .i64 nx) := bs.cell 1
      have q_bs2 : w1.cell? ⟨w.heap.size, 2, none⟩ = some (.int .i64 fl) := bs.cell 2
      have q_bs3 : w1.cell? ⟨w.heap.size, 3, none⟩ = some (.int .i64 ac) := bs.cell 3
      have q_bs4 : w1.cell? ⟨w.heap.size, 4, none⟩ = some (.int .i64 fi) := bs.cell 4
      have q_bs5 : w1.cell? ⟨w.heap.size, 5, none⟩ = some (.int .i64 wa) := bs.cell 5
      have q_bs6 : w1.cell? ⟨w.heap.size, 6, none⟩ = some (.int .i64 li) := bs.cell 6
      have q_br0 : w1.cell? ⟨w.heap.size + 1, 0, none⟩ = some (.int .i64 0) := br.cell 0
      have q_br1 : w1.cell? ⟨w.heap.size + 1, 1, none⟩ = some (.int .i64 0) := br.cell 1
      have q_br2 : w1.cell? ⟨w.heap.size + 1, 2, none⟩ = some (.int .i64 0) := br.cell 2
      have q_br3 : w1.cell? ⟨w.heap.size + 1, 3, none⟩ = some (.int .i64 0) := br.cell 3
      have q_br4 : w1.cell? ⟨w.heap.size + 1, 4, none⟩ = some (.int .i64 0) := br.cell 4
      have q_br5 : w1.cell? ⟨w.heap.size + 1, 5, none⟩ = some (.int .i64 0) := br.cell 5
      have q_br6 : w1.cell? ⟨w.heap.size + 1, 6, none⟩ = some (.int .i64 0) := br.cell 6
      have f_br0 : w1.frozen? ⟨w.heap.size + 1, 0, none⟩ = false := br.frozen 0
      have f_br1 : w1.frozen? ⟨w.heap.size + 1, 1, none⟩ = false := br.frozen 1
      have f_br2 : w1.frozen? ⟨w.heap.size + 1, 2, none⟩ = false := br.frozen 2
      have f_br3 : w1.frozen? ⟨w.heap.size + 1, 3, none⟩ = false := br.frozen 3
      have f_br4 : w1.frozen? ⟨w.heap.size + 1, 4, none⟩ = false := br.frozen 4
      have f_br5 : w1.frozen? ⟨w.heap.size + 1, 5, none⟩ = false := br.frozen 5
      have f_br6 : w1.frozen? ⟨w.heap.size + 1, 6, none⟩ = false := br.frozen 6
      go_wp2_with fail
      exact bodyPost_ret (v := .tuple #[.agg #[.int .i64 0, .int .i64 0, .int .i64 0, .int .i64 0, .int .i64 0, .int .i64 0, .int .i64 0], .int .i64 10]) (by simp [results, Try.results17, go_sem, q_br0, q_br1, q_br2, q_br3, q_br4, q_br5, q_br6]) rfl ⟨ret_MR HD.out, below_set7 HB1.out (H := w.heap.size + 1) (by omega) _ _ _ _ _ _ _⟩
    · have HD := Lib.hid (suc_ok h0 hf)
      have HE := Lib.hid (fly_ok h0 hf)
      have hfb : (fl == 0) = false := beq_eq_false_iff_ne.2 hf
      have hbd : 0 ≤ nx ∧ nx ≤ 999999999968 ∧ 0 ≤ fl ∧ fl ≤ 32 := nx_bd h0
      obtain ⟨r1, r2, r3, r4⟩ := hbd
      clear h0 hf
      go_enter Try.func17, Try.ntmps17
      go_wp2_with fail
      refine (flying_any sh nx fl ac fi wa li _).mono ?_
      rintro e w1 ⟨rfl, hb⟩
      have bs : Blk w1 (w.heap.size) 23 #[.int .i64 sh, .int .i64 nx, .int .i64 fl, .int .i64 ac, .int .i64 fi, .int .i64 wa, .int .i64 li] := ((Blk.new _ _ _).alloc _).on hb
      have br : Blk w1 (w.heap.size + 1) 23 #[.int .i64 0, .int .i64 0, .int .i64 0, .int .i64 0, .int .i64 0, .int .i64 0, .int .i64 0] := (Blk.new1 _ _ _ _).on hb
      have hbz := hb.size
      have HB1 := Lib.hid ((((Below.refl w.heap.size w).alloc (by first | exact Nat.le_refl _ | omega | (simp; done) | (simp; omega)) _).alloc (by first | exact Nat.le_refl _ | omega | (simp; done) | (simp; omega)) _).trans (hb.mono (by first | exact Nat.le_refl _ | omega | (simp; done) | (simp; omega))))
      have hz1 : w.heap.size ≤ w1.heap.size := HB1.out.size
      clear hb hbz
      rw [HE.out]
      have q_bs0 : w1.cell? ⟨w.heap.size, 0, none⟩ = some (.int .i64 sh) := bs.cell 0
      have q_bs1 : w1.cell? ⟨w.heap.size, 1, none⟩ = some (.int .i64 nx) := bs.cell 1
      have q_bs2 : w1.cell? ⟨w.heap.size, 2, none⟩ = some (.int .i64 fl) := bs.cell 2
      have q_bs3 : w1.cell? ⟨w.heap.size, 3, none⟩ = some (.int .i64 ac) := bs.cell 3
      have q_bs4 : w1.cell? ⟨w.heap.size, 4, none⟩ = some (.int .i64 fi) := bs.cell 4
      have q_bs5 : w1.cell? ⟨w.heap.size, 5, none⟩ = some (.int .i64 wa) := bs.cell 5
      have q_bs6 : w1.cell? ⟨w.heap.size, 6, none⟩ = some (.int .i64 li) := bs.cell 6
      have q_br0 : w1.cell? ⟨w.heap.size + 1, 0, none⟩ = some (.int .i64 0) := br.cell 0
      have q_br1 : w1.cell? ⟨w.heap.size + 1, 1, none⟩ = some (.int .i64 0) := br.cell 1
      have q_br2 : w1.cell? ⟨w.heap.size + 1, 2, none⟩ = some (.int .i64 0) := br.cell 2
      have q_br3 : w1.cell? ⟨w.heap.size + 1, 3, none⟩ = some (.int .i64 0) := br.cell 3
      have q_br4 : w1.cell? ⟨w.heap.size + 1, 4, none⟩ = some (.int .i64 0) := br.cell 4
      have q_br5 : w1.cell? ⟨w.heap.size + 1, 5, none⟩ = some (.int .i64 0) := br.cell 5
      have q_br6 : w1.cell? ⟨w.heap.size + 1, 6, none⟩ = some (.int .i64 0) := br.cell 6
      have f_br0 : w1.frozen? ⟨w.heap.size + 1, 0, none⟩ = false := br.frozen 0
      have f_br1 : w1.frozen? ⟨w.heap.size + 1, 1, none⟩ = false := br.frozen 1
      have f_br2 : w1.frozen? ⟨w.heap.size + 1, 2, none⟩ = false := br.frozen 2
      have f_br3 : w1.frozen? ⟨w.heap.size + 1, 3, none⟩ = false := br.frozen 3
      have f_br4 : w1.frozen? ⟨w.heap.size + 1, 4, none⟩ = false := br.frozen 4
      have f_br5 : w1.frozen? ⟨w.heap.size + 1, 5, none⟩ = false := br.frozen 5
      have f_br6 : w1.frozen? ⟨w.heap.size + 1, 6, none⟩ = false := br.frozen 6
      go_wp2_with fail
      refine (ranged_any sh (nx + fl) 0 0 0 0 0 _).mono ?_
      rintro e w2 ⟨rfl, hb⟩
      clear q_bs0 q_bs1 q_bs2 q_bs3 q_bs4 q_bs5 q_bs6 q_br0 q_br1 q_br2 q_br3 q_br4 q_br5 q_br6 f_br0 f_br1 f_br2 f_br3 f_br4 f_br5 f_br6
      have bs : Blk w2 (w.heap.size) 23 #[.int .i64 sh, .int .i64 nx, .int .i64 fl, .int .i64 ac, .int .i64 fi, .int .i64 wa, .int .i64 li] := (bs).on hb
      have br : Blk w2 (w.heap.size + 1) 23 #[.int .i64 0, .int .i64 0, .int .i64 0, .int .i64 0, .int .i64 0, .int .i64 0, .int .i64 0] := (br).on hb
      have hbz := hb.size
      have HB2 := Lib.hid ((HB1.out).trans (hb.mono (by first | exact Nat.le_refl _ | omega | (simp; done) | (simp; omega))))
      have hz2 : w.heap.size ≤ w2.heap.size := HB2.out.size
      clear hb hbz
      generalize hR : rgS ⟨sh, nx + fl, 0, 0, 0, 0, 0⟩ = R
      obtain ⟨⟨a0, a1, a2, a3, a4, a5, a6⟩, n⟩ := R
      have HF := Lib.hid (HD.out.trans hR)
      clear hR
      simp only [MR, MS.cs]
      have q_br0 : w2.cell? ⟨w.heap.size + 1, 0, none⟩ = some (.int .i64 0) := br.cell 0
      have q_br1 : w2.cell? ⟨w.heap.size + 1, 1, none⟩ = some (.int .i64 0) := br.cell 1
      have q_br2 : w2.cell? ⟨w.heap.size + 1, 2, none⟩ = some (.int .i64 0) := br.cell 2
      have q_br3 : w2.cell? ⟨w.heap.size + 1, 3, none⟩ = some (.int .i64 0) := br.cell 3
      have q_br4 : w2.cell? ⟨w.heap.size + 1, 4, none⟩ = some (.int .i64 0) := br.cell 4
      have q_br5 : w2.cell? ⟨w.heap.size + 1, 5, none⟩ = some (.int .i64 0) := br.cell 5
      have q_br6 : w2.cell? ⟨w.heap.size + 1, 6, none⟩ = some (.int .i64 0) := br.cell 6
      have f_br0 : w2.frozen? ⟨w.heap.size + 1, 0, none⟩ = false := br.frozen 0
      have f_br1 : w2.frozen? ⟨w.heap.size + 1, 1, none⟩ = false := br.frozen 1
      have f_br2 : w2.frozen? ⟨w.heap.size + 1, 2, none⟩ = false := br.frozen 2
      have f_br3 : w2.frozen? ⟨w.heap.size + 1, 3, none⟩ = false := br.frozen 3
      have f_br4 : w2.frozen? ⟨w.heap.size + 1, 4, none⟩ = false := br.frozen 4
      have f_br5 : w2.frozen? ⟨w.heap.size + 1, 5, none⟩ = false := br.frozen 5
      have f_br6 : w2.frozen? ⟨w.heap.size + 1, 6, none⟩ = false := br.frozen 6
      go_wp2_with fail
      exact bodyPost_ret (v := .tuple #[.agg #[.int .i64 a0, .int .i64 a1, .int .i64 a2, .int .i64 a3, .int .i64 a4, .int .i64 a5, .int .i64 a6], .int .i64 n]) (by simp [results, Try.results17, go_sem, q_br0, q_br1, q_br2, q_br3, q_br4, q_br5, q_br6]) rfl ⟨ret_MR HF.out, below_set7 HB2.out (H := w.heap.size + 1) (by omega) _ _ _ _ _ _ _⟩
  · have HD := Lib.hid (suc_bad h0)
    have HE := Lib.hid (fly_bad h0)
    go_enter Try.func17, Try.ntmps17
    go_wp2_with fail
    refine (flying_any sh nx fl ac fi wa li _).mono ?_
    rintro e w1 ⟨rfl, hb⟩
    have bs : Blk w1 (w.heap.size) 23 #[.int .i64 sh, .int .i64 nx, .int .i64 fl, .int .i64 ac, .int .i64 fi, .int .i64 wa, .int .i64 li] := ((Blk.new _ _ _).alloc _).on hb
    have br : Blk w1 (w.heap.size + 1) 23 #[.int .i64 0, .int .i64 0, .int .i64 0, .int .i64 0, .int .i64 0, .int .i64 0, .int .i64 0] := (Blk.new1 _ _ _ _).on hb
    have hbz := hb.size
    have HB1 := Lib.hid ((((Below.refl w.heap.size w).alloc (by first | exact Nat.le_refl _ | omega | (simp; done) | (simp; omega)) _).alloc (by first | exact Nat.le_refl _ | omega | (simp; done) | (simp; omega)) _).trans (hb.mono (by first | exact Nat.le_refl _ | omega | (simp; done) | (simp; omega))))
    have hz1 : w.heap.size ≤ w1.heap.size := HB1.out.size
    clear hb hbz
    rw [HE.out]
    generalize MS.e ⟨sh, nx, fl, ac, fi, wa, li⟩ = n at *
    have hne : (n == 0) = false := beq_eq_false_iff_ne.2 h0
    clear h0
    have q_bs0 : w1.cell? ⟨w.heap.size, 0, none⟩ = some (.int .i64 sh) := bs.cell 0
    have q_bs1 : w1.cell? ⟨w.heap.size, 1, none⟩ = some (.int .i64 nx) := bs.cell 1
    have q_bs2 : w1.cell? ⟨w.heap.size, 2, none⟩ = some (.int .i64 fl) := bs.cell 2
    have q_bs3 : w1.cell? ⟨w.heap.size, 3, none⟩ = some (.int .i64 ac) := bs.cell 3
    have q_bs4 : w1.cell? ⟨w.heap.size, 4, none⟩ = some (.int .i64 fi) := bs.cell 4
    have q_bs5 : w1.cell? ⟨w.heap.size, 5, none⟩ = some (.int .i64 wa) := bs.cell 5
    have q_bs6 : w1.cell? ⟨w.heap.size, 6, none⟩ = some (.int .i64 li) := bs.cell 6
    have q_br0 : w1.cell? ⟨w.heap.size + 1, 0, none⟩ = some (.int .i64 0) := br.cell 0
    have q_br1 : w1.cell? ⟨w.heap.size + 1, 1, none⟩ = some (.int .i64 0) := br.cell 1
    have q_br2 : w1.cell? ⟨w.heap.size + 1, 2, none⟩ = some (.int .i64 0) := br.cell 2
    have q_br3 : w1.cell? ⟨w.heap.size + 1, 3, none⟩ = some (.int .i64 0) := br.cell 3
    have q_br4 : w1.cell? ⟨w.heap.size + 1, 4, none⟩ = some (.int .i64 0) := br.cell 4
    have q_br5 : w1.cell? ⟨w.heap.size + 1, 5, none⟩ = some (.int .i64 0) := br.cell 5
    have q_br6 : w1.cell? ⟨w.heap.size + 1, 6, none⟩ = some (.int .i64 0) := br.cell 6
    have f_br0 : w1.frozen? ⟨w.heap.size + 1, 0, none⟩ = false := br.frozen 0
    have f_br1 : w1.frozen? ⟨w.heap.size + 1, 1, none⟩ = false := br.frozen 1
    have f_br2 : w1.frozen? ⟨w.heap.size + 1, 2, none⟩ = false := br.frozen 2
    have f_br3 : w1.frozen? ⟨w.heap.size + 1, 3, none⟩ = false := br.frozen 3
    have f_br4 : w1.frozen? ⟨w.heap.size + 1, 4, none⟩ = false := br.frozen 4
    have f_br5 : w1.frozen? ⟨w.heap.size + 1, 5, none⟩ = false := br.frozen 5
    have f_br6 : w1.frozen? ⟨w.heap.size + 1, 6, none⟩ = false := br.frozen 6
    go_wp2_with fail
    exact bodyPost_ret (v := .tuple #[.agg #[.int .i64 0, .int .i64 0, .int .i64 0, .int .i64 0, .int .i64 0, .int .i64 0, .int .i64 0], .int .i64 n]) (by simp [results, Try.results17, go_sem, q_br0, q_br1, q_br2, q_br3, q_br4, q_br5, q_br6]) rfl ⟨ret_MR HD.out, below_set7 HB1.out (H := w.heap.size + 1) (by omega) _ _ _ _ _ _ _⟩
set_option maxHeartbeats 2000000 in
set_option maxRecDepth 20000 in
theorem rSucceed_any (sh nx fl ac fi wa li : Int) (w : World) : Calls Try.prog 18 #[.agg #[.int .i64 sh, .int .i64 nx, .int .i64 fl, .int .i64 ac, .int .i64 fi, .int .i64 wa, .int .i64 li]] w fun e w' => e = .returned (MR (sucS ⟨sh, nx, fl, ac, fi, wa, li⟩)) ∧ Below w.heap.size w w' := by
  have hn0 := Nat.le_refl w.heap.size
  by_cases h0 : MS.e ⟨sh, nx, fl, ac, fi, wa, li⟩ = 0
  · by_cases hf : fl = 0
    · have HD := Lib.hid (suc_none h0 hf)
      have HE := Lib.hid (h0)
      have hfb : (fl == 0) = true := beq_iff_eq.2 hf
      clear h0 hf
      go_enter Try.func18, Try.ntmps18
      go_wp2_with fail
      refine (rMCheck_lit sh nx fl ac fi wa li _).mono ?_
      rintro e w1 ⟨rfl, hb⟩
      have bs : Blk w1 (w.heap.size) 23 #[.int .i64 sh, .int .i64 nx, .int .i64 fl, .int .i64 ac, .int .i64 fi, .int .i64 wa, .int .i64 li] := ((Blk.new _ _ _).alloc _).on hb
      have br : Blk w1 (w.heap.size + 1) 23 #[.int .i64 0, .int .i64 0, .int .i64 0, .int .i64 0, .int .i64 0, .int .i64 0, .int .i64 0] := (Blk.new1 _ _ _ _).on hb
      have hbz := hb.size
      have HB1 := Lib.hid ((((Below.refl w.heap.size w).alloc (by first | exact Nat.le_refl _ | omega | (simp; done) | (simp; omega)) _).alloc (by first | exact Nat.le_refl _ | omega | (simp; done) | (simp; omega)) _).trans (hb.mono (by first | exact Nat.le_refl _ | omega | (simp; done) | (simp; omega))))
      have hz1 : w.heap.size ≤ w1.heap.size := HB1.out.size
      clear hb hbz
      rw [HE.out]
      have q_bs0 : w1.cell? ⟨w.heap.size, 0, none⟩ = some (.int .i64 sh) := bs.cell 0
      have q_bs1 : w1.cell? ⟨w.heap.size, 1, none⟩ = some (.int .i64 nx) := bs.cell 1
      have q_bs2 : w1.cell? ⟨w.heap.size, 2, none⟩ = some (.int .i64 fl) := bs.cell 2
      have q_bs3 : w1.cell? ⟨w.heap.size, 3, none⟩ = some (.int .i64 ac) := bs.cell 3
      have q_bs4 : w1.cell? ⟨w.heap.size, 4, none⟩ = some (.int .i64 fi) := bs.cell 4
      have q_bs5 : w1.cell? ⟨w.heap.size, 5, none⟩ = some (.int .i64 wa) := bs.cell 5
      have q_bs6 : w1.cell? ⟨w.heap.size, 6, none⟩ = some (.int .i64 li) := bs.cell 6
      have q_br0 : w1.cell? ⟨w.heap.size + 1, 0, none⟩ = some (.int .i64 0) := br.cell 0
      have q_br1 : w1.cell? ⟨w.heap.size + 1, 1, none⟩ = some (.int .i64 0) := br.cell 1
      have q_br2 : w1.cell? ⟨w.heap.size + 1, 2, none⟩ = some (.int .i64 0) := br.cell 2
      have q_br3 : w1.cell? ⟨w.heap.size + 1, 3, none⟩ = some (.int .i64 0) := br.cell 3
      have q_br4 : w1.cell? ⟨w.heap.size + 1, 4, none⟩ = some (.int .i64 0) := br.cell 4
      have q_br5 : w1.cell? ⟨w.heap.size + 1, 5, none⟩ = some (.int .i64 0) := br.cell 5
      have q_br6 : w1.cell? ⟨w.heap.size + 1, 6, none⟩ = some (.int .i64 0) := br.cell 6
      have f_br0 : w1.frozen? ⟨w.heap.size + 1, 0, none⟩ = false := br.frozen 0
      have f_br1 : w1.frozen? ⟨w.heap.size + 1, 1, none⟩ = false := br.frozen 1
      have f_br2 : w1.frozen? ⟨w.heap.size + 1, 2, none⟩ = false := br.frozen 2
      have f_br3 : w1.frozen? ⟨w.heap.size + 1, 3, none⟩ = false := br.frozen 3
      have f_br4 : w1.frozen? ⟨w.heap.size + 1, 4, none⟩ = false := br.frozen 4
      have f_br5 : w1.frozen? ⟨w.heap.size + 1, 5, none⟩ = false := br.frozen 5
      have f_br6 : w1.frozen? ⟨w.heap.size + 1, 6, none⟩ = false := br.frozen 6
      go_wp2_with fail
      exact bodyPost_ret (v := .tuple #[.agg #[.int .i64 0, .int .i64 0, .int .i64 0, .int .i64 0, .int .i64 0, .int .i64 0, .int .i64 0], .int .i64 10]) (by simp [results, Try.results18, go_sem, q_br0, q_br1, q_br2, q_br3, q_br4, q_br5, q_br6]) rfl ⟨ret_MR HD.out, below_set7 HB1.out (H := w.heap.size + 1) (by omega) _ _ _ _ _ _ _⟩
    · have HD := Lib.hid (suc_ok h0 hf)
      have HE := Lib.hid (h0)
      have hfb : (fl == 0) = false := beq_eq_false_iff_ne.2 hf
      have hbd : 0 ≤ nx ∧ nx ≤ 999999999968 ∧ 0 ≤ fl ∧ fl ≤ 32 := nx_bd h0
      obtain ⟨r1, r2, r3, r4⟩ := hbd
      clear h0 hf
      go_enter Try.func18, Try.ntmps18
      go_wp2_with fail
      refine (rMCheck_lit sh nx fl ac fi wa li _).mono ?_
      rintro e w1 ⟨rfl, hb⟩
      have bs : Blk w1 (w.heap.size) 23 #[.int .i64 sh, .int .i64 nx, .int .i64 fl, .int .i64 ac, .int .i64 fi, .int .i64 wa, .int .i64 li] := ((Blk.new _ _ _).alloc _).on hb
      have br : Blk w1 (w.heap.size + 1) 23 #[.int .i64 0, .int .i64 0, .int .i64 0, .int .i64 0, .int .i64 0, .int .i64 0, .int .i64 0] := (Blk.new1 _ _ _ _).on hb
      have hbz := hb.size
      have HB1 := Lib.hid ((((Below.refl w.heap.size w).alloc (by first | exact Nat.le_refl _ | omega | (simp; done) | (simp; omega)) _).alloc (by first | exact Nat.le_refl _ | omega | (simp; done) | (simp; omega)) _).trans (hb.mono (by first | exact Nat.le_refl _ | omega | (simp; done) | (simp; omega))))
      have hz1 : w.heap.size ≤ w1.heap.size := HB1.out.size
      clear hb hbz
      rw [HE.out]
      have q_bs0 : w1.cell? ⟨w.heap.size, 0, none⟩ = some (.int .i64 sh) := bs.cell 0
      have q_bs1 : w1.cell? ⟨w.heap.size, 1, none⟩ = some (.int .i64 nx) := bs.cell 1
      have q_bs2 : w1.cell? ⟨w.heap.size, 2, none⟩ = some (.int .i64 fl) := bs.cell 2
      have q_bs3 : w1.cell? ⟨w.heap.size, 3, none⟩ = some (.int .i64 ac) := bs.cell 3
      have q_bs4 : w1.cell? ⟨w.heap.size, 4, none⟩ = some (.int .i64 fi) := bs.cell 4
      have q_bs5 : w1.cell? ⟨w.heap.size, 5, none⟩ = some (.int .i64 wa) := bs.cell 5
      have q_bs6 : w1.cell? ⟨w.heap.size, 6, none⟩ = some (.int .i64 li) := bs.cell 6
      have q_br0 : w1.cell? ⟨w.heap.size + 1, 0, none⟩ = some (.int .i64 0) := br.cell 0
      have q_br1 : w1.cell? ⟨w.heap.size + 1, 1, none⟩ = some (.int .i64 0) := br.cell 1
      have q_br2 : w1.cell? ⟨w.heap.size + 1, 2, none⟩ = some (.int .i64 0) := br.cell 2
      have q_br3 : w1.cell? ⟨w.heap.size + 1, 3, none⟩ = some (.int .i64 0) := br.cell 3
      have q_br4 : w1.cell? ⟨w.heap.size + 1, 4, none⟩ = some (.int .i64 0) := br.cell 4
      have q_br5 : w1.cell? ⟨w.heap.size + 1, 5, none⟩ = some (.int .i64 0) := br.cell 5
      have q_br6 : w1.cell? ⟨w.heap.size + 1, 6, none⟩ = some (.int .i64 0) := br.cell 6
      have f_br0 : w1.frozen? ⟨w.heap.size + 1, 0, none⟩ = false := br.frozen 0
      have f_br1 : w1.frozen? ⟨w.heap.size + 1, 1, none⟩ = false := br.frozen 1
      have f_br2 : w1.frozen? ⟨w.heap.size + 1, 2, none⟩ = false := br.frozen 2
      have f_br3 : w1.frozen? ⟨w.heap.size + 1, 3, none⟩ = false := br.frozen 3
      have f_br4 : w1.frozen? ⟨w.heap.size + 1, 4, none⟩ = false := br.frozen 4
      have f_br5 : w1.frozen? ⟨w.heap.size + 1, 5, none⟩ = false := br.frozen 5
      have f_br6 : w1.frozen? ⟨w.heap.size + 1, 6, none⟩ = false := br.frozen 6
      go_wp2_with fail
      refine (done_any sh (nx + fl) 0 0 0 0 0 _).mono ?_
      rintro e w2 ⟨rfl, hb⟩
      clear q_bs0 q_bs1 q_bs2 q_bs3 q_bs4 q_bs5 q_bs6 q_br0 q_br1 q_br2 q_br3 q_br4 q_br5 q_br6 f_br0 f_br1 f_br2 f_br3 f_br4 f_br5 f_br6
      have bs : Blk w2 (w.heap.size) 23 #[.int .i64 sh, .int .i64 nx, .int .i64 fl, .int .i64 ac, .int .i64 fi, .int .i64 wa, .int .i64 li] := (bs).on hb
      have br : Blk w2 (w.heap.size + 1) 23 #[.int .i64 0, .int .i64 0, .int .i64 0, .int .i64 0, .int .i64 0, .int .i64 0, .int .i64 0] := (br).on hb
      have hbz := hb.size
      have HB2 := Lib.hid ((HB1.out).trans (hb.mono (by first | exact Nat.le_refl _ | omega | (simp; done) | (simp; omega))))
      have hz2 : w.heap.size ≤ w2.heap.size := HB2.out.size
      clear hb hbz
      generalize hR : rgS ⟨sh, nx + fl, 0, 0, 0, 0, 0⟩ = R
      obtain ⟨⟨a0, a1, a2, a3, a4, a5, a6⟩, n⟩ := R
      have HF := Lib.hid (HD.out.trans hR)
      clear hR
      simp only [MR, MS.cs]
      have q_br0 : w2.cell? ⟨w.heap.size + 1, 0, none⟩ = some (.int .i64 0) := br.cell 0
      have q_br1 : w2.cell? ⟨w.heap.size + 1, 1, none⟩ = some (.int .i64 0) := br.cell 1
      have q_br2 : w2.cell? ⟨w.heap.size + 1, 2, none⟩ = some (.int .i64 0) := br.cell 2
      have q_br3 : w2.cell? ⟨w.heap.size + 1, 3, none⟩ = some (.int .i64 0) := br.cell 3
      have q_br4 : w2.cell? ⟨w.heap.size + 1, 4, none⟩ = some (.int .i64 0) := br.cell 4
      have q_br5 : w2.cell? ⟨w.heap.size + 1, 5, none⟩ = some (.int .i64 0) := br.cell 5
      have q_br6 : w2.cell? ⟨w.heap.size + 1, 6, none⟩ = some (.int .i64 0) := br.cell 6
      have f_br0 : w2.frozen? ⟨w.heap.size + 1, 0, none⟩ = false := br.frozen 0
      have f_br1 : w2.frozen? ⟨w.heap.size + 1, 1, none⟩ = false := br.frozen 1
      have f_br2 : w2.frozen? ⟨w.heap.size + 1, 2, none⟩ = false := br.frozen 2
      have f_br3 : w2.frozen? ⟨w.heap.size + 1, 3, none⟩ = false := br.frozen 3
      have f_br4 : w2.frozen? ⟨w.heap.size + 1, 4, none⟩ = false := br.frozen 4
      have f_br5 : w2.frozen? ⟨w.heap.size + 1, 5, none⟩ = false := br.frozen 5
      have f_br6 : w2.frozen? ⟨w.heap.size + 1, 6, none⟩ = false := br.frozen 6
      go_wp2_with fail
      exact bodyPost_ret (v := .tuple #[.agg #[.int .i64 a0, .int .i64 a1, .int .i64 a2, .int .i64 a3, .int .i64 a4, .int .i64 a5, .int .i64 a6], .int .i64 n]) (by simp [results, Try.results18, go_sem, q_br0, q_br1, q_br2, q_br3, q_br4, q_br5, q_br6]) rfl ⟨ret_MR HF.out, below_set7 HB2.out (H := w.heap.size + 1) (by omega) _ _ _ _ _ _ _⟩
  · have HD := Lib.hid (suc_bad h0)
    go_enter Try.func18, Try.ntmps18
    go_wp2_with fail
    refine (rMCheck_lit sh nx fl ac fi wa li _).mono ?_
    rintro e w1 ⟨rfl, hb⟩
    have bs : Blk w1 (w.heap.size) 23 #[.int .i64 sh, .int .i64 nx, .int .i64 fl, .int .i64 ac, .int .i64 fi, .int .i64 wa, .int .i64 li] := ((Blk.new _ _ _).alloc _).on hb
    have br : Blk w1 (w.heap.size + 1) 23 #[.int .i64 0, .int .i64 0, .int .i64 0, .int .i64 0, .int .i64 0, .int .i64 0, .int .i64 0] := (Blk.new1 _ _ _ _).on hb
    have hbz := hb.size
    have HB1 := Lib.hid ((((Below.refl w.heap.size w).alloc (by first | exact Nat.le_refl _ | omega | (simp; done) | (simp; omega)) _).alloc (by first | exact Nat.le_refl _ | omega | (simp; done) | (simp; omega)) _).trans (hb.mono (by first | exact Nat.le_refl _ | omega | (simp; done) | (simp; omega))))
    have hz1 : w.heap.size ≤ w1.heap.size := HB1.out.size
    clear hb hbz
    generalize MS.e ⟨sh, nx, fl, ac, fi, wa, li⟩ = n at *
    have hne : (n == 0) = false := beq_eq_false_iff_ne.2 h0
    clear h0
    have q_bs0 : w1.cell? ⟨w.heap.size, 0, none⟩ = some (.int .i64 sh) := bs.cell 0
    have q_bs1 : w1.cell? ⟨w.heap.size, 1, none⟩ = some (.int .i64 nx) := bs.cell 1
    have q_bs2 : w1.cell? ⟨w.heap.size, 2, none⟩ = some (.int .i64 fl) := bs.cell 2
    have q_bs3 : w1.cell? ⟨w.heap.size, 3, none⟩ = some (.int .i64 ac) := bs.cell 3
    have q_bs4 : w1.cell? ⟨w.heap.size, 4, none⟩ = some (.int .i64 fi) := bs.cell 4
    have q_bs5 : w1.cell? ⟨w.heap.size, 5, none⟩ = some (.int .i64 wa) := bs.cell 5
    have q_bs6 : w1.cell? ⟨w.heap.size, 6, none⟩ = some (.int .i64 li) := bs.cell 6
    have q_br0 : w1.cell? ⟨w.heap.size + 1, 0, none⟩ = some (.int .i64 0) := br.cell 0
    have q_br1 : w1.cell? ⟨w.heap.size + 1, 1, none⟩ = some (.int .i64 0) := br.cell 1
    have q_br2 : w1.cell? ⟨w.heap.size + 1, 2, none⟩ = some (.int .i64 0) := br.cell 2
    have q_br3 : w1.cell? ⟨w.heap.size + 1, 3, none⟩ = some (.int .i64 0) := br.cell 3
    have q_br4 : w1.cell? ⟨w.heap.size + 1, 4, none⟩ = some (.int .i64 0) := br.cell 4
    have q_br5 : w1.cell? ⟨w.heap.size + 1, 5, none⟩ = some (.int .i64 0) := br.cell 5
    have q_br6 : w1.cell? ⟨w.heap.size + 1, 6, none⟩ = some (.int .i64 0) := br.cell 6
    have f_br0 : w1.frozen? ⟨w.heap.size + 1, 0, none⟩ = false := br.frozen 0
    have f_br1 : w1.frozen? ⟨w.heap.size + 1, 1, none⟩ = false := br.frozen 1
    have f_br2 : w1.frozen? ⟨w.heap.size + 1, 2, none⟩ = false := br.frozen 2
    have f_br3 : w1.frozen? ⟨w.heap.size + 1, 3, none⟩ = false := br.frozen 3
    have f_br4 : w1.frozen? ⟨w.heap.size + 1, 4, none⟩ = false := br.frozen 4
    have f_br5 : w1.frozen? ⟨w.heap.size + 1, 5, none⟩ = false := br.frozen 5
    have f_br6 : w1.frozen? ⟨w.heap.size + 1, 6, none⟩ = false := br.frozen 6
    go_wp2_with fail
    exact bodyPost_ret (v := .tuple #[.agg #[.int .i64 0, .int .i64 0, .int .i64 0, .int .i64 0, .int .i64 0, .int .i64 0, .int .i64 0], .int .i64 n]) (by simp [results, Try.results18, go_sem, q_br0, q_br1, q_br2, q_br3, q_br4, q_br5, q_br6]) rfl ⟨ret_MR HD.out, below_set7 HB1.out (H := w.heap.size + 1) (by omega) _ _ _ _ _ _ _⟩
end Go.Proofs.Ytojghgeemdpmpaa
