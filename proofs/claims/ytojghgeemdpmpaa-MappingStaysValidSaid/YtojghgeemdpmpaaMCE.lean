/- The states behind a batch of which the first records succeeded. -/
import Derived.Test.YtojghgeemdpmpaaMCD
namespace Go.Proofs.Ytojghgeemdpmpaa
open Go.RowKit
open Go.Sort (grow)
open BO (inB inB_yes inB_no)

theorem mIn_any (n lo hi : Int) (w : World) : Calls Try.prog 38 #[.int .i64 n, .int .i64 lo, .int .i64 hi] w fun e w' => e = .returned (.bool (inB n lo hi)) ∧ w = w' := by
  rcases Int.lt_or_le n lo with h | h
  · have HD := Lib.hid (inB_no (n := n) (lo := lo) (hi := hi) (by omega))
    go_enter Try.func38, Try.ntmps38
    go_wp2
    all_goals try (exfalso; omega)
    go_ret
    exact ⟨ret_bool HD.out.symm, rfl⟩
  · rcases Int.lt_or_le hi n with h' | h'
    · have HD := Lib.hid (inB_no (n := n) (lo := lo) (hi := hi) (by omega))
      have hd : decide (n ≤ hi) = false := decide_eq_false (by omega)
      go_enter Try.func38, Try.ntmps38
      go_wp2
      all_goals try (exfalso; omega)
      go_ret
      exact ⟨ret_bool HD.out.symm, rfl⟩
    · have HD := Lib.hid (inB_yes (n := n) (lo := lo) (hi := hi) ⟨h, h'⟩)
      have hd : decide (n ≤ hi) = true := decide_eq_true h'
      go_enter Try.func38, Try.ntmps38
      go_wp2
      all_goals try (exfalso; omega)
      go_ret
      exact ⟨ret_bool HD.out.symm, rfl⟩
def parS (s : MS) (m : Int) : MS × Int := if s.e ≠ 0 then (MS.z, s.e) else if s.fl = 0 then (MS.z, 10) else if 0 ≤ m ∧ m < s.fl then rgS ⟨s.sh, s.nx + m, 0, 0, 0, 0, s.fl - m⟩ else (MS.z, 2)
theorem par_bad {s : MS} {m : Int} (h : s.e ≠ 0) : parS s m = (MS.z, s.e) := if_pos h
theorem par_none {s : MS} {m : Int} (h : s.e = 0) (h' : s.fl = 0) : parS s m = (MS.z, 10) := by unfold parS; rw [if_neg (fun hh => hh h), if_pos h']
theorem par_ok {s : MS} {m : Int} (h : s.e = 0) (h' : s.fl ≠ 0) (h2 : 0 ≤ m ∧ m < s.fl) : parS s m = rgS ⟨s.sh, s.nx + m, 0, 0, 0, 0, s.fl - m⟩ := by unfold parS; rw [if_neg (fun hh => hh h), if_neg h', if_pos h2]
theorem par_out {s : MS} {m : Int} (h : s.e = 0) (h' : s.fl ≠ 0) (h2 : ¬ (0 ≤ m ∧ m < s.fl)) : parS s m = (MS.z, 2) := by unfold parS; rw [if_neg (fun hh => hh h), if_neg h', if_neg h2]
set_option maxHeartbeats 2000000 in
set_option maxRecDepth 20000 in
theorem Partial_any (sh nx fl ac fi wa li m : Int) (w : World) : Calls Try.prog 19 #[.agg #[.int .i64 sh, .int .i64 nx, .int .i64 fl, .int .i64 ac, .int .i64 fi, .int .i64 wa, .int .i64 li], .int .i64 m] w fun e w' => e = .returned (MR (parS ⟨sh, nx, fl, ac, fi, wa, li⟩ m)) ∧ Below w.heap.size w w' := by
  have hn0 := Nat.le_refl w.heap.size
  by_cases h0 : MS.e ⟨sh, nx, fl, ac, fi, wa, li⟩ = 0
  · by_cases hf : fl = 0
    · have HD := Lib.hid (par_none (m := m) h0 hf)
      have HE := Lib.hid (fly_none h0 hf)
      have hfb : (fl == 0) = true := beq_iff_eq.2 hf
      clear h0 hf
      go_enter Try.func19, Try.ntmps19
      go_wp2_with fail
      refine (flying_any sh nx fl ac fi wa li _).mono ?_
      rintro e w1 ⟨rfl, hb⟩
      have bs : Blk w1 (w.heap.size) 23 #[.int .i64 sh, .int .i64 nx, .int .i64 fl, .int .i64 ac, .int .i64 fi, .int .i64 wa, .int .i64 li] := ((Blk.new _ _ _).alloc _).on hb
      have br : Blk w1 (w.heap.size + 1) 23 #[.int .i64 0, .int .i64 0, .int .i64 0, .int .i64 0, .int .i64 0, .int .i64 0, .int .i64 0] := (Blk.new1 _ _ _ _).on hb
      have hbz := hb.size
      have HB1 := Lib.hid ((((Below.refl w.heap.size w).alloc (by first | exact Nat.le_refl _ | omega | (simp; done) | (simp; omega)) _).alloc (by first | exact Nat.le_refl _ | omega | (simp; done) | (simp; omega)) _).trans (hb.mono (by first | exact Nat.le_refl _ | omega | (simp; done) | (simp; omega))))
      have hz1 : w.heap.size ≤ w1.heap.size := HB1.out.size
      clear hb hbz
      rw [HE.out]
      have q_bs0 : w1.cell? ⟨w.heap.size, 0, none⟩ = some (.int .i64 sh) := bs.cell 0
      have q_bs1 : w1.cell? ⟨w.heap.size, 1, none⟩ = some (.int .i64 nx) := bs.cell 1
      have q_bs2 : w1.cell? ⟨w.heap.size, 2, none⟩ = some (.int .i64 fl) := bs.cell 2
      have q_bs3 : w1.cell? ⟨w.heap.size, 3, none⟩ = some (.int .i64 ac) := bs.cell 3
      have q_bs4 : w1.cell? ⟨w.heap.size, 4, none⟩ = some (.int .i64 fi) := bs.cell 4
      have q_bs5 : w1.cell? ⟨w.heap.size, 5, none⟩ = some (.int .i64 wa) := bs.cell 5
      have q_bs6 : w1.cell? ⟨w.heap.size, 6, none⟩ = some (.int .i64 li) := bs.cell 6
      have q_br0 : w1.cell? ⟨w.heap.size + 1, 0, none⟩ = some (.int .i64 0) := br.cell 0
      have q_br1 : w1.cell? ⟨w.heap.size + 1, 1, none⟩ = some (.int .i64 0) := br.cell 1
      have q_br2 : w1.cell? ⟨w.heap.size + 1, 2, none⟩ = some (.int .i64 0) := br.cell 2
      have q_br3 : w1.cell? ⟨w.heap.size + 1, 3, none⟩ = some (.int .i64 0) := br.cell 3
      have q_br4 : w1.cell? ⟨w.heap.size + 1, 4, none⟩ = some (.int .i64 0) := br.cell 4
      have q_br5 : w1.cell? ⟨w.heap.size + 1, 5, none⟩ = some (.int .i64 0) := br.cell 5
      have q_br6 : w1.cell? ⟨w.heap.size + 1, 6, none⟩ = some (.int .i64 0) := br.cell 6
      have f_br0 : w1.frozen? ⟨w.heap.size + 1, 0, none⟩ = false := br.frozen 0
      have f_br1 : w1.frozen? ⟨w.heap.size + 1, 1, none⟩ = false := br.frozen 1
      have f_br2 : w1.frozen? ⟨w.heap.size + 1, 2, none⟩ = false := br.frozen 2
      have f_br3 : w1.frozen? ⟨w.heap.size + 1, 3, none⟩ = false := br.frozen 3
      have f_br4 : w1.frozen? ⟨w.heap.size + 1, 4, none⟩ = false := br.frozen 4
      have f_br5 : w1.frozen? ⟨w.heap.size + 1, 5, none⟩ = false := br.frozen 5
      have f_br6 : w1.frozen? ⟨w.heap.size + 1, 6, none⟩ = false := br.frozen 6
      go_wp2_with fail
      exact bodyPost_ret (v := .tuple #[.agg #[.int .i64 0, .int .i64 0, .int .i64 0, .int .i64 0, .int .i64 0, .int .i64 0, .int .i64 0], .int .i64 10]) (by simp [results, Try.results19, go_sem, q_br0, q_br1, q_br2, q_br3, q_br4, q_br5, q_br6]) rfl ⟨ret_MR HD.out, below_set7 HB1.out (H := w.heap.size + 1) (by omega) _ _ _ _ _ _ _⟩
    · have hbd : 0 ≤ nx ∧ nx ≤ 999999999968 ∧ 0 ≤ fl ∧ fl ≤ 32 := nx_bd h0
      obtain ⟨r1, r2, r3, r4⟩ := hbd
      by_cases hm : 0 ≤ m ∧ m < fl
      · have HD := Lib.hid (par_ok h0 hf hm)
        have HI := Lib.hid (inB_yes (n := m) (lo := 0) (hi := fl - 1) ⟨hm.1, by have := hm.2; omega⟩)
        have HE := Lib.hid (fly_ok h0 hf)
        have hfb : (fl == 0) = false := beq_eq_false_iff_ne.2 hf
        clear h0 hf
        obtain ⟨m1, m2⟩ := hm
        have hmd : decide (fl ≤ m) = false := decide_eq_false (by omega)
        go_enter Try.func19, Try.ntmps19
        go_wp2_with fail
        refine (flying_any sh nx fl ac fi wa li _).mono ?_
        rintro e w1 ⟨rfl, hb⟩
        have bs : Blk w1 (w.heap.size) 23 #[.int .i64 sh, .int .i64 nx, .int .i64 fl, .int .i64 ac, .int .i64 fi, .int .i64 wa, .int .i64 li] := ((Blk.new _ _ _).alloc _).on hb
        have br : Blk w1 (w.heap.size + 1) 23 #[.int .i64 0, .int .i64 0, .int .i64 0, .int .i64 0, .int .i64 0, .int .i64 0, .int .i64 0] := (Blk.new1 _ _ _ _).on hb
        have hbz := hb.size
        have HB1 := Lib.hid ((((Below.refl w.heap.size w).alloc (by first | exact Nat.le_refl _ | omega | (simp; done) | (simp; omega)) _).alloc (by first | exact Nat.le_refl _ | omega | (simp; done) | (simp; omega)) _).trans (hb.mono (by first | exact Nat.le_refl _ | omega | (simp; done) | (simp; omega))))
        have hz1 : w.heap.size ≤ w1.heap.size := HB1.out.size
        clear hb hbz
        rw [HE.out]
        have q_bs0 : w1.cell? ⟨w.heap.size, 0, none⟩ = some (.int .i64 sh) := bs.cell 0
        have q_bs1 : w1.cell? ⟨w.heap.size, 1, none⟩ = some (.int .i64 nx) := bs.cell 1
        have q_bs2 : w1.cell? ⟨w.heap.size, 2, none⟩ = some (.int .i64 fl) := bs.cell 2
        have q_bs3 : w1.cell? ⟨w.heap.size, 3, none⟩ = some (.int .i64 ac) := bs.cell 3
        have q_bs4 : w1.cell? ⟨w.heap.size, 4, none⟩ = some (.int .i64 fi) := bs.cell 4
        have q_bs5 : w1.cell? ⟨w.heap.size, 5, none⟩ = some (.int .i64 wa) := bs.cell 5
        have q_bs6 : w1.cell? ⟨w.heap.size, 6, none⟩ = some (.int .i64 li) := bs.cell 6
        have q_br0 : w1.cell? ⟨w.heap.size + 1, 0, none⟩ = some (.int .i64 0) := br.cell 0
        have q_br1 : w1.cell? ⟨w.heap.size + 1, 1, none⟩ = some (.int .i64 0) := br.cell 1
        have q_br2 : w1.cell? ⟨w.heap.size + 1, 2, none⟩ = some (.int .i64 0) := br.cell 2
        have q_br3 : w1.cell? ⟨w.heap.size + 1, 3, none⟩ = some (.int .i64 0) := br.cell 3
        have q_br4 : w1.cell? ⟨w.heap.size + 1, 4, none⟩ = some (.int .i64 0) := br.cell 4
        have q_br5 : w1.cell? ⟨w.heap.size + 1, 5, none⟩ = some (.int .i64 0) := br.cell 5
        have q_br6 : w1.cell? ⟨w.heap.size + 1, 6, none⟩ = some (.int .i64 0) := br.cell 6
        have f_br0 : w1.frozen? ⟨w.heap.size + 1, 0, none⟩ = false := br.frozen 0
        have f_br1 : w1.frozen? ⟨w.heap.size + 1, 1, none⟩ = false := br.frozen 1
        have f_br2 : w1.frozen? ⟨w.heap.size + 1, 2, none⟩ = false := br.frozen 2
        have f_br3 : w1.frozen? ⟨w.heap.size + 1, 3, none⟩ = false := br.frozen 3
        have f_br4 : w1.frozen? ⟨w.heap.size + 1, 4, none⟩ = false := br.frozen 4
        have f_br5 : w1.frozen? ⟨w.heap.size + 1, 5, none⟩ = false := br.frozen 5
        have f_br6 : w1.frozen? ⟨w.heap.size + 1, 6, none⟩ = false := br.frozen 6
        go_wp2_with fail
        refine (mIn_any m 0 (fl - 1) _).mono ?_
        rintro e wq ⟨rfl, rfl⟩
        rw [HI.out]
        go_wp2_with fail
        refine (ranged_any sh (nx + m) 0 0 0 0 (fl - m) _).mono ?_
        rintro e w2 ⟨rfl, hb⟩
        clear q_bs0 q_bs1 q_bs2 q_bs3 q_bs4 q_bs5 q_bs6 q_br0 q_br1 q_br2 q_br3 q_br4 q_br5 q_br6 f_br0 f_br1 f_br2 f_br3 f_br4 f_br5 f_br6
        have bs : Blk w2 (w.heap.size) 23 #[.int .i64 sh, .int .i64 nx, .int .i64 fl, .int .i64 ac, .int .i64 fi, .int .i64 wa, .int .i64 li] := (bs).on hb
        have br : Blk w2 (w.heap.size + 1) 23 #[.int .i64 0, .int .i64 0, .int .i64 0, .int .i64 0, .int .i64 0, .int .i64 0, .int .i64 0] := (br).on hb
        have hbz := hb.size
        have HB2 := Lib.hid ((HB1.out).trans (hb.mono (by first | exact Nat.le_refl _ | omega | (simp; done) | (simp; omega))))
        have hz2 : w.heap.size ≤ w2.heap.size := HB2.out.size
        clear hb hbz
        generalize hR : rgS ⟨sh, nx + m, 0, 0, 0, 0, fl - m⟩ = R
        obtain ⟨⟨a0, a1, a2, a3, a4, a5, a6⟩, n⟩ := R
        have HF := Lib.hid (HD.out.trans hR)
        clear hR
        simp only [MR, MS.cs]
        have q_br0 : w2.cell? ⟨w.heap.size + 1, 0, none⟩ = some (.int .i64 0) := br.cell 0
        have q_br1 : w2.cell? ⟨w.heap.size + 1, 1, none⟩ = some (.int .i64 0) := br.cell 1
        have q_br2 : w2.cell? ⟨w.heap.size + 1, 2, none⟩ = some (.int .i64 0) := br.cell 2
        have q_br3 : w2.cell? ⟨w.heap.size + 1, 3, none⟩ = some (.int .i64 0) := br.cell 3
        have q_br4 : w2.cell? ⟨w.heap.size + 1, 4, none⟩ = some (.int .i64 0) := br.cell 4
        have q_br5 : w2.cell? ⟨w.heap.size + 1, 5, none⟩ = some (.int .i64 0) := br.cell 5
        have q_br6 : w2.cell? ⟨w.heap.size + 1, 6, none⟩ = some (.int .i64 0) := br.cell 6
        have f_br0 : w2.frozen? ⟨w.heap.size + 1, 0, none⟩ = false := br.frozen 0
        have f_br1 : w2.frozen? ⟨w.heap.size + 1, 1, none⟩ = false := br.frozen 1
        have f_br2 : w2.frozen? ⟨w.heap.size + 1, 2, none⟩ = false := br.frozen 2
        have f_br3 : w2.frozen? ⟨w.heap.size + 1, 3, none⟩ = false := br.frozen 3
        have f_br4 : w2.frozen? ⟨w.heap.size + 1, 4, none⟩ = false := br.frozen 4
        have f_br5 : w2.frozen? ⟨w.heap.size + 1, 5, none⟩ = false := br.frozen 5
        have f_br6 : w2.frozen? ⟨w.heap.size + 1, 6, none⟩ = false := br.frozen 6
        go_wp2_with fail
        exact bodyPost_ret (v := .tuple #[.agg #[.int .i64 a0, .int .i64 a1, .int .i64 a2, .int .i64 a3, .int .i64 a4, .int .i64 a5, .int .i64 a6], .int .i64 n]) (by simp [results, Try.results19, go_sem, q_br0, q_br1, q_br2, q_br3, q_br4, q_br5, q_br6]) rfl ⟨ret_MR HF.out, below_set7 HB2.out (H := w.heap.size + 1) (by omega) _ _ _ _ _ _ _⟩
      · have HD := Lib.hid (par_out h0 hf hm)
        have HI := Lib.hid (inB_no (n := m) (lo := 0) (hi := fl - 1) (fun h => hm ⟨h.1, by have := h.2; omega⟩))
        have HE := Lib.hid (fly_ok h0 hf)
        have hfb : (fl == 0) = false := beq_eq_false_iff_ne.2 hf
        clear h0 hf
        clear hm
        go_enter Try.func19, Try.ntmps19
        go_wp2_with fail
        refine (flying_any sh nx fl ac fi wa li _).mono ?_
        rintro e w1 ⟨rfl, hb⟩
        have bs : Blk w1 (w.heap.size) 23 #[.int .i64 sh, .int .i64 nx, .int .i64 fl, .int .i64 ac, .int .i64 fi, .int .i64 wa, .int .i64 li] := ((Blk.new _ _ _).alloc _).on hb
        have br : Blk w1 (w.heap.size + 1) 23 #[.int .i64 0, .int .i64 0, .int .i64 0, .int .i64 0, .int .i64 0, .int .i64 0, .int .i64 0] := (Blk.new1 _ _ _ _).on hb
        have hbz := hb.size
        have HB1 := Lib.hid ((((Below.refl w.heap.size w).alloc (by first | exact Nat.le_refl _ | omega | (simp; done) | (simp; omega)) _).alloc (by first | exact Nat.le_refl _ | omega | (simp; done) | (simp; omega)) _).trans (hb.mono (by first | exact Nat.le_refl _ | omega | (simp; done) | (simp; omega))))
        have hz1 : w.heap.size ≤ w1.heap.size := HB1.out.size
        clear hb hbz
        rw [HE.out]
        have q_bs0 : w1.cell? ⟨w.heap.size, 0, none⟩ = some (.int .i64 sh) := bs.cell 0
        have q_bs1 : w1.cell? ⟨w.heap.size, 1, none⟩ = some (.int .i64 nx) := bs.cell 1
        have q_bs2 : w1.cell? ⟨w.heap.size, 2, none⟩ = some (.int .i64 fl) := bs.cell 2
        have q_bs3 : w1.cell? ⟨w.heap.size, 3, none⟩ = some (.int .i64 ac) := bs.cell 3
        have q_bs4 : w1.cell? ⟨w.heap.size, 4, none⟩ = some (.int .i64 fi) := bs.cell 4
        have q_bs5 : w1.cell? ⟨w.heap.size, 5, none⟩ = some (.int .i64 wa) := bs.cell 5
        have q_bs6 : w1.cell? ⟨w.heap.size, 6, none⟩ = some (.int .i64 li) := bs.cell 6
        have q_br0 : w1.cell? ⟨w.heap.size + 1, 0, none⟩ = some (.int .i64 0) := br.cell 0
        have q_br1 : w1.cell? ⟨w.heap.size + 1, 1, none⟩ = some (.int .i64 0) := br.cell 1
        have q_br2 : w1.cell? ⟨w.heap.size + 1, 2, none⟩ = some (.int .i64 0) := br.cell 2
        have q_br3 : w1.cell? ⟨w.heap.size + 1, 3, none⟩ = some (.int .i64 0) := br.cell 3
        have q_br4 : w1.cell? ⟨w.heap.size + 1, 4, none⟩ = some (.int .i64 0) := br.cell 4
        have q_br5 : w1.cell? ⟨w.heap.size + 1, 5, none⟩ = some (.int .i64 0) := br.cell 5
        have q_br6 : w1.cell? ⟨w.heap.size + 1, 6, none⟩ = some (.int .i64 0) := br.cell 6
        have f_br0 : w1.frozen? ⟨w.heap.size + 1, 0, none⟩ = false := br.frozen 0
        have f_br1 : w1.frozen? ⟨w.heap.size + 1, 1, none⟩ = false := br.frozen 1
        have f_br2 : w1.frozen? ⟨w.heap.size + 1, 2, none⟩ = false := br.frozen 2
        have f_br3 : w1.frozen? ⟨w.heap.size + 1, 3, none⟩ = false := br.frozen 3
        have f_br4 : w1.frozen? ⟨w.heap.size + 1, 4, none⟩ = false := br.frozen 4
        have f_br5 : w1.frozen? ⟨w.heap.size + 1, 5, none⟩ = false := br.frozen 5
        have f_br6 : w1.frozen? ⟨w.heap.size + 1, 6, none⟩ = false := br.frozen 6
        go_wp2_with fail
        refine (mIn_any m 0 (fl - 1) _).mono ?_
        rintro e wq ⟨rfl, rfl⟩
        rw [HI.out]
        go_wp2_with fail
        exact bodyPost_ret (v := .tuple #[.agg #[.int .i64 0, .int .i64 0, .int .i64 0, .int .i64 0, .int .i64 0, .int .i64 0, .int .i64 0], .int .i64 2]) (by simp [results, Try.results19, go_sem, q_br0, q_br1, q_br2, q_br3, q_br4, q_br5, q_br6]) rfl ⟨ret_MR HD.out, below_set7 HB1.out (H := w.heap.size + 1) (by omega) _ _ _ _ _ _ _⟩
  · have HD := Lib.hid (par_bad (m := m) h0)
    have HE := Lib.hid (fly_bad h0)
    go_enter Try.func19, Try.ntmps19
    go_wp2_with fail
    refine (flying_any sh nx fl ac fi wa li _).mono ?_
    rintro e w1 ⟨rfl, hb⟩
    have bs : Blk w1 (w.heap.size) 23 #[.int .i64 sh, .int .i64 nx, .int .i64 fl, .int .i64 ac, .int .i64 fi, .int .i64 wa, .int .i64 li] := ((Blk.new _ _ _).alloc _).on hb
    have br : Blk w1 (w.heap.size + 1) 23 #[.int .i64 0, .int .i64 0, .int .i64 0, .int .i64 0, .int .i64 0, .int .i64 0, .int .i64 0] := (Blk.new1 _ _ _ _).on hb
    have hbz := hb.size
    have HB1 := Lib.hid ((((Below.refl w.heap.size w).alloc (by first | exact Nat.le_refl _ | omega | (simp; done) | (simp; omega)) _).alloc (by first | exact Nat.le_refl _ | omega | (simp; done) | (simp; omega)) _).trans (hb.mono (by first | exact Nat.le_refl _ | omega | (simp; done) | (simp; omega))))
    have hz1 : w.heap.size ≤ w1.heap.size := HB1.out.size
    clear hb hbz
    rw [HE.out]
    generalize MS.e ⟨sh, nx, fl, ac, fi, wa, li⟩ = n at *
    have hne : (n == 0) = false := beq_eq_false_iff_ne.2 h0
    clear h0
    have q_bs0 : w1.cell? ⟨w.heap.size, 0, none⟩ = some (.int .i64 sh) := bs.cell 0
    have q_bs1 : w1.cell? ⟨w.heap.size, 1, none⟩ = some (.int .i64 nx) := bs.cell 1
    have q_bs2 : w1.cell? ⟨w.heap.size, 2, none⟩ = some (.int .i64 fl) := bs.cell 2
    have q_bs3 : w1.cell? ⟨w.heap.size, 3, none⟩ = some (.int .i64 ac) := bs.cell 3
    have q_bs4 : w1.cell? ⟨w.heap.size, 4, none⟩ = some (.int .i64 fi) := bs.cell 4
    have q_bs5 : w1.cell? ⟨w.heap.size, 5, none⟩ = some (.int .i64 wa) := bs.cell 5
    have q_bs6 : w1.cell? ⟨w.heap.size, 6, none⟩ = some (.int .i64 li) := bs.cell 6
    have q_br0 : w1.cell? ⟨w.heap.size + 1, 0, none⟩ = some (.int .i64 0) := br.cell 0
    have q_br1 : w1.cell? ⟨w.heap.size + 1, 1, none⟩ = some (.int .i64 0) := br.cell 1
    have q_br2 : w1.cell? ⟨w.heap.size + 1, 2, none⟩ = some (.int .i64 0) := br.cell 2
    have q_br3 : w1.cell? ⟨w.heap.size + 1, 3, none⟩ = some (.int .i64 0) := br.cell 3
    have q_br4 : w1.cell? ⟨w.heap.size + 1, 4, none⟩ = some (.int .i64 0) := br.cell 4
    have q_br5 : w1.cell? ⟨w.heap.size + 1, 5, none⟩ = some (.int .i64 0) := br.cell 5
    have q_br6 : w1.cell? ⟨w.heap.size + 1, 6, none⟩ = some (.int .i64 0) := br.cell 6
    have f_br0 : w1.frozen? ⟨w.heap.size + 1, 0, none⟩ = false := br.frozen 0
    have f_br1 : w1.frozen? ⟨w.heap.size + 1, 1, none⟩ = false := br.frozen 1
    have f_br2 : w1.frozen? ⟨w.heap.size + 1, 2, none⟩ = false := br.frozen 2
    have f_br3 : w1.frozen? ⟨w.heap.size + 1, 3, none⟩ = false := br.frozen 3
    have f_br4 : w1.frozen? ⟨w.heap.size + 1, 4, none⟩ = false := br.frozen 4
    have f_br5 : w1.frozen? ⟨w.heap.size + 1, 5, none⟩ = false := br.frozen 5
    have f_br6 : w1.frozen? ⟨w.heap.size + 1, 6, none⟩ = false := br.frozen 6
    go_wp2_with fail
    exact bodyPost_ret (v := .tuple #[.agg #[.int .i64 0, .int .i64 0, .int .i64 0, .int .i64 0, .int .i64 0, .int .i64 0, .int .i64 0], .int .i64 n]) (by simp [results, Try.results19, go_sem, q_br0, q_br1, q_br2, q_br3, q_br4, q_br5, q_br6]) rfl ⟨ret_MR HD.out, below_set7 HB1.out (H := w.heap.size + 1) (by omega) _ _ _ _ _ _ _⟩
set_option maxHeartbeats 2000000 in
set_option maxRecDepth 20000 in
theorem rPartial_any (sh nx fl ac fi wa li m : Int) (w : World) : Calls Try.prog 20 #[.agg #[.int .i64 sh, .int .i64 nx, .int .i64 fl, .int .i64 ac, .int .i64 fi, .int .i64 wa, .int .i64 li], .int .i64 m] w fun e w' => e = .returned (MR (parS ⟨sh, nx, fl, ac, fi, wa, li⟩ m)) ∧ Below w.heap.size w w' := by
  have hn0 := Nat.le_refl w.heap.size
  by_cases h0 : MS.e ⟨sh, nx, fl, ac, fi, wa, li⟩ = 0
  · by_cases hf : fl = 0
    · have HD := Lib.hid (par_none (m := m) h0 hf)
      have HE := Lib.hid (h0)
      have hfb : (fl == 0) = true := beq_iff_eq.2 hf
      clear h0 hf
      go_enter Try.func20, Try.ntmps20
      go_wp2_with fail
      refine (rMCheck_lit sh nx fl ac fi wa li _).mono ?_
      rintro e w1 ⟨rfl, hb⟩
      have bs : Blk w1 (w.heap.size) 23 #[.int .i64 sh, .int .i64 nx, .int .i64 fl, .int .i64 ac, .int .i64 fi, .int .i64 wa, .int .i64 li] := ((Blk.new _ _ _).alloc _).on hb
      have br : Blk w1 (w.heap.size + 1) 23 #[.int .i64 0, .int .i64 0, .int .i64 0, .int .i64 0, .int .i64 0, .int .i64 0, .int .i64 0] := (Blk.new1 _ _ _ _).on hb
      have hbz := hb.size
      have HB1 := Lib.hid ((((Below.refl w.heap.size w).alloc (by first | exact Nat.le_refl _ | omega | (simp; done) | (simp; omega)) _).alloc (by first | exact Nat.le_refl _ | omega | (simp; done) | (simp; omega)) _).trans (hb.mono (by first | exact Nat.le_refl _ | omega | (simp; done) | (simp; omega))))
      have hz1 : w.heap.size ≤ w1.heap.size := HB1.out.size
      clear hb hbz
      rw [HE.out]
      have q_bs0 : w1.cell? ⟨w.heap.size, 0, none⟩ = some (.int .i64 sh) := bs.cell 0
      have q_bs1 : w1.cell? ⟨w.heap.size, 1, none⟩ = some (.int .i64 nx) := bs.cell 1
      have q_bs2 : w1.cell? ⟨w.heap.size, 2, none⟩ = some (.int .i64 fl) := bs.cell 2
      have q_bs3 : w1.cell? ⟨w.heap.size, 3, none⟩ = some (.int .i64 ac) := bs.cell 3
      have q_bs4 : w1.cell? ⟨w.heap.size, 4, none⟩ = some (.int .i64 fi) := bs.cell 4
      have q_bs5 : w1.cell? ⟨w.heap.size, 5, none⟩ = some (.int .i64 wa) := bs.cell 5
      have q_bs6 : w1.cell? ⟨w.heap.size, 6, none⟩ = some (.int .i64 li) := bs.cell 6
      have q_br0 : w1.cell? ⟨w.heap.size + 1, 0, none⟩ = some (.int .i64 0) := br.cell 0
      have q_br1 : w1.cell? ⟨w.heap.size + 1, 1, none⟩ = some (.int .i64 0) := br.cell 1
      have q_br2 : w1.cell? ⟨w.heap.size + 1, 2, none⟩ = some (.int .i64 0) := br.cell 2
      have q_br3 : w1.cell? ⟨w.heap.size + 1, 3, none⟩ = some (.int .i64 0) := br.cell 3
      have q_br4 : w1.cell? ⟨w.heap.size + 1, 4, none⟩ = some (.int .i64 0) := br.cell 4
      have q_br5 : w1.cell? ⟨w.heap.size + 1, 5, none⟩ = some (.int .i64 0) := br.cell 5
      have q_br6 : w1.cell? ⟨w.heap.size + 1, 6, none⟩ = some (.int .i64 0) := br.cell 6
      have f_br0 : w1.frozen? ⟨w.heap.size + 1, 0, none⟩ = false := br.frozen 0
      have f_br1 : w1.frozen? ⟨w.heap.size + 1, 1, none⟩ = false := br.frozen 1
      have f_br2 : w1.frozen? ⟨w.heap.size + 1, 2, none⟩ = false := br.frozen 2
      have f_br3 : w1.frozen? ⟨w.heap.size + 1, 3, none⟩ = false := br.frozen 3
      have f_br4 : w1.frozen? ⟨w.heap.size + 1, 4, none⟩ = false := br.frozen 4
      have f_br5 : w1.frozen? ⟨w.heap.size + 1, 5, none⟩ = false := br.frozen 5
      have f_br6 : w1.frozen? ⟨w.heap.size + 1, 6, none⟩ = false := br.frozen 6
      go_wp2_with fail
      exact bodyPost_ret (v := .tuple #[.agg #[.int .i64 0, .int .i64 0, .int .i64 0, .int .i64 0, .int .i64 0, .int .i64 0, .int .i64 0], .int .i64 10]) (by simp [results, Try.results20, go_sem, q_br0, q_br1, q_br2, q_br3, q_br4, q_br5, q_br6]) rfl ⟨ret_MR HD.out, below_set7 HB1.out (H := w.heap.size + 1) (by omega) _ _ _ _ _ _ _⟩
    · have hbd : 0 ≤ nx ∧ nx ≤ 999999999968 ∧ 0 ≤ fl ∧ fl ≤ 32 := nx_bd h0
      obtain ⟨r1, r2, r3, r4⟩ := hbd
      by_cases hm : 0 ≤ m ∧ m < fl
      · have HD := Lib.hid (par_ok h0 hf hm)
        have HI := Lib.hid (inB_yes (n := m) (lo := 0) (hi := fl - 1) ⟨hm.1, by have := hm.2; omega⟩)
        have HE := Lib.hid (h0)
        have hfb : (fl == 0) = false := beq_eq_false_iff_ne.2 hf
        clear h0 hf
        obtain ⟨m1, m2⟩ := hm
        have hmd : decide (fl ≤ m) = false := decide_eq_false (by omega)
        go_enter Try.func20, Try.ntmps20
        go_wp2_with fail
        refine (rMCheck_lit sh nx fl ac fi wa li _).mono ?_
        rintro e w1 ⟨rfl, hb⟩
        have bs : Blk w1 (w.heap.size) 23 #[.int .i64 sh, .int .i64 nx, .int .i64 fl, .int .i64 ac, .int .i64 fi, .int .i64 wa, .int .i64 li] := ((Blk.new _ _ _).alloc _).on hb
        have br : Blk w1 (w.heap.size + 1) 23 #[.int .i64 0, .int .i64 0, .int .i64 0, .int .i64 0, .int .i64 0, .int .i64 0, .int .i64 0] := (Blk.new1 _ _ _ _).on hb
        have hbz := hb.size
        have HB1 := Lib.hid ((((Below.refl w.heap.size w).alloc (by first | exact Nat.le_refl _ | omega | (simp; done) | (simp; omega)) _).alloc (by first | exact Nat.le_refl _ | omega | (simp; done) | (simp; omega)) _).trans (hb.mono (by first | exact Nat.le_refl _ | omega | (simp; done) | (simp; omega))))
        have hz1 : w.heap.size ≤ w1.heap.size := HB1.out.size
        clear hb hbz
        rw [HE.out]
        have q_bs0 : w1.cell? ⟨w.heap.size, 0, none⟩ = some (.int .i64 sh) := bs.cell 0
        have q_bs1 : w1.cell? ⟨w.heap.size, 1, none⟩ = some (.int .i64 nx) := bs.cell 1
        have q_bs2 : w1.cell? ⟨w.heap.size, 2, none⟩ = some (.int .i64 fl) := bs.cell 2
        have q_bs3 : w1.cell? ⟨w.heap.size, 3, none⟩ = some (.int .i64 ac) := bs.cell 3
        have q_bs4 : w1.cell? ⟨w.heap.size, 4, none⟩ = some (.int .i64 fi) := bs.cell 4
        have q_bs5 : w1.cell? ⟨w.heap.size, 5, none⟩ = some (.int .i64 wa) := bs.cell 5
        have q_bs6 : w1.cell? ⟨w.heap.size, 6, none⟩ = some (.int .i64 li) := bs.cell 6
        have q_br0 : w1.cell? ⟨w.heap.size + 1, 0, none⟩ = some (.int .i64 0) := br.cell 0
        have q_br1 : w1.cell? ⟨w.heap.size + 1, 1, none⟩ = some (.int .i64 0) := br.cell 1
        have q_br2 : w1.cell? ⟨w.heap.size + 1, 2, none⟩ = some (.int .i64 0) := br.cell 2
        have q_br3 : w1.cell? ⟨w.heap.size + 1, 3, none⟩ = some (.int .i64 0) := br.cell 3
        have q_br4 : w1.cell? ⟨w.heap.size + 1, 4, none⟩ = some (.int .i64 0) := br.cell 4
        have q_br5 : w1.cell? ⟨w.heap.size + 1, 5, none⟩ = some (.int .i64 0) := br.cell 5
        have q_br6 : w1.cell? ⟨w.heap.size + 1, 6, none⟩ = some (.int .i64 0) := br.cell 6
        have f_br0 : w1.frozen? ⟨w.heap.size + 1, 0, none⟩ = false := br.frozen 0
        have f_br1 : w1.frozen? ⟨w.heap.size + 1, 1, none⟩ = false := br.frozen 1
        have f_br2 : w1.frozen? ⟨w.heap.size + 1, 2, none⟩ = false := br.frozen 2
        have f_br3 : w1.frozen? ⟨w.heap.size + 1, 3, none⟩ = false := br.frozen 3
        have f_br4 : w1.frozen? ⟨w.heap.size + 1, 4, none⟩ = false := br.frozen 4
        have f_br5 : w1.frozen? ⟨w.heap.size + 1, 5, none⟩ = false := br.frozen 5
        have f_br6 : w1.frozen? ⟨w.heap.size + 1, 6, none⟩ = false := br.frozen 6
        go_wp2_with fail
        refine (done_any sh (nx + m) 0 0 0 0 (fl - m) _).mono ?_
        rintro e w2 ⟨rfl, hb⟩
        clear q_bs0 q_bs1 q_bs2 q_bs3 q_bs4 q_bs5 q_bs6 q_br0 q_br1 q_br2 q_br3 q_br4 q_br5 q_br6 f_br0 f_br1 f_br2 f_br3 f_br4 f_br5 f_br6
        have bs : Blk w2 (w.heap.size) 23 #[.int .i64 sh, .int .i64 nx, .int .i64 fl, .int .i64 ac, .int .i64 fi, .int .i64 wa, .int .i64 li] := (bs).on hb
        have br : Blk w2 (w.heap.size + 1) 23 #[.int .i64 0, .int .i64 0, .int .i64 0, .int .i64 0, .int .i64 0, .int .i64 0, .int .i64 0] := (br).on hb
        have hbz := hb.size
        have HB2 := Lib.hid ((HB1.out).trans (hb.mono (by first | exact Nat.le_refl _ | omega | (simp; done) | (simp; omega))))
        have hz2 : w.heap.size ≤ w2.heap.size := HB2.out.size
        clear hb hbz
        generalize hR : rgS ⟨sh, nx + m, 0, 0, 0, 0, fl - m⟩ = R
        obtain ⟨⟨a0, a1, a2, a3, a4, a5, a6⟩, n⟩ := R
        have HF := Lib.hid (HD.out.trans hR)
        clear hR
        simp only [MR, MS.cs]
        have q_br0 : w2.cell? ⟨w.heap.size + 1, 0, none⟩ = some (.int .i64 0) := br.cell 0
        have q_br1 : w2.cell? ⟨w.heap.size + 1, 1, none⟩ = some (.int .i64 0) := br.cell 1
        have q_br2 : w2.cell? ⟨w.heap.size + 1, 2, none⟩ = some (.int .i64 0) := br.cell 2
        have q_br3 : w2.cell? ⟨w.heap.size + 1, 3, none⟩ = some (.int .i64 0) := br.cell 3
        have q_br4 : w2.cell? ⟨w.heap.size + 1, 4, none⟩ = some (.int .i64 0) := br.cell 4
        have q_br5 : w2.cell? ⟨w.heap.size + 1, 5, none⟩ = some (.int .i64 0) := br.cell 5
        have q_br6 : w2.cell? ⟨w.heap.size + 1, 6, none⟩ = some (.int .i64 0) := br.cell 6
        have f_br0 : w2.frozen? ⟨w.heap.size + 1, 0, none⟩ = false := br.frozen 0
        have f_br1 : w2.frozen? ⟨w.heap.size + 1, 1, none⟩ = false := br.frozen 1
        have f_br2 : w2.frozen? ⟨w.heap.size + 1, 2, none⟩ = false := br.frozen 2
        have f_br3 : w2.frozen? ⟨w.heap.size + 1, 3, none⟩ = false := br.frozen 3
        have f_br4 : w2.frozen? ⟨w.heap.size + 1, 4, none⟩ = false := br.frozen 4
        have f_br5 : w2.frozen? ⟨w.heap.size + 1, 5, none⟩ = false := br.frozen 5
        have f_br6 : w2.frozen? ⟨w.heap.size + 1, 6, none⟩ = false := br.frozen 6
        go_wp2_with fail
        exact bodyPost_ret (v := .tuple #[.agg #[.int .i64 a0, .int .i64 a1, .int .i64 a2, .int .i64 a3, .int .i64 a4, .int .i64 a5, .int .i64 a6], .int .i64 n]) (by simp [results, Try.results20, go_sem, q_br0, q_br1, q_br2, q_br3, q_br4, q_br5, q_br6]) rfl ⟨ret_MR HF.out, below_set7 HB2.out (H := w.heap.size + 1) (by omega) _ _ _ _ _ _ _⟩
      · have HD := Lib.hid (par_out h0 hf hm)
        have HI := Lib.hid (inB_no (n := m) (lo := 0) (hi := fl - 1) (fun h => hm ⟨h.1, by have := h.2; omega⟩))
        have HE := Lib.hid (h0)
        have hfb : (fl == 0) = false := beq_eq_false_iff_ne.2 hf
        clear h0 hf
        rcases Int.lt_or_le m 0 with hm1 | hm1
        · clear hm
          go_enter Try.func20, Try.ntmps20
          go_wp2_with fail
          refine (rMCheck_lit sh nx fl ac fi wa li _).mono ?_
          rintro e w1 ⟨rfl, hb⟩
          have bs : Blk w1 (w.heap.size) 23 #[.int .i64 sh, .int .i64 nx, .int .i64 fl, .int .i64 ac, .int .i64 fi, .int .i64 wa, .int .i64 li] := ((Blk.new _ _ _).alloc _).on hb
          have br : Blk w1 (w.heap.size + 1) 23 #[.int .i64 0, .int .i64 0, .int .i64 0, .int .i64 0, .int .i64 0, .int .i64 0, .int .i64 0] := (Blk.new1 _ _ _ _).on hb
          have hbz := hb.size
          have HB1 := Lib.hid ((((Below.refl w.heap.size w).alloc (by first | exact Nat.le_refl _ | omega | (simp; done) | (simp; omega)) _).alloc (by first | exact Nat.le_refl _ | omega | (simp; done) | (simp; omega)) _).trans (hb.mono (by first | exact Nat.le_refl _ | omega | (simp; done) | (simp; omega))))
          have hz1 : w.heap.size ≤ w1.heap.size := HB1.out.size
          clear hb hbz
          rw [HE.out]
          have q_bs0 : w1.cell? ⟨w.heap.size, 0, none⟩ = some (.int .i64 sh) := bs.cell 0
          have q_bs1 : w1.cell? ⟨w.heap.size, 1, none⟩ = some (.int .i64 nx) := bs.cell 1
          have q_bs2 : w1.cell? ⟨w.heap.size, 2, none⟩ = some (.int .i64 fl) := bs.cell 2
          have q_bs3 : w1.cell? ⟨w.heap.size, 3, none⟩ = some (.int .i64 ac) := bs.cell 3
          have q_bs4 : w1.cell? ⟨w.heap.size, 4, none⟩ = some (.int .i64 fi) := bs.cell 4
          have q_bs5 : w1.cell? ⟨w.heap.size, 5, none⟩ = some (.int .i64 wa) := bs.cell 5
          have q_bs6 : w1.cell? ⟨w.heap.size, 6, none⟩ = some (.int .i64 li) := bs.cell 6
          have q_br0 : w1.cell? ⟨w.heap.size + 1, 0, none⟩ = some (.int .i64 0) := br.cell 0
          have q_br1 : w1.cell? ⟨w.heap.size + 1, 1, none⟩ = some (.int .i64 0) := br.cell 1
          have q_br2 : w1.cell? ⟨w.heap.size + 1, 2, none⟩ = some (.int .i64 0) := br.cell 2
          have q_br3 : w1.cell? ⟨w.heap.size + 1, 3, none⟩ = some (.int .i64 0) := br.cell 3
          have q_br4 : w1.cell? ⟨w.heap.size + 1, 4, none⟩ = some (.int .i64 0) := br.cell 4
          have q_br5 : w1.cell? ⟨w.heap.size + 1, 5, none⟩ = some (.int .i64 0) := br.cell 5
          have q_br6 : w1.cell? ⟨w.heap.size + 1, 6, none⟩ = some (.int .i64 0) := br.cell 6
          have f_br0 : w1.frozen? ⟨w.heap.size + 1, 0, none⟩ = false := br.frozen 0
          have f_br1 : w1.frozen? ⟨w.heap.size + 1, 1, none⟩ = false := br.frozen 1
          have f_br2 : w1.frozen? ⟨w.heap.size + 1, 2, none⟩ = false := br.frozen 2
          have f_br3 : w1.frozen? ⟨w.heap.size + 1, 3, none⟩ = false := br.frozen 3
          have f_br4 : w1.frozen? ⟨w.heap.size + 1, 4, none⟩ = false := br.frozen 4
          have f_br5 : w1.frozen? ⟨w.heap.size + 1, 5, none⟩ = false := br.frozen 5
          have f_br6 : w1.frozen? ⟨w.heap.size + 1, 6, none⟩ = false := br.frozen 6
          go_wp2_with fail
          exact bodyPost_ret (v := .tuple #[.agg #[.int .i64 0, .int .i64 0, .int .i64 0, .int .i64 0, .int .i64 0, .int .i64 0, .int .i64 0], .int .i64 2]) (by simp [results, Try.results20, go_sem, q_br0, q_br1, q_br2, q_br3, q_br4, q_br5, q_br6]) rfl ⟨ret_MR HD.out, below_set7 HB1.out (H := w.heap.size + 1) (by omega) _ _ _ _ _ _ _⟩
        · have hmd : decide (fl ≤ m) = true := decide_eq_true (by omega)
          clear hm
          go_enter Try.func20, Try.ntmps20
          go_wp2_with fail
          refine (rMCheck_lit sh nx fl ac fi wa li _).mono ?_
          rintro e w1 ⟨rfl, hb⟩
          have bs : Blk w1 (w.heap.size) 23 #[.int .i64 sh, .int .i64 nx, .int .i64 fl, .int .i64 ac, .int .i64 fi, .int .i64 wa, .int .i64 li] := ((Blk.new _ _ _).alloc _).on hb
          have br : Blk w1 (w.heap.size + 1) 23 #[.int .i64 0, .int .i64 0, .int .i64 0, .int .i64 0, .int .i64 0, .int .i64 0, .int .i64 0] := (Blk.new1 _ _ _ _).on hb
          have hbz := hb.size
          have HB1 := Lib.hid ((((Below.refl w.heap.size w).alloc (by first | exact Nat.le_refl _ | omega | (simp; done) | (simp; omega)) _).alloc (by first | exact Nat.le_refl _ | omega | (simp; done) | (simp; omega)) _).trans (hb.mono (by first | exact Nat.le_refl _ | omega | (simp; done) | (simp; omega))))
          have hz1 : w.heap.size ≤ w1.heap.size := HB1.out.size
          clear hb hbz
          rw [HE.out]
          have q_bs0 : w1.cell? ⟨w.heap.size, 0, none⟩ = some (.int .i64 sh) := bs.cell 0
          have q_bs1 : w1.cell? ⟨w.heap.size, 1, none⟩ = some (.int .i64 nx) := bs.cell 1
          have q_bs2 : w1.cell? ⟨w.heap.size, 2, none⟩ = some (.int .i64 fl) := bs.cell 2
          have q_bs3 : w1.cell? ⟨w.heap.size, 3, none⟩ = some (.int .i64 ac) := bs.cell 3
          have q_bs4 : w1.cell? ⟨w.heap.size, 4, none⟩ = some (.int .i64 fi) := bs.cell 4
          have q_bs5 : w1.cell? ⟨w.heap.size, 5, none⟩ = some (.int .i64 wa) := bs.cell 5
          have q_bs6 : w1.cell? ⟨w.heap.size, 6, none⟩ = some (.int .i64 li) := bs.cell 6
          have q_br0 : w1.cell? ⟨w.heap.size + 1, 0, none⟩ = some (.int .i64 0) := br.cell 0
          have q_br1 : w1.cell? ⟨w.heap.size + 1, 1, none⟩ = some (.int .i64 0) := br.cell 1
          have q_br2 : w1.cell? ⟨w.heap.size + 1, 2, none⟩ = some (.int .i64 0) := br.cell 2
          have q_br3 : w1.cell? ⟨w.heap.size + 1, 3, none⟩ = some (.int .i64 0) := br.cell 3
          have q_br4 : w1.cell? ⟨w.heap.size + 1, 4, none⟩ = some (.int .i64 0) := br.cell 4
          have q_br5 : w1.cell? ⟨w.heap.size + 1, 5, none⟩ = some (.int .i64 0) := br.cell 5
          have q_br6 : w1.cell? ⟨w.heap.size + 1, 6, none⟩ = some (.int .i64 0) := br.cell 6
          have f_br0 : w1.frozen? ⟨w.heap.size + 1, 0, none⟩ = false := br.frozen 0
          have f_br1 : w1.frozen? ⟨w.heap.size + 1, 1, none⟩ = false := br.frozen 1
          have f_br2 : w1.frozen? ⟨w.heap.size + 1, 2, none⟩ = false := br.frozen 2
          have f_br3 : w1.frozen? ⟨w.heap.size + 1, 3, none⟩ = false := br.frozen 3
          have f_br4 : w1.frozen? ⟨w.heap.size + 1, 4, none⟩ = false := br.frozen 4
          have f_br5 : w1.frozen? ⟨w.heap.size + 1, 5, none⟩ = false := br.frozen 5
          have f_br6 : w1.frozen? ⟨w.heap.size + 1, 6, none⟩ = false := br.frozen 6
          go_wp2_with fail
          exact bodyPost_ret (v := .tuple #[.agg #[.int .i64 0, .int .i64 0, .int .i64 0, .int .i64 0, .int .i64 0, .int .i64 0, .int .i64 0], .int .i64 2]) (by simp [results, Try.results20, go_sem, q_br0, q_br1, q_br2, q_br3, q_br4, q_br5, q_br6]) rfl ⟨ret_MR HD.out, below_set7 HB1.out (H := w.heap.size + 1) (by omega) _ _ _ _ _ _ _⟩
  · have HD := Lib.hid (par_bad (m := m) h0)
    go_enter Try.func20, Try.ntmps20
    go_wp2_with fail
    refine (rMCheck_lit sh nx fl ac fi wa li _).mono ?_
    rintro e w1 ⟨rfl, hb⟩
    have bs : Blk w1 (w.heap.size) 23 #[.int .i64 sh, .int .i64 nx, .int .i64 fl, .int .i64 ac, .int .i64 fi, .int .i64 wa, .int .i64 li] := ((Blk.new _ _ _).alloc _).on hb
    have br : Blk w1 (w.heap.size + 1) 23 #[.int .i64 0, .int .i64 0, .int .i64 0, .int .i64 0, .int .i64 0, .int .i64 0, .int .i64 0] := (Blk.new1 _ _ _ _).on hb
    have hbz := hb.size
    have HB1 := Lib.hid ((((Below.refl w.heap.size w).alloc (by first | exact Nat.le_refl _ | omega | (simp; done) | (simp; omega)) _).alloc (by first | exact Nat.le_refl _ | omega | (simp; done) | (simp; omega)) _).trans (hb.mono (by first | exact Nat.le_refl _ | omega | (simp; done) | (simp; omega))))
    have hz1 : w.heap.size ≤ w1.heap.size := HB1.out.size
    clear hb hbz
    generalize MS.e ⟨sh, nx, fl, ac, fi, wa, li⟩ = n at *
    have hne : (n == 0) = false := beq_eq_false_iff_ne.2 h0
    clear h0
    have q_bs0 : w1.cell? ⟨w.heap.size, 0, none⟩ = some (.int .i64 sh) := bs.cell 0
    have q_bs1 : w1.cell? ⟨w.heap.size, 1, none⟩ = some (.int .i64 nx) := bs.cell 1
    have q_bs2 : w1.cell? ⟨w.heap.size, 2, none⟩ = some (.int .i64 fl) := bs.cell 2
    have q_bs3 : w1.cell? ⟨w.heap.size, 3, none⟩ = some (.int .i64 ac) := bs.cell 3
    have q_bs4 : w1.cell? ⟨w.heap.size, 4, none⟩ = some (.int .i64 fi) := bs.cell 4
    have q_bs5 : w1.cell? ⟨w.heap.size, 5, none⟩ = some (.int .i64 wa) := bs.cell 5
    have q_bs6 : w1.cell? ⟨w.heap.size, 6, none⟩ = some (.int .i64 li) := bs.cell 6
    have q_br0 : w1.cell? ⟨w.heap.size + 1, 0, none⟩ = some (.int .i64 0) := br.cell 0
    have q_br1 : w1.cell? ⟨w.heap.size + 1, 1, none⟩ = some (.int .i64 0) := br.cell 1
    have q_br2 : w1.cell? ⟨w.heap.size + 1, 2, none⟩ = some (.int .i64 0) := br.cell 2
    have q_br3 : w1.cell? ⟨w.heap.size + 1, 3, none⟩ = some (.int .i64 0) := br.cell 3
    have q_br4 : w1.cell? ⟨w.heap.size + 1, 4, none⟩ = some (.int .i64 0) := br.cell 4
    have q_br5 : w1.cell? ⟨w.heap.size + 1, 5, none⟩ = some (.int .i64 0) := br.cell 5
    have q_br6 : w1.cell? ⟨w.heap.size + 1, 6, none⟩ = some (.int .i64 0) := br.cell 6
    have f_br0 : w1.frozen? ⟨w.heap.size + 1, 0, none⟩ = false := br.frozen 0
    have f_br1 : w1.frozen? ⟨w.heap.size + 1, 1, none⟩ = false := br.frozen 1
    have f_br2 : w1.frozen? ⟨w.heap.size + 1, 2, none⟩ = false := br.frozen 2
    have f_br3 : w1.frozen? ⟨w.heap.size + 1, 3, none⟩ = false := br.frozen 3
    have f_br4 : w1.frozen? ⟨w.heap.size + 1, 4, none⟩ = false := br.frozen 4
    have f_br5 : w1.frozen? ⟨w.heap.size + 1, 5, none⟩ = false := br.frozen 5
    have f_br6 : w1.frozen? ⟨w.heap.size + 1, 6, none⟩ = false := br.frozen 6
    go_wp2_with fail
    exact bodyPost_ret (v := .tuple #[.agg #[.int .i64 0, .int .i64 0, .int .i64 0, .int .i64 0, .int .i64 0, .int .i64 0, .int .i64 0], .int .i64 n]) (by simp [results, Try.results20, go_sem, q_br0, q_br1, q_br2, q_br3, q_br4, q_br5, q_br6]) rfl ⟨ret_MR HD.out, below_set7 HB1.out (H := w.heap.size + 1) (by omega) _ _ _ _ _ _ _⟩
end Go.Proofs.Ytojghgeemdpmpaa
