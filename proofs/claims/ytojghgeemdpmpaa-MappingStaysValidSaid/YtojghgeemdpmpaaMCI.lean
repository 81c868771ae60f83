/- The program's Fail. -/
import Derived.Test.YtojghgeemdpmpaaMCH
import Derived.Deep.CutRange
namespace Go.Proofs.Ytojghgeemdpmpaa
open Go.RowKit
open Go.Sort (grow)
open BO (inB inB_yes inB_no RP nxI tupN)

theorem held2_step {w0 w1 w2 : World} {p0 p1 : Addr} {a b : Value} (h : (w1.cell? p0 = some a ∧ w1.cell? p1 = some b) ∧ Below w0.heap.size w0 w1) (hb : Below w1.heap.size w1 w2) : (w2.cell? p0 = some a ∧ w2.cell? p1 = some b) ∧ Below w0.heap.size w0 w2 := by
  obtain ⟨⟨h0, h1⟩, hw⟩ := h
  exact ⟨⟨(hb.cell (block_lt_of_cell h0)).trans h0, (hb.cell (block_lt_of_cell h1)).trans h1⟩, hw.trans (hb.mono hw.size)⟩
theorem held2_b {w0 w1 : World} {p0 p1 : Addr} {a b : Value} (h : (w1.cell? p0 = some a ∧ w1.cell? p1 = some b) ∧ Below w0.heap.size w0 w1) : Below w0.heap.size w0 w1 := h.2
theorem al {w : World} (o : Obj) : Below w.heap.size w (w.alloc o) := (Below.refl _ _).alloc (Nat.le_refl _) _
theorem failE_s {s : MS} {r : RP} {now : Int} (h : failE s r now = 0) : s.e = 0 := by
  by_cases h0 : s.e = 0
  · exact h0
  · rw [failE1 h0] at h; exact h
set_option maxHeartbeats 8000000 in
set_option maxRecDepth 100000 in
theorem Fail_any (sh nx fl ac fi wa li a b f c m now : Int) (w : World) : Calls Try.prog 21 #[.agg #[.int .i64 sh, .int .i64 nx, .int .i64 fl, .int .i64 ac, .int .i64 fi, .int .i64 wa, .int .i64 li], .agg #[.int .i64 a, .int .i64 b, .int .i64 f, .int .i64 c, .int .i64 m], .int .i64 now] w fun e w' => e = .returned (MR3 (failS ⟨sh, nx, fl, ac, fi, wa, li⟩ ⟨a, b, f, c, m⟩ now)) ∧ Below w.heap.size w w' := by
  have hn0 := Nat.le_refl w.heap.size
  go_enter Try.func21, Try.ntmps21
  go_upto_region 1 with fail
  have bs : Blk ((((w).alloc (.cells #[.int .i64 sh, .int .i64 nx, .int .i64 fl, .int .i64 ac, .int .i64 fi, .int .i64 wa, .int .i64 li] 23)).alloc (.cells #[.int .i64 a, .int .i64 b, .int .i64 f, .int .i64 c, .int .i64 m] 27)).alloc (.cells #[.int .i64 0, .int .i64 0, .int .i64 0, .int .i64 0, .int .i64 0, .int .i64 0, .int .i64 0] 23)) (w.heap.size) 23 #[.int .i64 sh, .int .i64 nx, .int .i64 fl, .int .i64 ac, .int .i64 fi, .int .i64 wa, .int .i64 li] := ((Blk.new _ _ _).alloc _).alloc _
  have bp : Blk ((((w).alloc (.cells #[.int .i64 sh, .int .i64 nx, .int .i64 fl, .int .i64 ac, .int .i64 fi, .int .i64 wa, .int .i64 li] 23)).alloc (.cells #[.int .i64 a, .int .i64 b, .int .i64 f, .int .i64 c, .int .i64 m] 27)).alloc (.cells #[.int .i64 0, .int .i64 0, .int .i64 0, .int .i64 0, .int .i64 0, .int .i64 0, .int .i64 0] 23)) (w.heap.size + 1) 27 #[.int .i64 a, .int .i64 b, .int .i64 f, .int .i64 c, .int .i64 m] := (Blk.new1 _ _ _ _).alloc _
  have br : Blk ((((w).alloc (.cells #[.int .i64 sh, .int .i64 nx, .int .i64 fl, .int .i64 ac, .int .i64 fi, .int .i64 wa, .int .i64 li] 23)).alloc (.cells #[.int .i64 a, .int .i64 b, .int .i64 f, .int .i64 c, .int .i64 m] 27)).alloc (.cells #[.int .i64 0, .int .i64 0, .int .i64 0, .int .i64 0, .int .i64 0, .int .i64 0, .int .i64 0] 23)) (w.heap.size + 2) 23 #[.int .i64 0, .int .i64 0, .int .i64 0, .int .i64 0, .int .i64 0, .int .i64 0, .int .i64 0] := Blk.new2 _ _ _ _ _
  have HB1 := Lib.hid (show Below w.heap.size w ((((w).alloc (.cells #[.int .i64 sh, .int .i64 nx, .int .i64 fl, .int .i64 ac, .int .i64 fi, .int .i64 wa, .int .i64 li] 23)).alloc (.cells #[.int .i64 a, .int .i64 b, .int .i64 f, .int .i64 c, .int .i64 m] 27)).alloc (.cells #[.int .i64 0, .int .i64 0, .int .i64 0, .int .i64 0, .int .i64 0, .int .i64 0, .int .i64 0] 23)) from (((Below.refl w.heap.size w).alloc (by first | exact Nat.le_refl _ | omega | (simp; done) | (simp; omega)) _).alloc (by first | exact Nat.le_refl _ | omega | (simp; done) | (simp; omega)) _).alloc (by first | exact Nat.le_refl _ | omega | (simp; done) | (simp; omega)) _)
  generalize (((w).alloc (.cells #[.int .i64 sh, .int .i64 nx, .int .i64 fl, .int .i64 ac, .int .i64 fi, .int .i64 wa, .int .i64 li] 23)).alloc (.cells #[.int .i64 a, .int .i64 b, .int .i64 f, .int .i64 c, .int .i64 m] 27)).alloc (.cells #[.int .i64 0, .int .i64 0, .int .i64 0, .int .i64 0, .int .i64 0, .int .i64 0, .int .i64 0] 23) = w1 at *
  have hz1 : w.heap.size ≤ w1.heap.size := HB1.out.size
  have q0 := bs.cell 2
  have q1 := bs.cell 4
  have HBS := Lib.hid bs
  have HBP := Lib.hid bp
  go_cut [9] from 14 to 30 (fun v wx => v = .int .i64 (failE ⟨sh, nx, fl, ac, fi, wa, li⟩ ⟨a, b, f, c, m⟩ now) ∧ Below w1.heap.size w1 wx)
  case first =>
    go_region_held3 (fun w' => (w'.cell? ⟨w.heap.size, 2, none⟩ = some (.int .i64 fl) ∧ w'.cell? ⟨w.heap.size, 4, none⟩ = some (.int .i64 fi)) ∧ Below w1.heap.size w1 w') (first | assumption | exact ⟨⟨q0, q1⟩, (Below.refl _ _).drew⟩ | exact held2_step (by assumption) (al _)) (first | (go_at_call 29; ((with_reducible refine (minst_any now _).mono ?_); rintro e x0 ⟨rfl, rfl⟩)) | (go_at_call 28; ((with_reducible refine (when_any _ 2 _).mono ?_); rintro e x1 ⟨⟨cw1, rfl, hf1⟩, hb1⟩; have H1 := held2_step (by assumption) hb1)) | (go_at_call 28; ((with_reducible refine (when_any _ 10 _).mono ?_); rintro e x2 ⟨⟨cw2, rfl, hf2⟩, hb2⟩; have H2 := held2_step (by assumption) hb2)) | (go_at_call 28; ((with_reducible refine (when_any _ 11 _).mono ?_); rintro e x3 ⟨⟨cw3, rfl, hf3⟩, hb3⟩; have H3 := held2_step (by assumption) hb3)) | (go_at_call 24; ((with_reducible refine (first_five _ _ _ _ _ _ _ _ _ _ _ _ _ (reads_blk (Blk.new _ _ _)) (fail1_fn ((HBS.out.on (held2_b (by assumption))))) (fail2_fn (HBP.out.on (held2_b (by assumption)))) (by first | exact hf1.on (al _) | exact (hf1.on hb2).on (al _) | exact (hf1.on hb3).on (al _) | exact ((hf1.on hb2).on hb3).on (al _) | exact ((hf1.on hb3).on hb2).on (al _)) (by first | exact hf2.on (al _) | exact (hf2.on hb1).on (al _) | exact (hf2.on hb3).on (al _) | exact ((hf2.on hb1).on hb3).on (al _) | exact ((hf2.on hb3).on hb1).on (al _)) (by first | exact hf3.on (al _) | exact (hf3.on hb1).on (al _) | exact (hf3.on hb2).on (al _) | exact ((hf3.on hb1).on hb2).on (al _) | exact ((hf3.on hb2).on hb1).on (al _))).mono ?_); rintro e x5 ⟨rfl, hb5⟩; have H5 := held2_step (by assumption) hb5)))
    all_goals (go_wp2_with fail; go_meet; exact ⟨rfl, H5.2⟩)
  case rest =>
    obtain ⟨rfl, hb⟩ := hcut
    have bs : Blk wc (w.heap.size) 23 #[.int .i64 sh, .int .i64 nx, .int .i64 fl, .int .i64 ac, .int .i64 fi, .int .i64 wa, .int .i64 li] := bs.on hb
    have bp : Blk wc (w.heap.size + 1) 27 #[.int .i64 a, .int .i64 b, .int .i64 f, .int .i64 c, .int .i64 m] := bp.on hb
    have br : Blk wc (w.heap.size + 2) 23 #[.int .i64 0, .int .i64 0, .int .i64 0, .int .i64 0, .int .i64 0, .int .i64 0, .int .i64 0] := br.on hb
    have hbz := hb.size
    have HB2 := Lib.hid ((HB1.out).trans (hb.mono (by omega)))
    have hz2 : w.heap.size ≤ wc.heap.size := HB2.out.size
    clear hb hbz q0 q1 HBS HBP
    by_cases h0 : failE ⟨sh, nx, fl, ac, fi, wa, li⟩ ⟨a, b, f, c, m⟩ now = 0
    rotate_left
    · have HD := Lib.hid (fail_no (s := ⟨sh, nx, fl, ac, fi, wa, li⟩) (r := ⟨a, b, f, c, m⟩) (now := now) rfl h0)
      generalize failE ⟨sh, nx, fl, ac, fi, wa, li⟩ ⟨a, b, f, c, m⟩ now = n at *
      have hne : (n == 0) = false := beq_eq_false_iff_ne.2 h0
      clear h0
      have q_bs0 : wc.cell? ⟨w.heap.size, 0, none⟩ = some (.int .i64 sh) := bs.cell 0
      have q_bs1 : wc.cell? ⟨w.heap.size, 1, none⟩ = some (.int .i64 nx) := bs.cell 1
      have q_bs2 : wc.cell? ⟨w.heap.size, 2, none⟩ = some (.int .i64 fl) := bs.cell 2
      have q_bs3 : wc.cell? ⟨w.heap.size, 3, none⟩ = some (.int .i64 ac) := bs.cell 3
      have q_bs4 : wc.cell? ⟨w.heap.size, 4, none⟩ = some (.int .i64 fi) := bs.cell 4
      have q_bs5 : wc.cell? ⟨w.heap.size, 5, none⟩ = some (.int .i64 wa) := bs.cell 5
      have q_bs6 : wc.cell? ⟨w.heap.size, 6, none⟩ = some (.int .i64 li) := bs.cell 6
      have q_bp0 : wc.cell? ⟨w.heap.size + 1, 0, none⟩ = some (.int .i64 a) := bp.cell 0
      have q_bp1 : wc.cell? ⟨w.heap.size + 1, 1, none⟩ = some (.int .i64 b) := bp.cell 1
      have q_bp2 : wc.cell? ⟨w.heap.size + 1, 2, none⟩ = some (.int .i64 f) := bp.cell 2
      have q_bp3 : wc.cell? ⟨w.heap.size + 1, 3, none⟩ = some (.int .i64 c) := bp.cell 3
      have q_bp4 : wc.cell? ⟨w.heap.size + 1, 4, none⟩ = some (.int .i64 m) := bp.cell 4
      have q_br0 : wc.cell? ⟨w.heap.size + 2, 0, none⟩ = some (.int .i64 0) := br.cell 0
      have q_br1 : wc.cell? ⟨w.heap.size + 2, 1, none⟩ = some (.int .i64 0) := br.cell 1
      have q_br2 : wc.cell? ⟨w.heap.size + 2, 2, none⟩ = some (.int .i64 0) := br.cell 2
      have q_br3 : wc.cell? ⟨w.heap.size + 2, 3, none⟩ = some (.int .i64 0) := br.cell 3
      have q_br4 : wc.cell? ⟨w.heap.size + 2, 4, none⟩ = some (.int .i64 0) := br.cell 4
      have q_br5 : wc.cell? ⟨w.heap.size + 2, 5, none⟩ = some (.int .i64 0) := br.cell 5
      have q_br6 : wc.cell? ⟨w.heap.size + 2, 6, none⟩ = some (.int .i64 0) := br.cell 6
      have f_br0 : wc.frozen? ⟨w.heap.size + 2, 0, none⟩ = false := br.frozen 0
      have f_br1 : wc.frozen? ⟨w.heap.size + 2, 1, none⟩ = false := br.frozen 1
      have f_br2 : wc.frozen? ⟨w.heap.size + 2, 2, none⟩ = false := br.frozen 2
      have f_br3 : wc.frozen? ⟨w.heap.size + 2, 3, none⟩ = false := br.frozen 3
      have f_br4 : wc.frozen? ⟨w.heap.size + 2, 4, none⟩ = false := br.frozen 4
      have f_br5 : wc.frozen? ⟨w.heap.size + 2, 5, none⟩ = false := br.frozen 5
      have f_br6 : wc.frozen? ⟨w.heap.size + 2, 6, none⟩ = false := br.frozen 6
      go_wp2_with fail
      exact bodyPost_ret (v := .tuple #[.agg #[.int .i64 0, .int .i64 0, .int .i64 0, .int .i64 0, .int .i64 0, .int .i64 0, .int .i64 0], .bool false, .int .i64 n]) (by simp [results, Try.results21, go_sem, q_br0, q_br1, q_br2, q_br3, q_br4, q_br5, q_br6]) rfl ⟨ret_MR3 HD.out, below_set7 HB2.out (H := w.heap.size + 2) (by omega) _ _ _ _ _ _ _⟩
    have HN := Lib.hid (fail_go h0)
    have he := failE_s h0
    rw [h0]
    obtain ⟨r1, r2, r3, r4⟩ : 0 ≤ nx ∧ nx ≤ 999999999968 ∧ 0 ≤ fl ∧ fl ≤ 32 := nx_bd he
    clear h0 he
    by_cases h2 : 1 < fl
    · have HD := Lib.hid (HN.out.trans (failG1 h2))
      have q_bs0 : wc.cell? ⟨w.heap.size, 0, none⟩ = some (.int .i64 sh) := bs.cell 0
      have q_bs1 : wc.cell? ⟨w.heap.size, 1, none⟩ = some (.int .i64 nx) := bs.cell 1
      have q_bs2 : wc.cell? ⟨w.heap.size, 2, none⟩ = some (.int .i64 fl) := bs.cell 2
      have q_bs3 : wc.cell? ⟨w.heap.size, 3, none⟩ = some (.int .i64 ac) := bs.cell 3
      have q_bs4 : wc.cell? ⟨w.heap.size, 4, none⟩ = some (.int .i64 fi) := bs.cell 4
      have q_bs5 : wc.cell? ⟨w.heap.size, 5, none⟩ = some (.int .i64 wa) := bs.cell 5
      have q_bs6 : wc.cell? ⟨w.heap.size, 6, none⟩ = some (.int .i64 li) := bs.cell 6
      have q_bp0 : wc.cell? ⟨w.heap.size + 1, 0, none⟩ = some (.int .i64 a) := bp.cell 0
      have q_bp1 : wc.cell? ⟨w.heap.size + 1, 1, none⟩ = some (.int .i64 b) := bp.cell 1
      have q_bp2 : wc.cell? ⟨w.heap.size + 1, 2, none⟩ = some (.int .i64 f) := bp.cell 2
      have q_bp3 : wc.cell? ⟨w.heap.size + 1, 3, none⟩ = some (.int .i64 c) := bp.cell 3
      have q_bp4 : wc.cell? ⟨w.heap.size + 1, 4, none⟩ = some (.int .i64 m) := bp.cell 4
      have q_br0 : wc.cell? ⟨w.heap.size + 2, 0, none⟩ = some (.int .i64 0) := br.cell 0
      have q_br1 : wc.cell? ⟨w.heap.size + 2, 1, none⟩ = some (.int .i64 0) := br.cell 1
      have q_br2 : wc.cell? ⟨w.heap.size + 2, 2, none⟩ = some (.int .i64 0) := br.cell 2
      have q_br3 : wc.cell? ⟨w.heap.size + 2, 3, none⟩ = some (.int .i64 0) := br.cell 3
      have q_br4 : wc.cell? ⟨w.heap.size + 2, 4, none⟩ = some (.int .i64 0) := br.cell 4
      have q_br5 : wc.cell? ⟨w.heap.size + 2, 5, none⟩ = some (.int .i64 0) := br.cell 5
      have q_br6 : wc.cell? ⟨w.heap.size + 2, 6, none⟩ = some (.int .i64 0) := br.cell 6
      have f_br0 : wc.frozen? ⟨w.heap.size + 2, 0, none⟩ = false := br.frozen 0
      have f_br1 : wc.frozen? ⟨w.heap.size + 2, 1, none⟩ = false := br.frozen 1
      have f_br2 : wc.frozen? ⟨w.heap.size + 2, 2, none⟩ = false := br.frozen 2
      have f_br3 : wc.frozen? ⟨w.heap.size + 2, 3, none⟩ = false := br.frozen 3
      have f_br4 : wc.frozen? ⟨w.heap.size + 2, 4, none⟩ = false := br.frozen 4
      have f_br5 : wc.frozen? ⟨w.heap.size + 2, 5, none⟩ = false := br.frozen 5
      have f_br6 : wc.frozen? ⟨w.heap.size + 2, 6, none⟩ = false := br.frozen 6
      go_wp2_with fail
      exact bodyPost_ret (v := .tuple #[.agg #[.int .i64 sh, .int .i64 nx, .int .i64 0, .int .i64 0, .int .i64 0, .int .i64 now, .int .i64 ((fl + 1) / 2)], .bool false, .int .i64 0]) (by simp [results, Try.results21, go_sem, q_br0, q_br1, q_br2, q_br3, q_br4, q_br5, q_br6]) rfl ⟨ret_MR3 HD.out, below_set7 HB2.out (H := w.heap.size + 2) (by omega) _ _ _ _ _ _ _⟩
    · have H2 := Lib.hid h2
      by_cases h3 : ac < a
      rotate_left
      · have hh : ¬ (ac < a ∧ (nxI a b f c m fi ac now).2.2 = 0 ∧ (nxI a b f c m fi ac now).2.1 = true) := fun h => h3 h.1
        have HH := Lib.hid hh
        clear hh
        have q_bs0 : wc.cell? ⟨w.heap.size, 0, none⟩ = some (.int .i64 sh) := bs.cell 0
        have q_bs1 : wc.cell? ⟨w.heap.size, 1, none⟩ = some (.int .i64 nx) := bs.cell 1
        have q_bs2 : wc.cell? ⟨w.heap.size, 2, none⟩ = some (.int .i64 fl) := bs.cell 2
        have q_bs3 : wc.cell? ⟨w.heap.size, 3, none⟩ = some (.int .i64 ac) := bs.cell 3
        have q_bs4 : wc.cell? ⟨w.heap.size, 4, none⟩ = some (.int .i64 fi) := bs.cell 4
        have q_bs5 : wc.cell? ⟨w.heap.size, 5, none⟩ = some (.int .i64 wa) := bs.cell 5
        have q_bs6 : wc.cell? ⟨w.heap.size, 6, none⟩ = some (.int .i64 li) := bs.cell 6
        have q_bp0 : wc.cell? ⟨w.heap.size + 1, 0, none⟩ = some (.int .i64 a) := bp.cell 0
        have q_bp1 : wc.cell? ⟨w.heap.size + 1, 1, none⟩ = some (.int .i64 b) := bp.cell 1
        have q_bp2 : wc.cell? ⟨w.heap.size + 1, 2, none⟩ = some (.int .i64 f) := bp.cell 2
        have q_bp3 : wc.cell? ⟨w.heap.size + 1, 3, none⟩ = some (.int .i64 c) := bp.cell 3
        have q_bp4 : wc.cell? ⟨w.heap.size + 1, 4, none⟩ = some (.int .i64 m) := bp.cell 4
        have q_br0 : wc.cell? ⟨w.heap.size + 2, 0, none⟩ = some (.int .i64 0) := br.cell 0
        have q_br1 : wc.cell? ⟨w.heap.size + 2, 1, none⟩ = some (.int .i64 0) := br.cell 1
        have q_br2 : wc.cell? ⟨w.heap.size + 2, 2, none⟩ = some (.int .i64 0) := br.cell 2
        have q_br3 : wc.cell? ⟨w.heap.size + 2, 3, none⟩ = some (.int .i64 0) := br.cell 3
        have q_br4 : wc.cell? ⟨w.heap.size + 2, 4, none⟩ = some (.int .i64 0) := br.cell 4
        have q_br5 : wc.cell? ⟨w.heap.size + 2, 5, none⟩ = some (.int .i64 0) := br.cell 5
        have q_br6 : wc.cell? ⟨w.heap.size + 2, 6, none⟩ = some (.int .i64 0) := br.cell 6
        go_wp2_with fail
        refine (ranged_any sh (nx + 1) 0 0 0 0 0 _).mono ?_
        rintro e w3 ⟨rfl, hb⟩
        clear q_bs0 q_bs1 q_bs2 q_bs3 q_bs4 q_bs5 q_bs6 q_bp0 q_bp1 q_bp2 q_bp3 q_bp4 q_br0 q_br1 q_br2 q_br3 q_br4 q_br5 q_br6
        have bs : Blk w3 (w.heap.size) 23 #[.int .i64 sh, .int .i64 nx, .int .i64 fl, .int .i64 ac, .int .i64 fi, .int .i64 wa, .int .i64 li] := (bs).on hb
        have bp : Blk w3 (w.heap.size + 1) 27 #[.int .i64 a, .int .i64 b, .int .i64 f, .int .i64 c, .int .i64 m] := (bp).on hb
        have br : Blk w3 (w.heap.size + 2) 23 #[.int .i64 0, .int .i64 0, .int .i64 0, .int .i64 0, .int .i64 0, .int .i64 0, .int .i64 0] := (br).on hb
        have hbz := hb.size
        have HB3 := Lib.hid ((HB2.out).trans (hb.mono (by first | exact Nat.le_refl _ | omega | (simp; done) | (simp; omega))))
        have hz3 : w.heap.size ≤ w3.heap.size := HB3.out.size
        clear hb hbz
        generalize hR : rgS ⟨sh, nx + 1, 0, 0, 0, 0, 0⟩ = R
        obtain ⟨⟨a0, a1, a2, a3, a4, a5, a6⟩, e⟩ := R
        have HD := Lib.hid (HN.out.trans ((failG3 (s := ⟨sh, nx, fl, ac, fi, wa, li⟩) (r := ⟨a, b, f, c, m⟩) (now := now) (Int.not_lt.2 H2.out) HH.out).trans (by simp only; rw [hR])))
        clear hR
        simp only [MR, MS.cs]
        have hbo : Blk ((w3).alloc (.cells #[.int .i64 a0, .int .i64 a1, .int .i64 a2, .int .i64 a3, .int .i64 a4, .int .i64 a5, .int .i64 a6] 23)) (w3.heap.size) 23 #[.int .i64 a0, .int .i64 a1, .int .i64 a2, .int .i64 a3, .int .i64 a4, .int .i64 a5, .int .i64 a6] := Blk.new _ _ _
        have hbr : Blk ((w3).alloc (.cells #[.int .i64 a0, .int .i64 a1, .int .i64 a2, .int .i64 a3, .int .i64 a4, .int .i64 a5, .int .i64 a6] 23)) (w.heap.size + 2) 23 #[.int .i64 0, .int .i64 0, .int .i64 0, .int .i64 0, .int .i64 0, .int .i64 0, .int .i64 0] := br.alloc _
        have q_bo0 : ((w3).alloc (.cells #[.int .i64 a0, .int .i64 a1, .int .i64 a2, .int .i64 a3, .int .i64 a4, .int .i64 a5, .int .i64 a6] 23)).cell? ⟨w3.heap.size, 0, none⟩ = some (.int .i64 a0) := hbo.cell 0
        have q_bo1 : ((w3).alloc (.cells #[.int .i64 a0, .int .i64 a1, .int .i64 a2, .int .i64 a3, .int .i64 a4, .int .i64 a5, .int .i64 a6] 23)).cell? ⟨w3.heap.size, 1, none⟩ = some (.int .i64 a1) := hbo.cell 1
        have q_bo2 : ((w3).alloc (.cells #[.int .i64 a0, .int .i64 a1, .int .i64 a2, .int .i64 a3, .int .i64 a4, .int .i64 a5, .int .i64 a6] 23)).cell? ⟨w3.heap.size, 2, none⟩ = some (.int .i64 a2) := hbo.cell 2
        have q_bo3 : ((w3).alloc (.cells #[.int .i64 a0, .int .i64 a1, .int .i64 a2, .int .i64 a3, .int .i64 a4, .int .i64 a5, .int .i64 a6] 23)).cell? ⟨w3.heap.size, 3, none⟩ = some (.int .i64 a3) := hbo.cell 3
        have q_bo4 : ((w3).alloc (.cells #[.int .i64 a0, .int .i64 a1, .int .i64 a2, .int .i64 a3, .int .i64 a4, .int .i64 a5, .int .i64 a6] 23)).cell? ⟨w3.heap.size, 4, none⟩ = some (.int .i64 a4) := hbo.cell 4
        have q_bo5 : ((w3).alloc (.cells #[.int .i64 a0, .int .i64 a1, .int .i64 a2, .int .i64 a3, .int .i64 a4, .int .i64 a5, .int .i64 a6] 23)).cell? ⟨w3.heap.size, 5, none⟩ = some (.int .i64 a5) := hbo.cell 5
        have q_bo6 : ((w3).alloc (.cells #[.int .i64 a0, .int .i64 a1, .int .i64 a2, .int .i64 a3, .int .i64 a4, .int .i64 a5, .int .i64 a6] 23)).cell? ⟨w3.heap.size, 6, none⟩ = some (.int .i64 a6) := hbo.cell 6
        have q_br0 : ((w3).alloc (.cells #[.int .i64 a0, .int .i64 a1, .int .i64 a2, .int .i64 a3, .int .i64 a4, .int .i64 a5, .int .i64 a6] 23)).cell? ⟨w.heap.size + 2, 0, none⟩ = some (.int .i64 0) := hbr.cell 0
        have q_br1 : ((w3).alloc (.cells #[.int .i64 a0, .int .i64 a1, .int .i64 a2, .int .i64 a3, .int .i64 a4, .int .i64 a5, .int .i64 a6] 23)).cell? ⟨w.heap.size + 2, 1, none⟩ = some (.int .i64 0) := hbr.cell 1
        have q_br2 : ((w3).alloc (.cells #[.int .i64 a0, .int .i64 a1, .int .i64 a2, .int .i64 a3, .int .i64 a4, .int .i64 a5, .int .i64 a6] 23)).cell? ⟨w.heap.size + 2, 2, none⟩ = some (.int .i64 0) := hbr.cell 2
        have q_br3 : ((w3).alloc (.cells #[.int .i64 a0, .int .i64 a1, .int .i64 a2, .int .i64 a3, .int .i64 a4, .int .i64 a5, .int .i64 a6] 23)).cell? ⟨w.heap.size + 2, 3, none⟩ = some (.int .i64 0) := hbr.cell 3
        have q_br4 : ((w3).alloc (.cells #[.int .i64 a0, .int .i64 a1, .int .i64 a2, .int .i64 a3, .int .i64 a4, .int .i64 a5, .int .i64 a6] 23)).cell? ⟨w.heap.size + 2, 4, none⟩ = some (.int .i64 0) := hbr.cell 4
        have q_br5 : ((w3).alloc (.cells #[.int .i64 a0, .int .i64 a1, .int .i64 a2, .int .i64 a3, .int .i64 a4, .int .i64 a5, .int .i64 a6] 23)).cell? ⟨w.heap.size + 2, 5, none⟩ = some (.int .i64 0) := hbr.cell 5
        have q_br6 : ((w3).alloc (.cells #[.int .i64 a0, .int .i64 a1, .int .i64 a2, .int .i64 a3, .int .i64 a4, .int .i64 a5, .int .i64 a6] 23)).cell? ⟨w.heap.size + 2, 6, none⟩ = some (.int .i64 0) := hbr.cell 6
        have f_br0 : ((w3).alloc (.cells #[.int .i64 a0, .int .i64 a1, .int .i64 a2, .int .i64 a3, .int .i64 a4, .int .i64 a5, .int .i64 a6] 23)).frozen? ⟨w.heap.size + 2, 0, none⟩ = false := hbr.frozen 0
        have f_br1 : ((w3).alloc (.cells #[.int .i64 a0, .int .i64 a1, .int .i64 a2, .int .i64 a3, .int .i64 a4, .int .i64 a5, .int .i64 a6] 23)).frozen? ⟨w.heap.size + 2, 1, none⟩ = false := hbr.frozen 1
        have f_br2 : ((w3).alloc (.cells #[.int .i64 a0, .int .i64 a1, .int .i64 a2, .int .i64 a3, .int .i64 a4, .int .i64 a5, .int .i64 a6] 23)).frozen? ⟨w.heap.size + 2, 2, none⟩ = false := hbr.frozen 2
        have f_br3 : ((w3).alloc (.cells #[.int .i64 a0, .int .i64 a1, .int .i64 a2, .int .i64 a3, .int .i64 a4, .int .i64 a5, .int .i64 a6] 23)).frozen? ⟨w.heap.size + 2, 3, none⟩ = false := hbr.frozen 3
        have f_br4 : ((w3).alloc (.cells #[.int .i64 a0, .int .i64 a1, .int .i64 a2, .int .i64 a3, .int .i64 a4, .int .i64 a5, .int .i64 a6] 23)).frozen? ⟨w.heap.size + 2, 4, none⟩ = false := hbr.frozen 4
        have f_br5 : ((w3).alloc (.cells #[.int .i64 a0, .int .i64 a1, .int .i64 a2, .int .i64 a3, .int .i64 a4, .int .i64 a5, .int .i64 a6] 23)).frozen? ⟨w.heap.size + 2, 5, none⟩ = false := hbr.frozen 5
        have f_br6 : ((w3).alloc (.cells #[.int .i64 a0, .int .i64 a1, .int .i64 a2, .int .i64 a3, .int .i64 a4, .int .i64 a5, .int .i64 a6] 23)).frozen? ⟨w.heap.size + 2, 6, none⟩ = false := hbr.frozen 6
        have HBL := Lib.hid (show Below w.heap.size w ((w3).alloc (.cells #[.int .i64 a0, .int .i64 a1, .int .i64 a2, .int .i64 a3, .int .i64 a4, .int .i64 a5, .int .i64 a6] 23)) from (HB3.out).alloc (by first | exact Nat.le_refl _ | omega | (simp; done) | (simp; omega)) _)
        generalize hWW : (w3).alloc (.cells #[.int .i64 a0, .int .i64 a1, .int .i64 a2, .int .i64 a3, .int .i64 a4, .int .i64 a5, .int .i64 a6] 23) = WW at *
        go_wp2_with fail
        exact bodyPost_ret (v := .tuple #[.agg #[.int .i64 a0, .int .i64 a1, .int .i64 a2, .int .i64 a3, .int .i64 a4, .int .i64 a5, .int .i64 a6], .bool (e == 0), .int .i64 e]) (by simp [results, Try.results21, go_sem, q_br0, q_br1, q_br2, q_br3, q_br4, q_br5, q_br6]) rfl ⟨ret_MR3 HD.out, below_set7 HBL.out (H := w.heap.size + 2) (by omega) _ _ _ _ _ _ _⟩
      have q_bs0 : wc.cell? ⟨w.heap.size, 0, none⟩ = some (.int .i64 sh) := bs.cell 0
      have q_bs1 : wc.cell? ⟨w.heap.size, 1, none⟩ = some (.int .i64 nx) := bs.cell 1
      have q_bs2 : wc.cell? ⟨w.heap.size, 2, none⟩ = some (.int .i64 fl) := bs.cell 2
      have q_bs3 : wc.cell? ⟨w.heap.size, 3, none⟩ = some (.int .i64 ac) := bs.cell 3
      have q_bs4 : wc.cell? ⟨w.heap.size, 4, none⟩ = some (.int .i64 fi) := bs.cell 4
      have q_bs5 : wc.cell? ⟨w.heap.size, 5, none⟩ = some (.int .i64 wa) := bs.cell 5
      have q_bs6 : wc.cell? ⟨w.heap.size, 6, none⟩ = some (.int .i64 li) := bs.cell 6
      have q_bp0 : wc.cell? ⟨w.heap.size + 1, 0, none⟩ = some (.int .i64 a) := bp.cell 0
      have q_bp1 : wc.cell? ⟨w.heap.size + 1, 1, none⟩ = some (.int .i64 b) := bp.cell 1
      have q_bp2 : wc.cell? ⟨w.heap.size + 1, 2, none⟩ = some (.int .i64 f) := bp.cell 2
      have q_bp3 : wc.cell? ⟨w.heap.size + 1, 3, none⟩ = some (.int .i64 c) := bp.cell 3
      have q_bp4 : wc.cell? ⟨w.heap.size + 1, 4, none⟩ = some (.int .i64 m) := bp.cell 4
      have q_br0 : wc.cell? ⟨w.heap.size + 2, 0, none⟩ = some (.int .i64 0) := br.cell 0
      have q_br1 : wc.cell? ⟨w.heap.size + 2, 1, none⟩ = some (.int .i64 0) := br.cell 1
      have q_br2 : wc.cell? ⟨w.heap.size + 2, 2, none⟩ = some (.int .i64 0) := br.cell 2
      have q_br3 : wc.cell? ⟨w.heap.size + 2, 3, none⟩ = some (.int .i64 0) := br.cell 3
      have q_br4 : wc.cell? ⟨w.heap.size + 2, 4, none⟩ = some (.int .i64 0) := br.cell 4
      have q_br5 : wc.cell? ⟨w.heap.size + 2, 5, none⟩ = some (.int .i64 0) := br.cell 5
      have q_br6 : wc.cell? ⟨w.heap.size + 2, 6, none⟩ = some (.int .i64 0) := br.cell 6
      go_wp2_with fail
      refine (BO.Next_any a b f c m fi ac now _).mono ?_
      rintro e w3 ⟨rfl, hb⟩
      clear q_bs0 q_bs1 q_bs2 q_bs3 q_bs4 q_bs5 q_bs6 q_bp0 q_bp1 q_bp2 q_bp3 q_bp4 q_br0 q_br1 q_br2 q_br3 q_br4 q_br5 q_br6
      have bs : Blk w3 (w.heap.size) 23 #[.int .i64 sh, .int .i64 nx, .int .i64 fl, .int .i64 ac, .int .i64 fi, .int .i64 wa, .int .i64 li] := (bs).on hb
      have bp : Blk w3 (w.heap.size + 1) 27 #[.int .i64 a, .int .i64 b, .int .i64 f, .int .i64 c, .int .i64 m] := (bp).on hb
      have br : Blk w3 (w.heap.size + 2) 23 #[.int .i64 0, .int .i64 0, .int .i64 0, .int .i64 0, .int .i64 0, .int .i64 0, .int .i64 0] := (br).on hb
      have hbz := hb.size
      have HB3 := Lib.hid ((HB2.out).trans (hb.mono (by first | exact Nat.le_refl _ | omega | (simp; done) | (simp; omega))))
      have hz3 : w.heap.size ≤ w3.heap.size := HB3.out.size
      clear hb hbz
      generalize hX : nxI a b f c m fi ac now = X
      obtain ⟨t, q, n⟩ := X
      simp only [tupN]
      by_cases h4 : n = 0 ∧ q = true
      rotate_left
      · have hh : ¬ (ac < a ∧ (nxI a b f c m fi ac now).2.2 = 0 ∧ (nxI a b f c m fi ac now).2.1 = true) := fun h => h4 (by have := h.2; rw [hX] at this; exact this)
        have HH := Lib.hid hh
        clear hh hX
        have hq : n = 0 → q = false := fun h => by cases q; rfl; exact absurd ⟨h, rfl⟩ h4
        clear h4
        by_cases h5 : n = 0
        · have hq2 := hq h5
          subst h5 hq2
          clear hq
          have q_bs0 : w3.cell? ⟨w.heap.size, 0, none⟩ = some (.int .i64 sh) := bs.cell 0
          have q_bs1 : w3.cell? ⟨w.heap.size, 1, none⟩ = some (.int .i64 nx) := bs.cell 1
          have q_bs2 : w3.cell? ⟨w.heap.size, 2, none⟩ = some (.int .i64 fl) := bs.cell 2
          have q_bs3 : w3.cell? ⟨w.heap.size, 3, none⟩ = some (.int .i64 ac) := bs.cell 3
          have q_bs4 : w3.cell? ⟨w.heap.size, 4, none⟩ = some (.int .i64 fi) := bs.cell 4
          have q_bs5 : w3.cell? ⟨w.heap.size, 5, none⟩ = some (.int .i64 wa) := bs.cell 5
          have q_bs6 : w3.cell? ⟨w.heap.size, 6, none⟩ = some (.int .i64 li) := bs.cell 6
          have q_bp0 : w3.cell? ⟨w.heap.size + 1, 0, none⟩ = some (.int .i64 a) := bp.cell 0
          have q_bp1 : w3.cell? ⟨w.heap.size + 1, 1, none⟩ = some (.int .i64 b) := bp.cell 1
          have q_bp2 : w3.cell? ⟨w.heap.size + 1, 2, none⟩ = some (.int .i64 f) := bp.cell 2
          have q_bp3 : w3.cell? ⟨w.heap.size + 1, 3, none⟩ = some (.int .i64 c) := bp.cell 3
          have q_bp4 : w3.cell? ⟨w.heap.size + 1, 4, none⟩ = some (.int .i64 m) := bp.cell 4
          have q_br0 : w3.cell? ⟨w.heap.size + 2, 0, none⟩ = some (.int .i64 0) := br.cell 0
          have q_br1 : w3.cell? ⟨w.heap.size + 2, 1, none⟩ = some (.int .i64 0) := br.cell 1
          have q_br2 : w3.cell? ⟨w.heap.size + 2, 2, none⟩ = some (.int .i64 0) := br.cell 2
          have q_br3 : w3.cell? ⟨w.heap.size + 2, 3, none⟩ = some (.int .i64 0) := br.cell 3
          have q_br4 : w3.cell? ⟨w.heap.size + 2, 4, none⟩ = some (.int .i64 0) := br.cell 4
          have q_br5 : w3.cell? ⟨w.heap.size + 2, 5, none⟩ = some (.int .i64 0) := br.cell 5
          have q_br6 : w3.cell? ⟨w.heap.size + 2, 6, none⟩ = some (.int .i64 0) := br.cell 6
          go_wp2_with fail
          refine (ranged_any sh (nx + 1) 0 0 0 0 0 _).mono ?_
          rintro e w4 ⟨rfl, hb⟩
          clear q_bs0 q_bs1 q_bs2 q_bs3 q_bs4 q_bs5 q_bs6 q_bp0 q_bp1 q_bp2 q_bp3 q_bp4 q_br0 q_br1 q_br2 q_br3 q_br4 q_br5 q_br6
          have bs : Blk w4 (w.heap.size) 23 #[.int .i64 sh, .int .i64 nx, .int .i64 fl, .int .i64 ac, .int .i64 fi, .int .i64 wa, .int .i64 li] := (bs).on hb
          have bp : Blk w4 (w.heap.size + 1) 27 #[.int .i64 a, .int .i64 b, .int .i64 f, .int .i64 c, .int .i64 m] := (bp).on hb
          have br : Blk w4 (w.heap.size + 2) 23 #[.int .i64 0, .int .i64 0, .int .i64 0, .int .i64 0, .int .i64 0, .int .i64 0, .int .i64 0] := (br).on hb
          have hbz := hb.size
          have HB4 := Lib.hid ((HB3.out).trans (hb.mono (by first | exact Nat.le_refl _ | omega | (simp; done) | (simp; omega))))
          have hz4 : w.heap.size ≤ w4.heap.size := HB4.out.size
          clear hb hbz
          generalize hR : rgS ⟨sh, nx + 1, 0, 0, 0, 0, 0⟩ = R
          obtain ⟨⟨a0, a1, a2, a3, a4, a5, a6⟩, e⟩ := R
          have HD := Lib.hid (HN.out.trans ((failG3 (s := ⟨sh, nx, fl, ac, fi, wa, li⟩) (r := ⟨a, b, f, c, m⟩) (now := now) (Int.not_lt.2 H2.out) HH.out).trans (by simp only; rw [hR])))
          clear hR
          simp only [MR, MS.cs]
          have hbo : Blk ((w4).alloc (.cells #[.int .i64 a0, .int .i64 a1, .int .i64 a2, .int .i64 a3, .int .i64 a4, .int .i64 a5, .int .i64 a6] 23)) (w4.heap.size) 23 #[.int .i64 a0, .int .i64 a1, .int .i64 a2, .int .i64 a3, .int .i64 a4, .int .i64 a5, .int .i64 a6] := Blk.new _ _ _
          have hbr : Blk ((w4).alloc (.cells #[.int .i64 a0, .int .i64 a1, .int .i64 a2, .int .i64 a3, .int .i64 a4, .int .i64 a5, .int .i64 a6] 23)) (w.heap.size + 2) 23 #[.int .i64 0, .int .i64 0, .int .i64 0, .int .i64 0, .int .i64 0, .int .i64 0, .int .i64 0] := br.alloc _
          have q_bo0 : ((w4).alloc (.cells #[.int .i64 a0, .int .i64 a1, .int .i64 a2, .int .i64 a3, .int .i64 a4, .int .i64 a5, .int .i64 a6] 23)).cell? ⟨w4.heap.size, 0, none⟩ = some (.int .i64 a0) := hbo.cell 0
          have q_bo1 : ((w4).alloc (.cells #[.int .i64 a0, .int .i64 a1, .int .i64 a2, .int .i64 a3, .int .i64 a4, .int .i64 a5, .int .i64 a6] 23)).cell? ⟨w4.heap.size, 1, none⟩ = some (.int .i64 a1) := hbo.cell 1
          have q_bo2 : ((w4).alloc (.cells #[.int .i64 a0, .int .i64 a1, .int .i64 a2, .int .i64 a3, .int .i64 a4, .int .i64 a5, .int .i64 a6] 23)).cell? ⟨w4.heap.size, 2, none⟩ = some (.int .i64 a2) := hbo.cell 2
          have q_bo3 : ((w4).alloc (.cells #[.int .i64 a0, .int .i64 a1, .int .i64 a2, .int .i64 a3, .int .i64 a4, .int .i64 a5, .int .i64 a6] 23)).cell? ⟨w4.heap.size, 3, none⟩ = some (.int .i64 a3) := hbo.cell 3
          have q_bo4 : ((w4).alloc (.cells #[.int .i64 a0, .int .i64 a1, .int .i64 a2, .int .i64 a3, .int .i64 a4, .int .i64 a5, .int .i64 a6] 23)).cell? ⟨w4.heap.size, 4, none⟩ = some (.int .i64 a4) := hbo.cell 4
          have q_bo5 : ((w4).alloc (.cells #[.int .i64 a0, .int .i64 a1, .int .i64 a2, .int .i64 a3, .int .i64 a4, .int .i64 a5, .int .i64 a6] 23)).cell? ⟨w4.heap.size, 5, none⟩ = some (.int .i64 a5) := hbo.cell 5
          have q_bo6 : ((w4).alloc (.cells #[.int .i64 a0, .int .i64 a1, .int .i64 a2, .int .i64 a3, .int .i64 a4, .int .i64 a5, .int .i64 a6] 23)).cell? ⟨w4.heap.size, 6, none⟩ = some (.int .i64 a6) := hbo.cell 6
          have q_br0 : ((w4).alloc (.cells #[.int .i64 a0, .int .i64 a1, .int .i64 a2, .int .i64 a3, .int .i64 a4, .int .i64 a5, .int .i64 a6] 23)).cell? ⟨w.heap.size + 2, 0, none⟩ = some (.int .i64 0) := hbr.cell 0
          have q_br1 : ((w4).alloc (.cells #[.int .i64 a0, .int .i64 a1, .int .i64 a2, .int .i64 a3, .int .i64 a4, .int .i64 a5, .int .i64 a6] 23)).cell? ⟨w.heap.size + 2, 1, none⟩ = some (.int .i64 0) := hbr.cell 1
          have q_br2 : ((w4).alloc (.cells #[.int .i64 a0, .int .i64 a1, .int .i64 a2, .int .i64 a3, .int .i64 a4, .int .i64 a5, .int .i64 a6] 23)).cell? ⟨w.heap.size + 2, 2, none⟩ = some (.int .i64 0) := hbr.cell 2
          have q_br3 : ((w4).alloc (.cells #[.int .i64 a0, .int .i64 a1, .int .i64 a2, .int .i64 a3, .int .i64 a4, .int .i64 a5, .int .i64 a6] 23)).cell? ⟨w.heap.size + 2, 3, none⟩ = some (.int .i64 0) := hbr.cell 3
          have q_br4 : ((w4).alloc (.cells #[.int .i64 a0, .int .i64 a1, .int .i64 a2, .int .i64 a3, .int .i64 a4, .int .i64 a5, .int .i64 a6] 23)).cell? ⟨w.heap.size + 2, 4, none⟩ = some (.int .i64 0) := hbr.cell 4
          have q_br5 : ((w4).alloc (.cells #[.int .i64 a0, .int .i64 a1, .int .i64 a2, .int .i64 a3, .int .i64 a4, .int .i64 a5, .int .i64 a6] 23)).cell? ⟨w.heap.size + 2, 5, none⟩ = some (.int .i64 0) := hbr.cell 5
          have q_br6 : ((w4).alloc (.cells #[.int .i64 a0, .int .i64 a1, .int .i64 a2, .int .i64 a3, .int .i64 a4, .int .i64 a5, .int .i64 a6] 23)).cell? ⟨w.heap.size + 2, 6, none⟩ = some (.int .i64 0) := hbr.cell 6
          have f_br0 : ((w4).alloc (.cells #[.int .i64 a0, .int .i64 a1, .int .i64 a2, .int .i64 a3, .int .i64 a4, .int .i64 a5, .int .i64 a6] 23)).frozen? ⟨w.heap.size + 2, 0, none⟩ = false := hbr.frozen 0
          have f_br1 : ((w4).alloc (.cells #[.int .i64 a0, .int .i64 a1, .int .i64 a2, .int .i64 a3, .int .i64 a4, .int .i64 a5, .int .i64 a6] 23)).frozen? ⟨w.heap.size + 2, 1, none⟩ = false := hbr.frozen 1
          have f_br2 : ((w4).alloc (.cells #[.int .i64 a0, .int .i64 a1, .int .i64 a2, .int .i64 a3, .int .i64 a4, .int .i64 a5, .int .i64 a6] 23)).frozen? ⟨w.heap.size + 2, 2, none⟩ = false := hbr.frozen 2
          have f_br3 : ((w4).alloc (.cells #[.int .i64 a0, .int .i64 a1, .int .i64 a2, .int .i64 a3, .int .i64 a4, .int .i64 a5, .int .i64 a6] 23)).frozen? ⟨w.heap.size + 2, 3, none⟩ = false := hbr.frozen 3
          have f_br4 : ((w4).alloc (.cells #[.int .i64 a0, .int .i64 a1, .int .i64 a2, .int .i64 a3, .int .i64 a4, .int .i64 a5, .int .i64 a6] 23)).frozen? ⟨w.heap.size + 2, 4, none⟩ = false := hbr.frozen 4
          have f_br5 : ((w4).alloc (.cells #[.int .i64 a0, .int .i64 a1, .int .i64 a2, .int .i64 a3, .int .i64 a4, .int .i64 a5, .int .i64 a6] 23)).frozen? ⟨w.heap.size + 2, 5, none⟩ = false := hbr.frozen 5
          have f_br6 : ((w4).alloc (.cells #[.int .i64 a0, .int .i64 a1, .int .i64 a2, .int .i64 a3, .int .i64 a4, .int .i64 a5, .int .i64 a6] 23)).frozen? ⟨w.heap.size + 2, 6, none⟩ = false := hbr.frozen 6
          have HBL := Lib.hid (show Below w.heap.size w ((w4).alloc (.cells #[.int .i64 a0, .int .i64 a1, .int .i64 a2, .int .i64 a3, .int .i64 a4, .int .i64 a5, .int .i64 a6] 23)) from (HB4.out).alloc (by first | exact Nat.le_refl _ | omega | (simp; done) | (simp; omega)) _)
          generalize hWW : (w4).alloc (.cells #[.int .i64 a0, .int .i64 a1, .int .i64 a2, .int .i64 a3, .int .i64 a4, .int .i64 a5, .int .i64 a6] 23) = WW at *
          go_wp2_with fail
          exact bodyPost_ret (v := .tuple #[.agg #[.int .i64 a0, .int .i64 a1, .int .i64 a2, .int .i64 a3, .int .i64 a4, .int .i64 a5, .int .i64 a6], .bool (e == 0), .int .i64 e]) (by simp [results, Try.results21, go_sem, q_br0, q_br1, q_br2, q_br3, q_br4, q_br5, q_br6]) rfl ⟨ret_MR3 HD.out, below_set7 HBL.out (H := w.heap.size + 2) (by omega) _ _ _ _ _ _ _⟩
        · have hne : (n == 0) = false := beq_eq_false_iff_ne.2 h5
          clear hq h5
          have q_bs0 : w3.cell? ⟨w.heap.size, 0, none⟩ = some (.int .i64 sh) := bs.cell 0
          have q_bs1 : w3.cell? ⟨w.heap.size, 1, none⟩ = some (.int .i64 nx) := bs.cell 1
          have q_bs2 : w3.cell? ⟨w.heap.size, 2, none⟩ = some (.int .i64 fl) := bs.cell 2
          have q_bs3 : w3.cell? ⟨w.heap.size, 3, none⟩ = some (.int .i64 ac) := bs.cell 3
          have q_bs4 : w3.cell? ⟨w.heap.size, 4, none⟩ = some (.int .i64 fi) := bs.cell 4
          have q_bs5 : w3.cell? ⟨w.heap.size, 5, none⟩ = some (.int .i64 wa) := bs.cell 5
          have q_bs6 : w3.cell? ⟨w.heap.size, 6, none⟩ = some (.int .i64 li) := bs.cell 6
          have q_bp0 : w3.cell? ⟨w.heap.size + 1, 0, none⟩ = some (.int .i64 a) := bp.cell 0
          have q_bp1 : w3.cell? ⟨w.heap.size + 1, 1, none⟩ = some (.int .i64 b) := bp.cell 1
          have q_bp2 : w3.cell? ⟨w.heap.size + 1, 2, none⟩ = some (.int .i64 f) := bp.cell 2
          have q_bp3 : w3.cell? ⟨w.heap.size + 1, 3, none⟩ = some (.int .i64 c) := bp.cell 3
          have q_bp4 : w3.cell? ⟨w.heap.size + 1, 4, none⟩ = some (.int .i64 m) := bp.cell 4
          have q_br0 : w3.cell? ⟨w.heap.size + 2, 0, none⟩ = some (.int .i64 0) := br.cell 0
          have q_br1 : w3.cell? ⟨w.heap.size + 2, 1, none⟩ = some (.int .i64 0) := br.cell 1
          have q_br2 : w3.cell? ⟨w.heap.size + 2, 2, none⟩ = some (.int .i64 0) := br.cell 2
          have q_br3 : w3.cell? ⟨w.heap.size + 2, 3, none⟩ = some (.int .i64 0) := br.cell 3
          have q_br4 : w3.cell? ⟨w.heap.size + 2, 4, none⟩ = some (.int .i64 0) := br.cell 4
          have q_br5 : w3.cell? ⟨w.heap.size + 2, 5, none⟩ = some (.int .i64 0) := br.cell 5
          have q_br6 : w3.cell? ⟨w.heap.size + 2, 6, none⟩ = some (.int .i64 0) := br.cell 6
          go_wp2_with fail
          refine (ranged_any sh (nx + 1) 0 0 0 0 0 _).mono ?_
          rintro e w4 ⟨rfl, hb⟩
          clear q_bs0 q_bs1 q_bs2 q_bs3 q_bs4 q_bs5 q_bs6 q_bp0 q_bp1 q_bp2 q_bp3 q_bp4 q_br0 q_br1 q_br2 q_br3 q_br4 q_br5 q_br6
          have bs : Blk w4 (w.heap.size) 23 #[.int .i64 sh, .int .i64 nx, .int .i64 fl, .int .i64 ac, .int .i64 fi, .int .i64 wa, .int .i64 li] := (bs).on hb
          have bp : Blk w4 (w.heap.size + 1) 27 #[.int .i64 a, .int .i64 b, .int .i64 f, .int .i64 c, .int .i64 m] := (bp).on hb
          have br : Blk w4 (w.heap.size + 2) 23 #[.int .i64 0, .int .i64 0, .int .i64 0, .int .i64 0, .int .i64 0, .int .i64 0, .int .i64 0] := (br).on hb
          have hbz := hb.size
          have HB4 := Lib.hid ((HB3.out).trans (hb.mono (by first | exact Nat.le_refl _ | omega | (simp; done) | (simp; omega))))
          have hz4 : w.heap.size ≤ w4.heap.size := HB4.out.size
          clear hb hbz
          generalize hR : rgS ⟨sh, nx + 1, 0, 0, 0, 0, 0⟩ = R
          obtain ⟨⟨a0, a1, a2, a3, a4, a5, a6⟩, e⟩ := R
          have HD := Lib.hid (HN.out.trans ((failG3 (s := ⟨sh, nx, fl, ac, fi, wa, li⟩) (r := ⟨a, b, f, c, m⟩) (now := now) (Int.not_lt.2 H2.out) HH.out).trans (by simp only; rw [hR])))
          clear hR
          simp only [MR, MS.cs]
          have hbo : Blk ((w4).alloc (.cells #[.int .i64 a0, .int .i64 a1, .int .i64 a2, .int .i64 a3, .int .i64 a4, .int .i64 a5, .int .i64 a6] 23)) (w4.heap.size) 23 #[.int .i64 a0, .int .i64 a1, .int .i64 a2, .int .i64 a3, .int .i64 a4, .int .i64 a5, .int .i64 a6] := Blk.new _ _ _
          have hbr : Blk ((w4).alloc (.cells #[.int .i64 a0, .int .i64 a1, .int .i64 a2, .int .i64 a3, .int .i64 a4, .int .i64 a5, .int .i64 a6] 23)) (w.heap.size + 2) 23 #[.int .i64 0, .int .i64 0, .int .i64 0, .int .i64 0, .int .i64 0, .int .i64 0, .int .i64 0] := br.alloc _
          have q_bo0 : ((w4).alloc (.cells #[.int .i64 a0, .int .i64 a1, .int .i64 a2, .int .i64 a3, .int .i64 a4, .int .i64 a5, .int .i64 a6] 23)).cell? ⟨w4.heap.size, 0, none⟩ = some (.int .i64 a0) := hbo.cell 0
          have q_bo1 : ((w4).alloc (.cells #[.int .i64 a0, .int .i64 a1, .int .i64 a2, .int .i64 a3, .int .i64 a4, .int .i64 a5, .int .i64 a6] 23)).cell? ⟨w4.heap.size, 1, none⟩ = some (.int .i64 a1) := hbo.cell 1
          have q_bo2 : ((w4).alloc (.cells #[.int .i64 a0, .int .i64 a1, .int .i64 a2, .int .i64 a3, .int .i64 a4, .int .i64 a5, .int .i64 a6] 23)).cell? ⟨w4.heap.size, 2, none⟩ = some (.int .i64 a2) := hbo.cell 2
          have q_bo3 : ((w4).alloc (.cells #[.int .i64 a0, .int .i64 a1, .int .i64 a2, .int .i64 a3, .int .i64 a4, .int .i64 a5, .int .i64 a6] 23)).cell? ⟨w4.heap.size, 3, none⟩ = some (.int .i64 a3) := hbo.cell 3
          have q_bo4 : ((w4).alloc (.cells #[.int .i64 a0, .int .i64 a1, .int .i64 a2, .int .i64 a3, .int .i64 a4, .int .i64 a5, .int .i64 a6] 23)).cell? ⟨w4.heap.size, 4, none⟩ = some (.int .i64 a4) := hbo.cell 4
          have q_bo5 : ((w4).alloc (.cells #[.int .i64 a0, .int .i64 a1, .int .i64 a2, .int .i64 a3, .int .i64 a4, .int .i64 a5, .int .i64 a6] 23)).cell? ⟨w4.heap.size, 5, none⟩ = some (.int .i64 a5) := hbo.cell 5
          have q_bo6 : ((w4).alloc (.cells #[.int .i64 a0, .int .i64 a1, .int .i64 a2, .int .i64 a3, .int .i64 a4, .int .i64 a5, .int .i64 a6] 23)).cell? ⟨w4.heap.size, 6, none⟩ = some (.int .i64 a6) := hbo.cell 6
          have q_br0 : ((w4).alloc (.cells #[.int .i64 a0, .int .i64 a1, .int .i64 a2, .int .i64 a3, .int .i64 a4, .int .i64 a5, .int .i64 a6] 23)).cell? ⟨w.heap.size + 2, 0, none⟩ = some (.int .i64 0) := hbr.cell 0
          have q_br1 : ((w4).alloc (.cells #[.int .i64 a0, .int .i64 a1, .int .i64 a2, .int .i64 a3, .int .i64 a4, .int .i64 a5, .int .i64 a6] 23)).cell? ⟨w.heap.size + 2, 1, none⟩ = some (.int .i64 0) := hbr.cell 1
          have q_br2 : ((w4).alloc (.cells #[.int .i64 a0, .int .i64 a1, .int .i64 a2, .int .i64 a3, .int .i64 a4, .int .i64 a5, .int .i64 a6] 23)).cell? ⟨w.heap.size + 2, 2, none⟩ = some (.int .i64 0) := hbr.cell 2
          have q_br3 : ((w4).alloc (.cells #[.int .i64 a0, .int .i64 a1, .int .i64 a2, .int .i64 a3, .int .i64 a4, .int .i64 a5, .int .i64 a6] 23)).cell? ⟨w.heap.size + 2, 3, none⟩ = some (.int .i64 0) := hbr.cell 3
          have q_br4 : ((w4).alloc (.cells #[.int .i64 a0, .int .i64 a1, .int .i64 a2, .int .i64 a3, .int .i64 a4, .int .i64 a5, .int .i64 a6] 23)).cell? ⟨w.heap.size + 2, 4, none⟩ = some (.int .i64 0) := hbr.cell 4
          have q_br5 : ((w4).alloc (.cells #[.int .i64 a0, .int .i64 a1, .int .i64 a2, .int .i64 a3, .int .i64 a4, .int .i64 a5, .int .i64 a6] 23)).cell? ⟨w.heap.size + 2, 5, none⟩ = some (.int .i64 0) := hbr.cell 5
          have q_br6 : ((w4).alloc (.cells #[.int .i64 a0, .int .i64 a1, .int .i64 a2, .int .i64 a3, .int .i64 a4, .int .i64 a5, .int .i64 a6] 23)).cell? ⟨w.heap.size + 2, 6, none⟩ = some (.int .i64 0) := hbr.cell 6
          have f_br0 : ((w4).alloc (.cells #[.int .i64 a0, .int .i64 a1, .int .i64 a2, .int .i64 a3, .int .i64 a4, .int .i64 a5, .int .i64 a6] 23)).frozen? ⟨w.heap.size + 2, 0, none⟩ = false := hbr.frozen 0
          have f_br1 : ((w4).alloc (.cells #[.int .i64 a0, .int .i64 a1, .int .i64 a2, .int .i64 a3, .int .i64 a4, .int .i64 a5, .int .i64 a6] 23)).frozen? ⟨w.heap.size + 2, 1, none⟩ = false := hbr.frozen 1
          have f_br2 : ((w4).alloc (.cells #[.int .i64 a0, .int .i64 a1, .int .i64 a2, .int .i64 a3, .int .i64 a4, .int .i64 a5, .int .i64 a6] 23)).frozen? ⟨w.heap.size + 2, 2, none⟩ = false := hbr.frozen 2
          have f_br3 : ((w4).alloc (.cells #[.int .i64 a0, .int .i64 a1, .int .i64 a2, .int .i64 a3, .int .i64 a4, .int .i64 a5, .int .i64 a6] 23)).frozen? ⟨w.heap.size + 2, 3, none⟩ = false := hbr.frozen 3
          have f_br4 : ((w4).alloc (.cells #[.int .i64 a0, .int .i64 a1, .int .i64 a2, .int .i64 a3, .int .i64 a4, .int .i64 a5, .int .i64 a6] 23)).frozen? ⟨w.heap.size + 2, 4, none⟩ = false := hbr.frozen 4
          have f_br5 : ((w4).alloc (.cells #[.int .i64 a0, .int .i64 a1, .int .i64 a2, .int .i64 a3, .int .i64 a4, .int .i64 a5, .int .i64 a6] 23)).frozen? ⟨w.heap.size + 2, 5, none⟩ = false := hbr.frozen 5
          have f_br6 : ((w4).alloc (.cells #[.int .i64 a0, .int .i64 a1, .int .i64 a2, .int .i64 a3, .int .i64 a4, .int .i64 a5, .int .i64 a6] 23)).frozen? ⟨w.heap.size + 2, 6, none⟩ = false := hbr.frozen 6
          have HBL := Lib.hid (show Below w.heap.size w ((w4).alloc (.cells #[.int .i64 a0, .int .i64 a1, .int .i64 a2, .int .i64 a3, .int .i64 a4, .int .i64 a5, .int .i64 a6] 23)) from (HB4.out).alloc (by first | exact Nat.le_refl _ | omega | (simp; done) | (simp; omega)) _)
          generalize hWW : (w4).alloc (.cells #[.int .i64 a0, .int .i64 a1, .int .i64 a2, .int .i64 a3, .int .i64 a4, .int .i64 a5, .int .i64 a6] 23) = WW at *
          go_wp2_with fail
          exact bodyPost_ret (v := .tuple #[.agg #[.int .i64 a0, .int .i64 a1, .int .i64 a2, .int .i64 a3, .int .i64 a4, .int .i64 a5, .int .i64 a6], .bool (e == 0), .int .i64 e]) (by simp [results, Try.results21, go_sem, q_br0, q_br1, q_br2, q_br3, q_br4, q_br5, q_br6]) rfl ⟨ret_MR3 HD.out, below_set7 HBL.out (H := w.heap.size + 2) (by omega) _ _ _ _ _ _ _⟩
      obtain ⟨rfl, rfl⟩ := h4
      have HD := Lib.hid (HN.out.trans (failG2 (Int.not_lt.2 H2.out) h3 hX))
      clear hX
      have q_bs0 : w3.cell? ⟨w.heap.size, 0, none⟩ = some (.int .i64 sh) := bs.cell 0
      have q_bs1 : w3.cell? ⟨w.heap.size, 1, none⟩ = some (.int .i64 nx) := bs.cell 1
      have q_bs2 : w3.cell? ⟨w.heap.size, 2, none⟩ = some (.int .i64 fl) := bs.cell 2
      have q_bs3 : w3.cell? ⟨w.heap.size, 3, none⟩ = some (.int .i64 ac) := bs.cell 3
      have q_bs4 : w3.cell? ⟨w.heap.size, 4, none⟩ = some (.int .i64 fi) := bs.cell 4
      have q_bs5 : w3.cell? ⟨w.heap.size, 5, none⟩ = some (.int .i64 wa) := bs.cell 5
      have q_bs6 : w3.cell? ⟨w.heap.size, 6, none⟩ = some (.int .i64 li) := bs.cell 6
      have q_bp0 : w3.cell? ⟨w.heap.size + 1, 0, none⟩ = some (.int .i64 a) := bp.cell 0
      have q_bp1 : w3.cell? ⟨w.heap.size + 1, 1, none⟩ = some (.int .i64 b) := bp.cell 1
      have q_bp2 : w3.cell? ⟨w.heap.size + 1, 2, none⟩ = some (.int .i64 f) := bp.cell 2
      have q_bp3 : w3.cell? ⟨w.heap.size + 1, 3, none⟩ = some (.int .i64 c) := bp.cell 3
      have q_bp4 : w3.cell? ⟨w.heap.size + 1, 4, none⟩ = some (.int .i64 m) := bp.cell 4
      have q_br0 : w3.cell? ⟨w.heap.size + 2, 0, none⟩ = some (.int .i64 0) := br.cell 0
      have q_br1 : w3.cell? ⟨w.heap.size + 2, 1, none⟩ = some (.int .i64 0) := br.cell 1
      have q_br2 : w3.cell? ⟨w.heap.size + 2, 2, none⟩ = some (.int .i64 0) := br.cell 2
      have q_br3 : w3.cell? ⟨w.heap.size + 2, 3, none⟩ = some (.int .i64 0) := br.cell 3
      have q_br4 : w3.cell? ⟨w.heap.size + 2, 4, none⟩ = some (.int .i64 0) := br.cell 4
      have q_br5 : w3.cell? ⟨w.heap.size + 2, 5, none⟩ = some (.int .i64 0) := br.cell 5
      have q_br6 : w3.cell? ⟨w.heap.size + 2, 6, none⟩ = some (.int .i64 0) := br.cell 6
      have f_br0 : w3.frozen? ⟨w.heap.size + 2, 0, none⟩ = false := br.frozen 0
      have f_br1 : w3.frozen? ⟨w.heap.size + 2, 1, none⟩ = false := br.frozen 1
      have f_br2 : w3.frozen? ⟨w.heap.size + 2, 2, none⟩ = false := br.frozen 2
      have f_br3 : w3.frozen? ⟨w.heap.size + 2, 3, none⟩ = false := br.frozen 3
      have f_br4 : w3.frozen? ⟨w.heap.size + 2, 4, none⟩ = false := br.frozen 4
      have f_br5 : w3.frozen? ⟨w.heap.size + 2, 5, none⟩ = false := br.frozen 5
      have f_br6 : w3.frozen? ⟨w.heap.size + 2, 6, none⟩ = false := br.frozen 6
      go_wp2_with fail
      exact bodyPost_ret (v := .tuple #[.agg #[.int .i64 sh, .int .i64 nx, .int .i64 0, .int .i64 ac, .int .i64 fi, .int .i64 t, .int .i64 1], .bool false, .int .i64 0]) (by simp [results, Try.results21, go_sem, q_br0, q_br1, q_br2, q_br3, q_br4, q_br5, q_br6]) rfl ⟨ret_MR3 HD.out, below_set7 HB3.out (H := w.heap.size + 2) (by omega) _ _ _ _ _ _ _⟩
end Go.Proofs.Ytojghgeemdpmpaa
