/- The walk of the law PolicyReduces. -/
import Derived.Test.YtcmlgiilifdnfaaDoorPF2
import Derived.Test.YtcmlgiilifdnfaaDoorPY
namespace Go.Proofs.YtcmlgiilifdnfaaDoor
open Go.RowKit
open Go.Sort (grow)

theorem red_len (l : List St) : (reduce l).length ≤ l.length := redS_len l l.length
theorem szl_red {l : List St} (h : SzL l) : SzL (reduce l) := ⟨Nat.le_trans (red_len l) h.1, fun s hs => by
  obtain ⟨k, _, hk, _⟩ := (red_mem l.length s).1 hs
  exact h.2 s (List.mem_of_getElem? hk)⟩
theorem Reduce_lit (A : Option Addr) (c : Nat) (l : List St) (w : World) (hl : StsAt w w.heap.size A l) (hz : SzL l) (hn : l.length ≤ 1000) :
    Calls Tryd.prog 23 #[.slice A l.length c] w fun e w' => (∃ p d, e = .returned (.slice p (reduce l).length d) ∧ StsAt w' w'.heap.size p (reduce l)) ∧ Below w.heap.size w w' := Reduce_any A c l w hl hz hn
theorem rReduce_lit (A : Option Addr) (c : Nat) (l : List St) (w : World) (hl : StsAt w w.heap.size A l) (hz : SzL l) (hn : l.length ≤ 1000) :
    Calls Tryd.prog 24 #[.slice A l.length c] w fun e w' => (∃ p d, e = .returned (.slice p (reduce l).length d) ∧ StsAt w' w'.heap.size p (reduce l)) ∧ Below w.heap.size w w' := rReduce_any A c l w hl hz hn
def Held6 (g h : Nat) (a b c d e f : Value) (w0 w : World) : Prop := (w.cell? ⟨g, 0, none⟩ = some a ∧ w.cell? ⟨g, 1, none⟩ = some b ∧ w.cell? ⟨g, 2, none⟩ = some c ∧ w.cell? ⟨h, 0, none⟩ = some d ∧ w.cell? ⟨h, 1, none⟩ = some e ∧ w.cell? ⟨h, 2, none⟩ = some f) ∧ Below w0.heap.size w0 w
theorem held6_step {w0 w1 w2 : World} {p0 p1 p2 p3 p4 p5 : Addr} {a b c d e f : Value} (h : (w1.cell? p0 = some a ∧ w1.cell? p1 = some b ∧ w1.cell? p2 = some c ∧ w1.cell? p3 = some d ∧ w1.cell? p4 = some e ∧ w1.cell? p5 = some f) ∧ Below w0.heap.size w0 w1) (hb : Below w1.heap.size w1 w2) : (w2.cell? p0 = some a ∧ w2.cell? p1 = some b ∧ w2.cell? p2 = some c ∧ w2.cell? p3 = some d ∧ w2.cell? p4 = some e ∧ w2.cell? p5 = some f) ∧ Below w0.heap.size w0 w2 := by
  obtain ⟨⟨h0, h1, h2, h3, h4, h5⟩, hw⟩ := h
  exact ⟨⟨(hb.cell (block_lt_of_cell h0)).trans h0, (hb.cell (block_lt_of_cell h1)).trans h1, (hb.cell (block_lt_of_cell h2)).trans h2, (hb.cell (block_lt_of_cell h3)).trans h3, (hb.cell (block_lt_of_cell h4)).trans h4, (hb.cell (block_lt_of_cell h5)).trans h5⟩, hw.trans (hb.mono hw.size)⟩
theorem held6_b {w0 w1 : World} {p0 p1 p2 p3 p4 p5 : Addr} {a b c d e f : Value} (h : (w1.cell? p0 = some a ∧ w1.cell? p1 = some b ∧ w1.cell? p2 = some c ∧ w1.cell? p3 = some d ∧ w1.cell? p4 = some e ∧ w1.cell? p5 = some f) ∧ Below w0.heap.size w0 w1) : Below w0.heap.size w0 w1 := h.2
set_option maxHeartbeats 8000000 in
set_option maxRecDepth 100000 in
theorem PolicyReduces_any (A : Option Addr) (c : Nat) (l : List St) (s1 s2 : St) (A1 : Option Addr) (c1 : Nat) (B1 : Option Addr) (d1 : Nat) (A2 : Option Addr) (c2 : Nat) (B2 : Option Addr) (d2 : Nat) (m : Int) (w : World) (hl : StsAt w w.heap.size A l) (hn : l.length ≤ 9223372036854775807) (hs : ∀ s ∈ l, SzW s)
    (a1 : StrL w w.heap.size A1 s1.ac) (b1 : StrL w w.heap.size B1 s1.re) (a2 : StrL w w.heap.size A2 s2.ac) (b2 : StrL w w.heap.size B2 s2.re) (z1 : SzW s1) (z2 : SzW s2) (hm : w.cell? ⟨0, 0, none⟩ = some (.int .i64 m)) :
    Calls Tryd.prog 5 #[.slice A l.length c, .agg #[.bool s1.al, .slice A1 s1.ac.length c1, .slice B1 s1.re.length d1], .agg #[.bool s2.al, .slice A2 s2.ac.length c2, .slice B2 s2.re.length d2]] w fun e w' => e = .returned (.bool true) ∧ Below w.heap.size w w' := by
  have HL := Lib.hid hl
  have HS := Lib.hid hs
  have HA1 := Lib.hid a1
  have HB1' := Lib.hid b1
  have HA2 := Lib.hid a2
  have HB2' := Lib.hid b2
  have HV1 := Lib.hid (show StV w w.heap.size (.agg #[.bool s1.al, .slice A1 s1.ac.length c1, .slice B1 s1.re.length d1]) s1 from ⟨A1, c1, B1, d1, rfl, a1, b1⟩)
  have HV2 := Lib.hid (show StV w w.heap.size (.agg #[.bool s2.al, .slice A2 s2.ac.length c2, .slice B2 s2.re.length d2]) s2 from ⟨A2, c2, B2, d2, rfl, a2, b2⟩)
  have HW := Lib.hid (show ∀ x ∈ [s1, s2], SzW x from fun x hx => by rcases List.mem_cons.1 hx with rfl | hx; exact z1; rw [List.mem_singleton.1 hx]; exact z2)
  have HM := Lib.hid hm
  have hw0 := block_lt_of_cell hm
  clear hl hs hm a1 b1 a2 b2 z1 z2
  go_enter Tryd.func5, Tryd.ntmps5
  go_wp2_with fail
  have ba : Blk (((w).alloc (.cells #[.bool s1.al, .slice A1 s1.ac.length c1, .slice B1 s1.re.length d1] 31)).alloc (.cells #[.bool s2.al, .slice A2 s2.ac.length c2, .slice B2 s2.re.length d2] 31)) (w.heap.size) 31 #[.bool s1.al, .slice A1 s1.ac.length c1, .slice B1 s1.re.length d1] := (Blk.new _ _ _).alloc _
  have bb : Blk (((w).alloc (.cells #[.bool s1.al, .slice A1 s1.ac.length c1, .slice B1 s1.re.length d1] 31)).alloc (.cells #[.bool s2.al, .slice A2 s2.ac.length c2, .slice B2 s2.re.length d2] 31)) (w.heap.size + 1) 31 #[.bool s2.al, .slice A2 s2.ac.length c2, .slice B2 s2.re.length d2] := Blk.new1 _ _ _ _
  have HB11 := Lib.hid (show Below w.heap.size w (((w).alloc (.cells #[.bool s1.al, .slice A1 s1.ac.length c1, .slice B1 s1.re.length d1] 31)).alloc (.cells #[.bool s2.al, .slice A2 s2.ac.length c2, .slice B2 s2.re.length d2] 31)) from ((Below.refl w.heap.size w).alloc (by first | exact Nat.le_refl _ | omega | (simp; done) | (simp; omega)) _).alloc (by first | exact Nat.le_refl _ | omega | (simp; done) | (simp; omega)) _)
  generalize ((w).alloc (.cells #[.bool s1.al, .slice A1 s1.ac.length c1, .slice B1 s1.re.length d1] 31)).alloc (.cells #[.bool s2.al, .slice A2 s2.ac.length c2, .slice B2 s2.re.length d2] 31) = w11 at *
  have hz11 : w.heap.size ≤ w11.heap.size := HB11.out.size
  go_wp2_with fail
  refine (small_any A c l w11 (HL.out.on HB11.out) hn HS.out).mono ?_
  rintro e wq ⟨rfl, rfl⟩
  cases hsm : smB l
  · clear hsm
    go_wp2_with fail
    refine (awake_any m _ (((HB11.out).cell (p := ⟨0, 0, none⟩) hw0).trans HM.out)).mono ?_
    rintro e w12 ⟨rfl, hb⟩
    have ba : Blk w12 (w.heap.size) 31 #[.bool s1.al, .slice A1 s1.ac.length c1, .slice B1 s1.re.length d1] := (ba).on hb
    have bb : Blk w12 (w.heap.size + 1) 31 #[.bool s2.al, .slice A2 s2.ac.length c2, .slice B2 s2.re.length d2] := (bb).on hb
    have hbz := hb.size
    have HB12 := Lib.hid ((HB11.out).trans (hb.mono (by first | exact Nat.le_refl _ | omega | (simp; done) | (simp; omega))))
    have hz12 : w.heap.size ≤ w12.heap.size := HB12.out.size
    clear hb hbz
    go_wp2_with fail
    go_ret
    exact ⟨rfl, HB12.out⟩
  · have HZ := Lib.hid (smB_SzL hsm)
    have HN := Lib.hid (show l.length ≤ 1000 by have := (smB_st hsm).1; omega)
    clear hsm
    have q_ba0 : w11.cell? ⟨w.heap.size, 0, none⟩ = some (.bool s1.al) := ba.cell 0
    have q_ba1 : w11.cell? ⟨w.heap.size, 1, none⟩ = some (.slice A1 s1.ac.length c1) := ba.cell 1
    have q_ba2 : w11.cell? ⟨w.heap.size, 2, none⟩ = some (.slice B1 s1.re.length d1) := ba.cell 2
    have q_bb0 : w11.cell? ⟨w.heap.size + 1, 0, none⟩ = some (.bool s2.al) := bb.cell 0
    have q_bb1 : w11.cell? ⟨w.heap.size + 1, 1, none⟩ = some (.slice A2 s2.ac.length c2) := bb.cell 1
    have q_bb2 : w11.cell? ⟨w.heap.size + 1, 2, none⟩ = some (.slice B2 s2.re.length d2) := bb.cell 2
    go_wp2_with fail
    clear q_ba0 q_ba1 q_ba2 q_bb0 q_bb1 q_bb2
    have ba : Blk ((w11).alloc (.cells #[.bool s1.al, .slice A1 s1.ac.length c1, .slice B1 s1.re.length d1, .bool s2.al, .slice A2 s2.ac.length c2, .slice B2 s2.re.length d2] 31)) (w.heap.size) 31 #[.bool s1.al, .slice A1 s1.ac.length c1, .slice B1 s1.re.length d1] := (ba).alloc _
    have bb : Blk ((w11).alloc (.cells #[.bool s1.al, .slice A1 s1.ac.length c1, .slice B1 s1.re.length d1, .bool s2.al, .slice A2 s2.ac.length c2, .slice B2 s2.re.length d2] 31)) (w.heap.size + 1) 31 #[.bool s2.al, .slice A2 s2.ac.length c2, .slice B2 s2.re.length d2] := (bb).alloc _
    have bl : Blk ((w11).alloc (.cells #[.bool s1.al, .slice A1 s1.ac.length c1, .slice B1 s1.re.length d1, .bool s2.al, .slice A2 s2.ac.length c2, .slice B2 s2.re.length d2] 31)) (w11.heap.size) 31 #[.bool s1.al, .slice A1 s1.ac.length c1, .slice B1 s1.re.length d1, .bool s2.al, .slice A2 s2.ac.length c2, .slice B2 s2.re.length d2] := Blk.new _ _ _
    have HB12 := Lib.hid (show Below w.heap.size w ((w11).alloc (.cells #[.bool s1.al, .slice A1 s1.ac.length c1, .slice B1 s1.re.length d1, .bool s2.al, .slice A2 s2.ac.length c2, .slice B2 s2.re.length d2] 31)) from (HB11.out).alloc (by first | exact Nat.le_refl _ | omega | (simp; done) | (simp; omega)) _)
    generalize (w11).alloc (.cells #[.bool s1.al, .slice A1 s1.ac.length c1, .slice B1 s1.re.length d1, .bool s2.al, .slice A2 s2.ac.length c2, .slice B2 s2.re.length d2] 31) = w12 at *
    have hz12 : w.heap.size ≤ w12.heap.size := HB12.out.size
    go_wp2_with fail
    refine (small_any (some ⟨w11.heap.size, 0, none⟩) 2 [s1, s2] w12 (blk_sts2 bl (HA1.out.on HB12.out) (HB1'.out.on HB12.out) (HA2.out.on HB12.out) (HB2'.out.on HB12.out)) (by simp) HW.out).mono ?_
    rintro e wq ⟨rfl, rfl⟩
    cases hsm : smB [s1, s2]
    · clear hsm
      go_wp2_with fail
      refine (awake_any m _ (((HB12.out).cell (p := ⟨0, 0, none⟩) hw0).trans HM.out)).mono ?_
      rintro e w13 ⟨rfl, hb⟩
      have ba : Blk w13 (w.heap.size) 31 #[.bool s1.al, .slice A1 s1.ac.length c1, .slice B1 s1.re.length d1] := (ba).on hb
      have bb : Blk w13 (w.heap.size + 1) 31 #[.bool s2.al, .slice A2 s2.ac.length c2, .slice B2 s2.re.length d2] := (bb).on hb
      have bl : Blk w13 (w11.heap.size) 31 #[.bool s1.al, .slice A1 s1.ac.length c1, .slice B1 s1.re.length d1, .bool s2.al, .slice A2 s2.ac.length c2, .slice B2 s2.re.length d2] := (bl).on hb
      have hbz := hb.size
      have HB13 := Lib.hid ((HB12.out).trans (hb.mono (by first | exact Nat.le_refl _ | omega | (simp; done) | (simp; omega))))
      have hz13 : w.heap.size ≤ w13.heap.size := HB13.out.size
      clear hb hbz
      go_wp2_with fail
      go_ret
      exact ⟨rfl, HB13.out⟩
    · have HZ1 := Lib.hid ((smB_SzL hsm).2 s1 (by simp))
      have HZ2 := Lib.hid ((smB_SzL hsm).2 s2 (by simp))
      clear hsm
      have HLW := Lib.hid (HL.out.on HB12.out)
      have HVW1 := Lib.hid (HV1.out.on HB12.out)
      have HVW2 := Lib.hid (HV2.out.on HB12.out)
      have HMW := Lib.hid (((HB12.out).cell (p := ⟨0, 0, none⟩) hw0).trans HM.out)
      have hwW := block_lt_of_cell HMW.out
      have HBW := Lib.hid HB12.out
      have HZR := Lib.hid (szl_red HZ.out)
      have HXX := Lib.hid (show ((s1.cv s2) == (s1.cv s2)) = true from beq_self_eq_true _)
      generalize hcv : s1.cv s2 = cv
      have HCV := Lib.hid hcv
      have hcc : (cv == cv) = true := beq_self_eq_true _
      clear hcv HXX
      have q0 := ba.cell 0
      have q1 := ba.cell 1
      have q2 := ba.cell 2
      have q3 := bb.cell 0
      have q4 := bb.cell 1
      have q5 := bb.cell 2
      go_wp2_with fail
      go_region_held3 (fun w' => (w'.cell? ⟨w.heap.size, 0, none⟩ = some (.bool s1.al) ∧ w'.cell? ⟨w.heap.size, 1, none⟩ = some (.slice A1 s1.ac.length c1) ∧ w'.cell? ⟨w.heap.size, 2, none⟩ = some (.slice B1 s1.re.length d1) ∧ w'.cell? ⟨w.heap.size + 1, 0, none⟩ = some (.bool s2.al) ∧ w'.cell? ⟨w.heap.size + 1, 1, none⟩ = some (.slice A2 s2.ac.length c2) ∧ w'.cell? ⟨w.heap.size + 1, 2, none⟩ = some (.slice B2 s2.re.length d2)) ∧ Below w12.heap.size w12 w') (first | assumption | exact ⟨⟨q0, q1, q2, q3, q4, q5⟩, (Below.refl _ _).drew⟩) (first | (go_at_call 20; ((with_reducible refine (Covers_any s1 s2 _ _ _ (HVW1.out.on (held6_b (by assumption))) HZ1.out (HVW2.out.on (held6_b (by assumption))) HZ2.out).mono ?_); rintro e x1 ⟨rfl, hb1⟩; have H1 := held6_step (by assumption) hb1; rw [HCV.out])) | (go_at_call 21; ((with_reducible refine (rCovers_any s1 s2 _ _ _ (HVW1.out.on (held6_b (by assumption))) HZ1.out (HVW2.out.on (held6_b (by assumption))) HZ2.out).mono ?_); rintro e x2 ⟨rfl, hb2⟩; have H2 := held6_step (by assumption) hb2; rw [HCV.out])) | (go_at_call 23; ((with_reducible refine (Reduce_lit A c l _ (HLW.out.on (held6_b (by assumption))) HZ.out HN.out).mono ?_); rintro e x3 ⟨⟨P3, k3, rfl, hs3⟩, hb3⟩; have H3 := held6_step (by assumption) hb3)) | (go_at_call 24; ((with_reducible refine (rReduce_lit A c l _ (HLW.out.on (held6_b (by assumption))) HZ.out HN.out).mono ?_); rintro e x4 ⟨⟨P4, k4, rfl, hs4⟩, hb4⟩; have H4 := held6_step (by assumption) hb4)) | (go_at_call 22; ((first | (with_reducible refine (list_any P3 k3 (reduce l) P4 k4 (reduce l) _ (hs3.on hb4) hs4 rfl HZR.out).mono ?_) | (with_reducible refine (list_any P3 k3 (reduce l) P4 k4 (reduce l) _ hs3 (hs4.on hb3) rfl HZR.out).mono ?_)); rintro e x5 ⟨rfl, hb5⟩; have H5 := held6_step (by assumption) hb5)) | (go_at_call 10; ((with_reducible refine (awake_any m _ (((held6_b (by assumption)).cell (p := ⟨0, 0, none⟩) hwW).trans HMW.out)).mono ?_); rintro e x6 ⟨rfl, hb6⟩; have H6 := held6_step (by assumption) hb6)))
      all_goals have HF := Lib.hid H6.2
      all_goals clear H1 H2 H3 H4 H5 H6 hb1 hb2 hb3 hb4 hb5 hb6
      all_goals go_wp2_with fail
      all_goals go_ret
      all_goals exact ⟨rfl, HBW.out.trans (HF.out.mono HBW.out.size)⟩
end Go.Proofs.YtcmlgiilifdnfaaDoor
