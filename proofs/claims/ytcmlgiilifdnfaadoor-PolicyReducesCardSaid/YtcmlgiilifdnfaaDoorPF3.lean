/- The walk of the law PolicyFormats. -/
import Derived.Test.YtcmlgiilifdnfaaDoorPF2
namespace Go.Proofs.YtcmlgiilifdnfaaDoor
open Go.RowKit
open Go.Sort (grow)

theorem Parse_lit (text : ByteArray) (st : St) (n m : Int) (h : parS text = (st, n)) (w : World) (hs : text.size ≤ 100000) (hm : w.cell? ⟨0, 0, none⟩ = some (.int .i64 m)) :
    Calls Tryd.prog 15 #[.string text] w fun e w' => (∃ B d B2 d2, e = .returned (.tuple #[.agg #[.bool st.al, .slice B st.ac.length d, .slice B2 st.re.length d2], .int .i64 n]) ∧ StrL w' w'.heap.size B st.ac ∧ StrL w' w'.heap.size B2 st.re ∧ st.ac.length ≤ d ∧ st.re.length ≤ d2) ∧ Below w.heap.size w w' := by
  refine (Parse_any text m w hs hm).mono ?_
  rintro e w' ⟨v, rfl, hv, hc, hb⟩
  rw [h] at hv hc ⊢
  obtain ⟨B, d, B2, d2, rfl, h1, h2⟩ := hv
  obtain ⟨C, k, C2, k2, e', hk, hk2⟩ := hc rfl
  injection e' with e'
  injection e' with e'
  injection e' with _ e'
  injection e' with e1 e'
  injection e' with e2 e'
  injection e1 with e1 _ e1'
  injection e2 with e2 _ e2'
  subst e1 e1' e2 e2'
  exact ⟨⟨B, d, B2, d2, rfl, h1, h2, hk, hk2⟩, hb⟩
theorem rParse_lit (text : ByteArray) (st : St) (n : Int) (h : parS text = (st, n)) (w : World) (hs : text.size ≤ 100000) :
    Calls Tryd.prog 16 #[.string text] w fun e w' => (∃ B d B2 d2, e = .returned (.tuple #[.agg #[.bool st.al, .slice B st.ac.length d, .slice B2 st.re.length d2], .int .i64 n]) ∧ StrL w' w'.heap.size B st.ac ∧ StrL w' w'.heap.size B2 st.re) ∧ Below w.heap.size w w' := by
  refine (rParse_any text w hs).mono ?_
  rintro e w' ⟨v, rfl, hv, -, hb⟩
  rw [h] at hv ⊢
  obtain ⟨B, d, B2, d2, rfl, h1, h2⟩ := hv
  exact ⟨⟨B, d, B2, d2, rfl, h1, h2⟩, hb⟩
set_option maxHeartbeats 8000000 in
set_option maxRecDepth 100000 in
theorem PolicyFormats_any (s : St) (A : Option Addr) (c : Nat) (A2 : Option Addr) (c2 : Nat) (text : ByteArray) (m : Int) (w : World) (hl1 : StrL w w.heap.size A s.ac) (hl2 : StrL w w.heap.size A2 s.re) (hc1 : s.ac.length ≤ c) (hc2 : s.re.length ≤ c2) (hw : SzW s) (ht : text.size ≤ 9223372036854775807) (hm : w.cell? ⟨0, 0, none⟩ = some (.int .i64 m)) :
    Calls Tryd.prog 4 #[.agg #[.bool s.al, .slice A s.ac.length c, .slice A2 s.re.length c2], .string text] w fun e w' => e = .returned (.bool true) ∧ Below w.heap.size w w' := by
  have HL1 := Lib.hid hl1
  have HL2 := Lib.hid hl2
  have HV := Lib.hid (show StV w w.heap.size (.agg #[.bool s.al, .slice A s.ac.length c, .slice A2 s.re.length c2]) s from ⟨A, c, A2, c2, rfl, hl1, hl2⟩)
  have HCP := Lib.hid (show CapV (.agg #[.bool s.al, .slice A s.ac.length c, .slice A2 s.re.length c2]) s from ⟨A, c, A2, c2, rfl, hc1, hc2⟩)
  have HW := Lib.hid hw
  have HM := Lib.hid hm
  have hw0 := block_lt_of_cell hm
  clear hl1 hl2 hc1 hc2 hw hm
  go_enter Tryd.func4, Tryd.ntmps4
  go_wp2_with fail
  have bs : Blk (((w).alloc (.cells #[.bool s.al, .slice A s.ac.length c, .slice A2 s.re.length c2] 31)).alloc (.cells #[.bool s.al, .slice A s.ac.length c, .slice A2 s.re.length c2] 31)) (w.heap.size) 31 #[.bool s.al, .slice A s.ac.length c, .slice A2 s.re.length c2] := (Blk.new _ _ _).alloc _
  have bl : Blk (((w).alloc (.cells #[.bool s.al, .slice A s.ac.length c, .slice A2 s.re.length c2] 31)).alloc (.cells #[.bool s.al, .slice A s.ac.length c, .slice A2 s.re.length c2] 31)) (w.heap.size + 1) 31 #[.bool s.al, .slice A s.ac.length c, .slice A2 s.re.length c2] := Blk.new1 _ _ _ _
  have HB11 := Lib.hid (show Below w.heap.size w (((w).alloc (.cells #[.bool s.al, .slice A s.ac.length c, .slice A2 s.re.length c2] 31)).alloc (.cells #[.bool s.al, .slice A s.ac.length c, .slice A2 s.re.length c2] 31)) from ((Below.refl w.heap.size w).alloc (by first | exact Nat.le_refl _ | omega | (simp; done) | (simp; omega)) _).alloc (by first | exact Nat.le_refl _ | omega | (simp; done) | (simp; omega)) _)
  generalize ((w).alloc (.cells #[.bool s.al, .slice A s.ac.length c, .slice A2 s.re.length c2] 31)).alloc (.cells #[.bool s.al, .slice A s.ac.length c, .slice A2 s.re.length c2] 31) = w11 at *
  have hz11 : w.heap.size ≤ w11.heap.size := HB11.out.size
  go_wp2_with fail
  refine (small_any (some ⟨w.heap.size + 1, 0, none⟩) 1 [s] w11 (blk_sts1 bl (HL1.out.on HB11.out) (HL2.out.on HB11.out)) (by simp) (fun x hx => by rw [List.mem_singleton.1 hx]; exact HW.out)).mono ?_
  rintro e wq ⟨rfl, rfl⟩
  cases hsm : smB [s]
  · clear hsm
    go_wp2_with fail
    refine (awake_any m _ (((HB11.out).cell (p := ⟨0, 0, none⟩) hw0).trans HM.out)).mono ?_
    rintro e w12 ⟨rfl, hb⟩
    have bs : Blk w12 (w.heap.size) 31 #[.bool s.al, .slice A s.ac.length c, .slice A2 s.re.length c2] := (bs).on hb
    have bl : Blk w12 (w.heap.size + 1) 31 #[.bool s.al, .slice A s.ac.length c, .slice A2 s.re.length c2] := (bl).on hb
    have hbz := hb.size
    have HB12 := Lib.hid ((HB11.out).trans (hb.mono (by first | exact Nat.le_refl _ | omega | (simp; done) | (simp; omega))))
    have hz12 : w.heap.size ≤ w12.heap.size := HB12.out.size
    clear hb hbz
    go_wp2_with fail
    go_ret
    exact ⟨rfl, HB12.out⟩
  · have HZ := Lib.hid (small_one hsm)
    clear hsm
    by_cases h5 : text.size ≤ 500
    · have d1 : decide ((500 : Int) < text.size) = false := decide_eq_false (by omega)
      have HT := Lib.hid (show text.size ≤ 100000 by omega)
      have q_bs0 : w11.cell? ⟨w.heap.size, 0, none⟩ = some (.bool s.al) := bs.cell 0
      have q_bs1 : w11.cell? ⟨w.heap.size, 1, none⟩ = some (.slice A s.ac.length c) := bs.cell 1
      have q_bs2 : w11.cell? ⟨w.heap.size, 2, none⟩ = some (.slice A2 s.re.length c2) := bs.cell 2
      go_wp2_with fail
      refine (Format_any s _ _ (HV.out.on HB11.out) HZ.out HCP.out).mono ?_
      rintro e w12 ⟨rfl, hb⟩
      clear q_bs0 q_bs1 q_bs2
      have bs : Blk w12 (w.heap.size) 31 #[.bool s.al, .slice A s.ac.length c, .slice A2 s.re.length c2] := (bs).on hb
      have bl : Blk w12 (w.heap.size + 1) 31 #[.bool s.al, .slice A s.ac.length c, .slice A2 s.re.length c2] := (bl).on hb
      have hbz := hb.size
      have HB12 := Lib.hid ((HB11.out).trans (hb.mono (by first | exact Nat.le_refl _ | omega | (simp; done) | (simp; omega))))
      have hz12 : w.heap.size ≤ w12.heap.size := HB12.out.size
      clear hb hbz
      obtain ⟨⟨x, n⟩, hq⟩ : ∃ q, fmS s = q := ⟨_, rfl⟩
      rw [hq]
      dsimp only [tupF]
      have HQ := Lib.hid hq
      clear hq
      have q_bs0 : w12.cell? ⟨w.heap.size, 0, none⟩ = some (.bool s.al) := bs.cell 0
      have q_bs1 : w12.cell? ⟨w.heap.size, 1, none⟩ = some (.slice A s.ac.length c) := bs.cell 1
      have q_bs2 : w12.cell? ⟨w.heap.size, 2, none⟩ = some (.slice A2 s.re.length c2) := bs.cell 2
      go_wp2_with fail
      refine (rFormat_any s _ _ (HV.out.on HB12.out) HZ.out).mono ?_
      rintro e w13 ⟨rfl, hb⟩
      clear q_bs0 q_bs1 q_bs2
      have bs : Blk w13 (w.heap.size) 31 #[.bool s.al, .slice A s.ac.length c, .slice A2 s.re.length c2] := (bs).on hb
      have bl : Blk w13 (w.heap.size + 1) 31 #[.bool s.al, .slice A s.ac.length c, .slice A2 s.re.length c2] := (bl).on hb
      have hbz := hb.size
      have HB13 := Lib.hid ((HB12.out).trans (hb.mono (by first | exact Nat.le_refl _ | omega | (simp; done) | (simp; omega))))
      have hz13 : w.heap.size ≤ w13.heap.size := HB13.out.size
      clear hb hbz
      rw [HQ.out]
      dsimp only [tupF]
      obtain ⟨⟨st, n2⟩, hq⟩ : ∃ q, parS text = q := ⟨_, rfl⟩
      have HP := Lib.hid hq
      have HZ2 := Lib.hid (show SzSt st by have := par_sz HT.out; rw [hq] at this; exact this)
      clear hq
      have q_bs0 : w13.cell? ⟨w.heap.size, 0, none⟩ = some (.bool s.al) := bs.cell 0
      have q_bs1 : w13.cell? ⟨w.heap.size, 1, none⟩ = some (.slice A s.ac.length c) := bs.cell 1
      have q_bs2 : w13.cell? ⟨w.heap.size, 2, none⟩ = some (.slice A2 s.re.length c2) := bs.cell 2
      go_wp2_with fail
      refine (Parse_lit text st n2 m HP.out _ HT.out (((HB13.out).cell (p := ⟨0, 0, none⟩) hw0).trans HM.out)).mono ?_
      rintro e w14 ⟨⟨B, dB, B2, dB2, rfl, hp1, hp2, -, -⟩, hb⟩
      clear q_bs0 q_bs1 q_bs2
      have bs : Blk w14 (w.heap.size) 31 #[.bool s.al, .slice A s.ac.length c, .slice A2 s.re.length c2] := (bs).on hb
      have bl : Blk w14 (w.heap.size + 1) 31 #[.bool s.al, .slice A s.ac.length c, .slice A2 s.re.length c2] := (bl).on hb
      have hbz := hb.size
      have HB14 := Lib.hid ((HB13.out).trans (hb.mono (by first | exact Nat.le_refl _ | omega | (simp; done) | (simp; omega))))
      have hz14 : w.heap.size ≤ w14.heap.size := HB14.out.size
      clear hb hbz
      have HPB := Lib.hid hp1
      have HPB2 := Lib.hid hp2
      clear hp1 hp2
      have q_bs0 : w14.cell? ⟨w.heap.size, 0, none⟩ = some (.bool s.al) := bs.cell 0
      have q_bs1 : w14.cell? ⟨w.heap.size, 1, none⟩ = some (.slice A s.ac.length c) := bs.cell 1
      have q_bs2 : w14.cell? ⟨w.heap.size, 2, none⟩ = some (.slice A2 s.re.length c2) := bs.cell 2
      go_wp2_with fail
      refine (rParse_lit text st n2 HP.out _ HT.out).mono ?_
      rintro e w15 ⟨⟨C, eC, C2, eC2, rfl, hp1, hp2⟩, hb⟩
      clear q_bs0 q_bs1 q_bs2
      have bs : Blk w15 (w.heap.size) 31 #[.bool s.al, .slice A s.ac.length c, .slice A2 s.re.length c2] := ((bs).alloc _).on hb
      have bl : Blk w15 (w.heap.size + 1) 31 #[.bool s.al, .slice A s.ac.length c, .slice A2 s.re.length c2] := ((bl).alloc _).on hb
      have bp : Blk w15 (w14.heap.size) 31 #[.bool st.al, .slice B st.ac.length dB, .slice B2 st.re.length dB2] := (Blk.new _ _ _).on hb
      have hbz := hb.size
      have HB15 := Lib.hid (((HB14.out).alloc (by first | exact Nat.le_refl _ | omega | (simp; done) | (simp; omega)) _).trans (hb.mono (by first | exact Nat.le_refl _ | omega | (simp; done) | (simp; omega))))
      have hz15 : w.heap.size ≤ w15.heap.size := HB15.out.size
      have HPB := Lib.hid ((HPB.out.on (size_new _ _)).on hb)
      have HPB2 := Lib.hid ((HPB2.out.on (size_new _ _)).on hb)
      clear hb hbz
      have HQB := Lib.hid hp1
      have HQB2 := Lib.hid hp2
      clear hp1 hp2
      go_wp2_with fail
      have bs : Blk ((w15).alloc (.cells #[.bool st.al, .slice C st.ac.length eC, .slice C2 st.re.length eC2] 31)) (w.heap.size) 31 #[.bool s.al, .slice A s.ac.length c, .slice A2 s.re.length c2] := (bs).alloc _
      have bl : Blk ((w15).alloc (.cells #[.bool st.al, .slice C st.ac.length eC, .slice C2 st.re.length eC2] 31)) (w.heap.size + 1) 31 #[.bool s.al, .slice A s.ac.length c, .slice A2 s.re.length c2] := (bl).alloc _
      have bp : Blk ((w15).alloc (.cells #[.bool st.al, .slice C st.ac.length eC, .slice C2 st.re.length eC2] 31)) (w14.heap.size) 31 #[.bool st.al, .slice B st.ac.length dB, .slice B2 st.re.length dB2] := (bp).alloc _
      have bq : Blk ((w15).alloc (.cells #[.bool st.al, .slice C st.ac.length eC, .slice C2 st.re.length eC2] 31)) (w15.heap.size) 31 #[.bool st.al, .slice C st.ac.length eC, .slice C2 st.re.length eC2] := Blk.new _ _ _
      have HB16 := Lib.hid (show Below w.heap.size w ((w15).alloc (.cells #[.bool st.al, .slice C st.ac.length eC, .slice C2 st.re.length eC2] 31)) from (HB15.out).alloc (by first | exact Nat.le_refl _ | omega | (simp; done) | (simp; omega)) _)
      have FB := size_new w15 (.cells #[.bool st.al, .slice C st.ac.length eC, .slice C2 st.re.length eC2] 31)
      generalize (w15).alloc (.cells #[.bool st.al, .slice C st.ac.length eC, .slice C2 st.re.length eC2] 31) = w16 at *
      have hz16 : w.heap.size ≤ w16.heap.size := HB16.out.size
      have HVs := Lib.hid (HV.out.on HB16.out)
      have HVp := Lib.hid (StV.on (s := st) ⟨B, dB, B2, dB2, rfl, HPB.out, HPB2.out⟩ FB)
      have HVq := Lib.hid (StV.on (s := st) ⟨C, eC, C2, eC2, rfl, HQB.out, HQB2.out⟩ FB)
      have HMM := Lib.hid (((HB16.out).cell (p := ⟨0, 0, none⟩) hw0).trans HM.out)
      have q_bs0 : w16.cell? ⟨w.heap.size, 0, none⟩ = some (.bool s.al) := bs.cell 0
      have q_bs1 : w16.cell? ⟨w.heap.size, 1, none⟩ = some (.slice A s.ac.length c) := bs.cell 1
      have q_bs2 : w16.cell? ⟨w.heap.size, 2, none⟩ = some (.slice A2 s.re.length c2) := bs.cell 2
      have q_bp0 : w16.cell? ⟨w14.heap.size, 0, none⟩ = some (.bool st.al) := bp.cell 0
      have q_bp1 : w16.cell? ⟨w14.heap.size, 1, none⟩ = some (.slice B st.ac.length dB) := bp.cell 1
      have q_bp2 : w16.cell? ⟨w14.heap.size, 2, none⟩ = some (.slice B2 st.re.length dB2) := bp.cell 2
      have q_bq0 : w16.cell? ⟨w15.heap.size, 0, none⟩ = some (.bool st.al) := bq.cell 0
      have q_bq1 : w16.cell? ⟨w15.heap.size, 1, none⟩ = some (.slice C st.ac.length eC) := bq.cell 1
      have q_bq2 : w16.cell? ⟨w15.heap.size, 2, none⟩ = some (.slice C2 st.re.length eC2) := bq.cell 2
      go_wp2_with fail
      clear q_bs0 q_bs1 q_bs2 q_bp0 q_bp1 q_bp2 q_bq0 q_bq1 q_bq2
      have r_bs0 := fun d os => cell_regrown (v := .bool s.al) (bs.cell 0) d os
      have r_bs1 := fun d os => cell_regrown (v := .slice A s.ac.length c) (bs.cell 1) d os
      have r_bs2 := fun d os => cell_regrown (v := .slice A2 s.re.length c2) (bs.cell 2) d os
      have r_bp0 := fun d os => cell_regrown (v := .bool st.al) (bp.cell 0) d os
      have r_bp1 := fun d os => cell_regrown (v := .slice B st.ac.length dB) (bp.cell 1) d os
      have r_bp2 := fun d os => cell_regrown (v := .slice B2 st.re.length dB2) (bp.cell 2) d os
      have r_bq0 := fun d os => cell_regrown (v := .bool st.al) (bq.cell 0) d os
      have r_bq1 := fun d os => cell_regrown (v := .slice C st.ac.length eC) (bq.cell 1) d os
      have r_bq2 := fun d os => cell_regrown (v := .slice C2 st.re.length eC2) (bq.cell 2) d os
      refine wp_region_quiet_below (by kernel_rfl) (by kernel_rfl) ?_
      repeat (go_big_quiet_step ((first | (go_at_call 17; exact Check_at s _ _ _ _ HVs.out HZ.out) | (go_at_call 18; exact rCheck_at s _ _ _ _ HVs.out HZ.out) | (go_at_call 19; exact same_at st _ _ _ _ _ HVp.out HVq.out HZ2.out) | (go_at_call 10; exact awake_at m _ _ _ HMM.out))))
      refine wpQuiet_nil ?_
      intro _ hw'
      obtain ⟨⟨dq, osq⟩, hw''⟩ := hw'
      subst hw''
      have hb := below_regrown w16 dq osq
      have bs : Blk (Go.Sort.grow (redrawn w16 dq) osq) (w.heap.size) 31 #[.bool s.al, .slice A s.ac.length c, .slice A2 s.re.length c2] := bs.on hb
      have bl : Blk (Go.Sort.grow (redrawn w16 dq) osq) (w.heap.size + 1) 31 #[.bool s.al, .slice A s.ac.length c, .slice A2 s.re.length c2] := bl.on hb
      have bp : Blk (Go.Sort.grow (redrawn w16 dq) osq) (w14.heap.size) 31 #[.bool st.al, .slice B st.ac.length dB, .slice B2 st.re.length dB2] := bp.on hb
      have bq : Blk (Go.Sort.grow (redrawn w16 dq) osq) (w15.heap.size) 31 #[.bool st.al, .slice C st.ac.length eC, .slice C2 st.re.length eC2] := bq.on hb
      have HB17 := Lib.hid ((HB16.out).trans (hb.mono (by first | exact Nat.le_refl _ | omega | (simp; done) | (simp; omega))))
      clear hb r_bs0 r_bs1 r_bs2 r_bp0 r_bp1 r_bp2 r_bq0 r_bq1 r_bq2
      generalize Go.Sort.grow (redrawn w16 dq) osq = w17 at *
      have hz17 : w.heap.size ≤ w17.heap.size := HB17.out.size
      go_wp2_with fail
      go_ret
      exact ⟨rfl, HB17.out⟩
    · have d1 : decide ((500 : Int) < text.size) = true := decide_eq_true (by omega)
      clear h5
      have q_bs0 : w11.cell? ⟨w.heap.size, 0, none⟩ = some (.bool s.al) := bs.cell 0
      have q_bs1 : w11.cell? ⟨w.heap.size, 1, none⟩ = some (.slice A s.ac.length c) := bs.cell 1
      have q_bs2 : w11.cell? ⟨w.heap.size, 2, none⟩ = some (.slice A2 s.re.length c2) := bs.cell 2
      go_wp2_with fail
      refine (awake_any m _ (((HB11.out).cell (p := ⟨0, 0, none⟩) hw0).trans HM.out)).mono ?_
      rintro e w12 ⟨rfl, hb⟩
      clear q_bs0 q_bs1 q_bs2
      have bs : Blk w12 (w.heap.size) 31 #[.bool s.al, .slice A s.ac.length c, .slice A2 s.re.length c2] := (bs).on hb
      have bl : Blk w12 (w.heap.size + 1) 31 #[.bool s.al, .slice A s.ac.length c, .slice A2 s.re.length c2] := (bl).on hb
      have hbz := hb.size
      have HB12 := Lib.hid ((HB11.out).trans (hb.mono (by first | exact Nat.le_refl _ | omega | (simp; done) | (simp; omega))))
      have hz12 : w.heap.size ≤ w12.heap.size := HB12.out.size
      clear hb hbz
      go_wp2_with fail
      go_ret
      exact ⟨rfl, HB12.out⟩
end Go.Proofs.YtcmlgiilifdnfaaDoor
