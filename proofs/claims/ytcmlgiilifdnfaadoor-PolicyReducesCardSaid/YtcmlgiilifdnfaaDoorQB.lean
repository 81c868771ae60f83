/- The walk of the law PolicyBack. -/
import Derived.Test.YtcmlgiilifdnfaaDoorQA
import Derived.Test.YtcmlgiilifdnfaaDoorPF3
namespace Go.Proofs.YtcmlgiilifdnfaaDoor
open Go.RowKit
open Go.Sort (grow)

theorem fm_size {s : St} {t : ByteArray} (h : fmS s = (t, 0)) : t.size ≤ 100000 := by
  unfold fmS at h
  split at h
  · rename_i h0
    injection h with h _
    have h1 := bj_size (ok8_of h0).1.2.1 (ok8_of h0).1.2.2
    have h2 := bj_size (ok8_of h0).2.2.1 (ok8_of h0).2.2.2
    have h3 : (wordL s.al).size ≤ 5 := by cases s.al <;> decide
    rw [← h]
    simp only [ByteArray.size_append]
    have e : (⟨#[32]⟩ : ByteArray).size = 1 := rfl
    omega
  · rename_i h0
    injection h with _ h
    exact absurd h h0
set_option maxHeartbeats 8000000 in
set_option maxRecDepth 100000 in
theorem PolicyBack_any (s : St) (A : Option Addr) (c : Nat) (A2 : Option Addr) (c2 : Nat) (text : ByteArray) (m : Int) (w : World) (hl1 : StrL w w.heap.size A s.ac) (hl2 : StrL w w.heap.size A2 s.re) (hc1 : s.ac.length ≤ c) (hc2 : s.re.length ≤ c2) (hw : SzW s) (ht : text.size ≤ 9223372036854775807) (hm : w.cell? ⟨0, 0, none⟩ = some (.int .i64 m)) :
    Calls Tryd.prog 8 #[.agg #[.bool s.al, .slice A s.ac.length c, .slice A2 s.re.length c2], .string text] w fun e w' => e = .returned (.bool true) ∧ Below w.heap.size w w' := by
  have HL1 := Lib.hid hl1
  have HL2 := Lib.hid hl2
  have HV := Lib.hid (show StV w w.heap.size (.agg #[.bool s.al, .slice A s.ac.length c, .slice A2 s.re.length c2]) s from ⟨A, c, A2, c2, rfl, hl1, hl2⟩)
  have HCP := Lib.hid (show CapV (.agg #[.bool s.al, .slice A s.ac.length c, .slice A2 s.re.length c2]) s from ⟨A, c, A2, c2, rfl, hc1, hc2⟩)
  have HW := Lib.hid hw
  have HM := Lib.hid hm
  have hw0 := block_lt_of_cell hm
  clear hl1 hl2 hc1 hc2 hw hm
  go_enter Tryd.func8, Tryd.ntmps8
  go_wp2_with fail
  have bs : Blk (((w).alloc (.cells #[.bool s.al, .slice A s.ac.length c, .slice A2 s.re.length c2] 31)).alloc (.cells #[.bool s.al, .slice A s.ac.length c, .slice A2 s.re.length c2] 31)) (w.heap.size) 31 #[.bool s.al, .slice A s.ac.length c, .slice A2 s.re.length c2] := (Blk.new _ _ _).alloc _
  have bl : Blk (((w).alloc (.cells #[.bool s.al, .slice A s.ac.length c, .slice A2 s.re.length c2] 31)).alloc (.cells #[.bool s.al, .slice A s.ac.length c, .slice A2 s.re.length c2] 31)) (w.heap.size + 1) 31 #[.bool s.al, .slice A s.ac.length c, .slice A2 s.re.length c2] := Blk.new1 _ _ _ _
  have HB11 := Lib.hid (show Below w.heap.size w (((w).alloc (.cells #[.bool s.al, .slice A s.ac.length c, .slice A2 s.re.length c2] 31)).alloc (.cells #[.bool s.al, .slice A s.ac.length c, .slice A2 s.re.length c2] 31)) from ((Below.refl w.heap.size w).alloc (by first | exact Nat.le_refl _ | omega | (simp; done) | (simp; omega)) _).alloc (by first | exact Nat.le_refl _ | omega | (simp; done) | (simp; omega)) _)
  generalize ((w).alloc (.cells #[.bool s.al, .slice A s.ac.length c, .slice A2 s.re.length c2] 31)).alloc (.cells #[.bool s.al, .slice A s.ac.length c, .slice A2 s.re.length c2] 31) = w11 at *
  have hz11 : w.heap.size ≤ w11.heap.size := HB11.out.size
  go_wp2_with fail
  refine (small_any (some ⟨w.heap.size + 1, 0, none⟩) 1 [s] w11 (blk_sts1 bl (HL1.out.on HB11.out) (HL2.out.on HB11.out)) (by simp) (fun x hx => by rw [List.mem_singleton.1 hx]; exact HW.out)).mono ?_
  rintro e wq ⟨rfl, rfl⟩
  cases hsm : smB [s]
  · clear hsm
    go_wp2_with fail
    refine (awake_any m _ (((HB11.out).cell (p := ⟨0, 0, none⟩) hw0).trans HM.out)).mono ?_
    rintro e w12 ⟨rfl, hb⟩
    have bs : Blk w12 (w.heap.size) 31 #[.bool s.al, .slice A s.ac.length c, .slice A2 s.re.length c2] := (bs).on hb
    have bl : Blk w12 (w.heap.size + 1) 31 #[.bool s.al, .slice A s.ac.length c, .slice A2 s.re.length c2] := (bl).on hb
    have hbz := hb.size
    have HB12 := Lib.hid ((HB11.out).trans (hb.mono (by first | exact Nat.le_refl _ | omega | (simp; done) | (simp; omega))))
    have hz12 : w.heap.size ≤ w12.heap.size := HB12.out.size
    clear hb hbz
    go_wp2_with fail
    go_ret
    exact ⟨rfl, HB12.out⟩
  · have HZ := Lib.hid (small_one hsm)
    clear hsm
    by_cases h5 : text.size ≤ 500
    · have d1 : decide ((500 : Int) < text.size) = false := decide_eq_false (by omega)
      have HT := Lib.hid (show text.size ≤ 100000 by omega)
      have q_bs0 : w11.cell? ⟨w.heap.size, 0, none⟩ = some (.bool s.al) := bs.cell 0
      have q_bs1 : w11.cell? ⟨w.heap.size, 1, none⟩ = some (.slice A s.ac.length c) := bs.cell 1
      have q_bs2 : w11.cell? ⟨w.heap.size, 2, none⟩ = some (.slice A2 s.re.length c2) := bs.cell 2
      go_wp2_with fail
      refine (Format_any s _ _ (HV.out.on HB11.out) HZ.out HCP.out).mono ?_
      rintro e w12 ⟨rfl, hb⟩
      clear q_bs0 q_bs1 q_bs2
      have bs : Blk w12 (w.heap.size) 31 #[.bool s.al, .slice A s.ac.length c, .slice A2 s.re.length c2] := (bs).on hb
      have bl : Blk w12 (w.heap.size + 1) 31 #[.bool s.al, .slice A s.ac.length c, .slice A2 s.re.length c2] := (bl).on hb
      have hbz := hb.size
      have HB12 := Lib.hid ((HB11.out).trans (hb.mono (by first | exact Nat.le_refl _ | omega | (simp; done) | (simp; omega))))
      have hz12 : w.heap.size ≤ w12.heap.size := HB12.out.size
      clear hb hbz
      obtain ⟨⟨x, n⟩, hq⟩ : ∃ q, fmS s = q := ⟨_, rfl⟩
      rw [hq]
      dsimp only [tupF]
      have HQ := Lib.hid hq
      clear hq
      by_cases h0 : n = 0
      · have HF0 := Lib.hid (show fmS s = (x, 0) by rw [HQ.out, h0])
        have HX := Lib.hid (fm_size HF0.out)
        have HPX := Lib.hid (fm_par HF0.out)
        subst h0
        have q_bs0 : w12.cell? ⟨w.heap.size, 0, none⟩ = some (.bool s.al) := bs.cell 0
        have q_bs1 : w12.cell? ⟨w.heap.size, 1, none⟩ = some (.slice A s.ac.length c) := bs.cell 1
        have q_bs2 : w12.cell? ⟨w.heap.size, 2, none⟩ = some (.slice A2 s.re.length c2) := bs.cell 2
        go_wp2_with fail
        refine (Parse_lit x s 0 m HPX.out _ HX.out (((HB12.out).cell (p := ⟨0, 0, none⟩) hw0).trans HM.out)).mono ?_
        rintro e w13 ⟨⟨B5, dB5, Z5, dZ5, rfl, hp1, hp2, hp3, hp4⟩, hb⟩
        clear q_bs0 q_bs1 q_bs2
        have bs : Blk w13 (w.heap.size) 31 #[.bool s.al, .slice A s.ac.length c, .slice A2 s.re.length c2] := (bs).on hb
        have bl : Blk w13 (w.heap.size + 1) 31 #[.bool s.al, .slice A s.ac.length c, .slice A2 s.re.length c2] := (bl).on hb
        have hbz := hb.size
        have HB13 := Lib.hid ((HB12.out).trans (hb.mono (by first | exact Nat.le_refl _ | omega | (simp; done) | (simp; omega))))
        have hz13 : w.heap.size ≤ w13.heap.size := HB13.out.size
        clear hb hbz
        have HP1 := Lib.hid hp1
        have HP2 := Lib.hid hp2
        have HCbp := Lib.hid (show CapV (.agg #[.bool s.al, .slice B5 s.ac.length dB5, .slice Z5 s.re.length dZ5]) s from ⟨B5, dB5, Z5, dZ5, rfl, hp3, hp4⟩)
        clear hp1 hp2 hp3 hp4
        have qq0 : ((w13).alloc (.cells #[.bool s.al, .slice B5 s.ac.length dB5, .slice Z5 s.re.length dZ5] 31)).cell? ⟨w.heap.size, 0, none⟩ = some (.bool s.al) := (bs.alloc _).cell 0
        have qq1 : ((w13).alloc (.cells #[.bool s.al, .slice B5 s.ac.length dB5, .slice Z5 s.re.length dZ5] 31)).cell? ⟨w.heap.size, 1, none⟩ = some (.slice A s.ac.length c) := (bs.alloc _).cell 1
        have qq2 : ((w13).alloc (.cells #[.bool s.al, .slice B5 s.ac.length dB5, .slice Z5 s.re.length dZ5] 31)).cell? ⟨w.heap.size, 2, none⟩ = some (.slice A2 s.re.length c2) := (bs.alloc _).cell 2
        go_wp2_with fail
        clear qq0 qq1 qq2
        have bs : Blk ((w13).alloc (.cells #[.bool s.al, .slice B5 s.ac.length dB5, .slice Z5 s.re.length dZ5] 31)) (w.heap.size) 31 #[.bool s.al, .slice A s.ac.length c, .slice A2 s.re.length c2] := (bs).alloc _
        have bl : Blk ((w13).alloc (.cells #[.bool s.al, .slice B5 s.ac.length dB5, .slice Z5 s.re.length dZ5] 31)) (w.heap.size + 1) 31 #[.bool s.al, .slice A s.ac.length c, .slice A2 s.re.length c2] := (bl).alloc _
        have bp : Blk ((w13).alloc (.cells #[.bool s.al, .slice B5 s.ac.length dB5, .slice Z5 s.re.length dZ5] 31)) (w13.heap.size) 31 #[.bool s.al, .slice B5 s.ac.length dB5, .slice Z5 s.re.length dZ5] := Blk.new _ _ _
        have HB14 := Lib.hid (show Below w.heap.size w ((w13).alloc (.cells #[.bool s.al, .slice B5 s.ac.length dB5, .slice Z5 s.re.length dZ5] 31)) from (HB13.out).alloc (by first | exact Nat.le_refl _ | omega | (simp; done) | (simp; omega)) _)
        have FB := size_new w13 (.cells #[.bool s.al, .slice B5 s.ac.length dB5, .slice Z5 s.re.length dZ5] 31)
        generalize (w13).alloc (.cells #[.bool s.al, .slice B5 s.ac.length dB5, .slice Z5 s.re.length dZ5] 31) = w14 at *
        have hz14 : w.heap.size ≤ w14.heap.size := HB14.out.size
        have HVbp := Lib.hid (StV.on (s := s) ⟨B5, dB5, Z5, dZ5, rfl, HP1.out, HP2.out⟩ FB)
        clear FB HP1 HP2
        have HVs := Lib.hid (HV.out.on HB14.out)
        have q_bs0 : w14.cell? ⟨w.heap.size, 0, none⟩ = some (.bool s.al) := bs.cell 0
        have q_bs1 : w14.cell? ⟨w.heap.size, 1, none⟩ = some (.slice A s.ac.length c) := bs.cell 1
        have q_bs2 : w14.cell? ⟨w.heap.size, 2, none⟩ = some (.slice A2 s.re.length c2) := bs.cell 2
        have q_bp0 : w14.cell? ⟨w13.heap.size, 0, none⟩ = some (.bool s.al) := bp.cell 0
        have q_bp1 : w14.cell? ⟨w13.heap.size, 1, none⟩ = some (.slice B5 s.ac.length dB5) := bp.cell 1
        have q_bp2 : w14.cell? ⟨w13.heap.size, 2, none⟩ = some (.slice Z5 s.re.length dZ5) := bp.cell 2
        go_wp2_with fail
        refine (same_any s s _ _ _ HVbp.out HVs.out rfl HZ.out).mono ?_
        rintro e w15 ⟨rfl, hb⟩
        clear q_bs0 q_bs1 q_bs2 q_bp0 q_bp1 q_bp2
        have bs : Blk w15 (w.heap.size) 31 #[.bool s.al, .slice A s.ac.length c, .slice A2 s.re.length c2] := (bs).on hb
        have bl : Blk w15 (w.heap.size + 1) 31 #[.bool s.al, .slice A s.ac.length c, .slice A2 s.re.length c2] := (bl).on hb
        have bp : Blk w15 (w13.heap.size) 31 #[.bool s.al, .slice B5 s.ac.length dB5, .slice Z5 s.re.length dZ5] := (bp).on hb
        have hbz := hb.size
        have HB15 := Lib.hid ((HB14.out).trans (hb.mono (by first | exact Nat.le_refl _ | omega | (simp; done) | (simp; omega))))
        have hz15 : w.heap.size ≤ w15.heap.size := HB15.out.size
        clear hb hbz
        obtain ⟨⟨st, n2⟩, hq⟩ : ∃ q, parS text = q := ⟨_, rfl⟩
        have HP := Lib.hid hq
        have HZ2 := Lib.hid (show SzSt st by have := par_sz HT.out; rw [hq] at this; exact this)
        clear hq
        have q_bs0 : w15.cell? ⟨w.heap.size, 0, none⟩ = some (.bool s.al) := bs.cell 0
        have q_bs1 : w15.cell? ⟨w.heap.size, 1, none⟩ = some (.slice A s.ac.length c) := bs.cell 1
        have q_bs2 : w15.cell? ⟨w.heap.size, 2, none⟩ = some (.slice A2 s.re.length c2) := bs.cell 2
        go_wp2_with fail
        refine (Parse_lit text st n2 m HP.out _ HT.out (((HB15.out).cell (p := ⟨0, 0, none⟩) hw0).trans HM.out)).mono ?_
        rintro e w16 ⟨⟨B8, dB8, Z8, dZ8, rfl, hp1, hp2, hp3, hp4⟩, hb⟩
        clear q_bs0 q_bs1 q_bs2
        have bs : Blk w16 (w.heap.size) 31 #[.bool s.al, .slice A s.ac.length c, .slice A2 s.re.length c2] := (bs).on hb
        have bl : Blk w16 (w.heap.size + 1) 31 #[.bool s.al, .slice A s.ac.length c, .slice A2 s.re.length c2] := (bl).on hb
        have bp : Blk w16 (w13.heap.size) 31 #[.bool s.al, .slice B5 s.ac.length dB5, .slice Z5 s.re.length dZ5] := (bp).on hb
        have hbz := hb.size
        have HB16 := Lib.hid ((HB15.out).trans (hb.mono (by first | exact Nat.le_refl _ | omega | (simp; done) | (simp; omega))))
        have hz16 : w.heap.size ≤ w16.heap.size := HB16.out.size
        clear hb hbz
        have HP1 := Lib.hid hp1
        have HP2 := Lib.hid hp2
        have HCbq := Lib.hid (show CapV (.agg #[.bool st.al, .slice B8 st.ac.length dB8, .slice Z8 st.re.length dZ8]) st from ⟨B8, dB8, Z8, dZ8, rfl, hp3, hp4⟩)
        clear hp1 hp2 hp3 hp4
        by_cases h2 : n2 = 0
        · have HF := Lib.hid (par_fm (show parS text = (st, 0) by rw [HP.out, h2]))
          subst h2
          have qq0 : ((w16).alloc (.cells #[.bool st.al, .slice B8 st.ac.length dB8, .slice Z8 st.re.length dZ8] 31)).cell? ⟨w.heap.size, 0, none⟩ = some (.bool s.al) := (bs.alloc _).cell 0
          have qq1 : ((w16).alloc (.cells #[.bool st.al, .slice B8 st.ac.length dB8, .slice Z8 st.re.length dZ8] 31)).cell? ⟨w.heap.size, 1, none⟩ = some (.slice A s.ac.length c) := (bs.alloc _).cell 1
          have qq2 : ((w16).alloc (.cells #[.bool st.al, .slice B8 st.ac.length dB8, .slice Z8 st.re.length dZ8] 31)).cell? ⟨w.heap.size, 2, none⟩ = some (.slice A2 s.re.length c2) := (bs.alloc _).cell 2
          go_wp2_with fail
          clear qq0 qq1 qq2
          have bs : Blk ((w16).alloc (.cells #[.bool st.al, .slice B8 st.ac.length dB8, .slice Z8 st.re.length dZ8] 31)) (w.heap.size) 31 #[.bool s.al, .slice A s.ac.length c, .slice A2 s.re.length c2] := (bs).alloc _
          have bl : Blk ((w16).alloc (.cells #[.bool st.al, .slice B8 st.ac.length dB8, .slice Z8 st.re.length dZ8] 31)) (w.heap.size + 1) 31 #[.bool s.al, .slice A s.ac.length c, .slice A2 s.re.length c2] := (bl).alloc _
          have bp : Blk ((w16).alloc (.cells #[.bool st.al, .slice B8 st.ac.length dB8, .slice Z8 st.re.length dZ8] 31)) (w13.heap.size) 31 #[.bool s.al, .slice B5 s.ac.length dB5, .slice Z5 s.re.length dZ5] := (bp).alloc _
          have bq : Blk ((w16).alloc (.cells #[.bool st.al, .slice B8 st.ac.length dB8, .slice Z8 st.re.length dZ8] 31)) (w16.heap.size) 31 #[.bool st.al, .slice B8 st.ac.length dB8, .slice Z8 st.re.length dZ8] := Blk.new _ _ _
          have HB17 := Lib.hid (show Below w.heap.size w ((w16).alloc (.cells #[.bool st.al, .slice B8 st.ac.length dB8, .slice Z8 st.re.length dZ8] 31)) from (HB16.out).alloc (by first | exact Nat.le_refl _ | omega | (simp; done) | (simp; omega)) _)
          have FB := size_new w16 (.cells #[.bool st.al, .slice B8 st.ac.length dB8, .slice Z8 st.re.length dZ8] 31)
          generalize (w16).alloc (.cells #[.bool st.al, .slice B8 st.ac.length dB8, .slice Z8 st.re.length dZ8] 31) = w17 at *
          have hz17 : w.heap.size ≤ w17.heap.size := HB17.out.size
          have HVbq := Lib.hid (StV.on (s := st) ⟨B8, dB8, Z8, dZ8, rfl, HP1.out, HP2.out⟩ FB)
          clear FB HP1 HP2
          go_wp2_with fail
          refine (Format_any st _ _ HVbq.out HZ2.out HCbq.out).mono ?_
          rintro e w18 ⟨rfl, hb⟩
          have bs : Blk w18 (w.heap.size) 31 #[.bool s.al, .slice A s.ac.length c, .slice A2 s.re.length c2] := (bs).on hb
          have bl : Blk w18 (w.heap.size + 1) 31 #[.bool s.al, .slice A s.ac.length c, .slice A2 s.re.length c2] := (bl).on hb
          have bp : Blk w18 (w13.heap.size) 31 #[.bool s.al, .slice B5 s.ac.length dB5, .slice Z5 s.re.length dZ5] := (bp).on hb
          have bq : Blk w18 (w16.heap.size) 31 #[.bool st.al, .slice B8 st.ac.length dB8, .slice Z8 st.re.length dZ8] := (bq).on hb
          have hbz := hb.size
          have HB18 := Lib.hid ((HB17.out).trans (hb.mono (by first | exact Nat.le_refl _ | omega | (simp; done) | (simp; omega))))
          have hz18 : w.heap.size ≤ w18.heap.size := HB18.out.size
          clear hb hbz
          rw [HF.out]
          dsimp only [tupF]
          go_wp2_with fail
          refine (awake_any m _ (((HB18.out).cell (p := ⟨0, 0, none⟩) hw0).trans HM.out)).mono ?_
          rintro e w19 ⟨rfl, hb⟩
          have bs : Blk w19 (w.heap.size) 31 #[.bool s.al, .slice A s.ac.length c, .slice A2 s.re.length c2] := (bs).on hb
          have bl : Blk w19 (w.heap.size + 1) 31 #[.bool s.al, .slice A s.ac.length c, .slice A2 s.re.length c2] := (bl).on hb
          have bp : Blk w19 (w13.heap.size) 31 #[.bool s.al, .slice B5 s.ac.length dB5, .slice Z5 s.re.length dZ5] := (bp).on hb
          have bq : Blk w19 (w16.heap.size) 31 #[.bool st.al, .slice B8 st.ac.length dB8, .slice Z8 st.re.length dZ8] := (bq).on hb
          have hbz := hb.size
          have HB19 := Lib.hid ((HB18.out).trans (hb.mono (by first | exact Nat.le_refl _ | omega | (simp; done) | (simp; omega))))
          have hz19 : w.heap.size ≤ w19.heap.size := HB19.out.size
          clear hb hbz
          go_wp2_with fail
          go_ret
          exact ⟨rfl, HB19.out⟩
        · have h3 : (n2 == 0) = false := beq_eq_false_iff_ne.2 h2
          clear h2
          have qq0 : ((w16).alloc (.cells #[.bool st.al, .slice B8 st.ac.length dB8, .slice Z8 st.re.length dZ8] 31)).cell? ⟨w.heap.size, 0, none⟩ = some (.bool s.al) := (bs.alloc _).cell 0
          have qq1 : ((w16).alloc (.cells #[.bool st.al, .slice B8 st.ac.length dB8, .slice Z8 st.re.length dZ8] 31)).cell? ⟨w.heap.size, 1, none⟩ = some (.slice A s.ac.length c) := (bs.alloc _).cell 1
          have qq2 : ((w16).alloc (.cells #[.bool st.al, .slice B8 st.ac.length dB8, .slice Z8 st.re.length dZ8] 31)).cell? ⟨w.heap.size, 2, none⟩ = some (.slice A2 s.re.length c2) := (bs.alloc _).cell 2
          go_wp2_with fail
          clear qq0 qq1 qq2
          have bs : Blk ((w16).alloc (.cells #[.bool st.al, .slice B8 st.ac.length dB8, .slice Z8 st.re.length dZ8] 31)) (w.heap.size) 31 #[.bool s.al, .slice A s.ac.length c, .slice A2 s.re.length c2] := (bs).alloc _
          have bl : Blk ((w16).alloc (.cells #[.bool st.al, .slice B8 st.ac.length dB8, .slice Z8 st.re.length dZ8] 31)) (w.heap.size + 1) 31 #[.bool s.al, .slice A s.ac.length c, .slice A2 s.re.length c2] := (bl).alloc _
          have bp : Blk ((w16).alloc (.cells #[.bool st.al, .slice B8 st.ac.length dB8, .slice Z8 st.re.length dZ8] 31)) (w13.heap.size) 31 #[.bool s.al, .slice B5 s.ac.length dB5, .slice Z5 s.re.length dZ5] := (bp).alloc _
          have bq : Blk ((w16).alloc (.cells #[.bool st.al, .slice B8 st.ac.length dB8, .slice Z8 st.re.length dZ8] 31)) (w16.heap.size) 31 #[.bool st.al, .slice B8 st.ac.length dB8, .slice Z8 st.re.length dZ8] := Blk.new _ _ _
          have HB17 := Lib.hid (show Below w.heap.size w ((w16).alloc (.cells #[.bool st.al, .slice B8 st.ac.length dB8, .slice Z8 st.re.length dZ8] 31)) from (HB16.out).alloc (by first | exact Nat.le_refl _ | omega | (simp; done) | (simp; omega)) _)
          have FB := size_new w16 (.cells #[.bool st.al, .slice B8 st.ac.length dB8, .slice Z8 st.re.length dZ8] 31)
          generalize (w16).alloc (.cells #[.bool st.al, .slice B8 st.ac.length dB8, .slice Z8 st.re.length dZ8] 31) = w17 at *
          have hz17 : w.heap.size ≤ w17.heap.size := HB17.out.size
          have HVbq := Lib.hid (StV.on (s := st) ⟨B8, dB8, Z8, dZ8, rfl, HP1.out, HP2.out⟩ FB)
          clear FB HP1 HP2
          go_wp2_with fail
          refine (awake_any m _ (((HB17.out).cell (p := ⟨0, 0, none⟩) hw0).trans HM.out)).mono ?_
          rintro e w18 ⟨rfl, hb⟩
          have bs : Blk w18 (w.heap.size) 31 #[.bool s.al, .slice A s.ac.length c, .slice A2 s.re.length c2] := (bs).on hb
          have bl : Blk w18 (w.heap.size + 1) 31 #[.bool s.al, .slice A s.ac.length c, .slice A2 s.re.length c2] := (bl).on hb
          have bp : Blk w18 (w13.heap.size) 31 #[.bool s.al, .slice B5 s.ac.length dB5, .slice Z5 s.re.length dZ5] := (bp).on hb
          have bq : Blk w18 (w16.heap.size) 31 #[.bool st.al, .slice B8 st.ac.length dB8, .slice Z8 st.re.length dZ8] := (bq).on hb
          have hbz := hb.size
          have HB18 := Lib.hid ((HB17.out).trans (hb.mono (by first | exact Nat.le_refl _ | omega | (simp; done) | (simp; omega))))
          have hz18 : w.heap.size ≤ w18.heap.size := HB18.out.size
          clear hb hbz
          go_wp2_with fail
          go_ret
          exact ⟨rfl, HB18.out⟩
      · have h1 : (n == 0) = false := beq_eq_false_iff_ne.2 h0
        clear h0
        obtain ⟨⟨st, n2⟩, hq⟩ : ∃ q, parS text = q := ⟨_, rfl⟩
        have HP := Lib.hid hq
        have HZ2 := Lib.hid (show SzSt st by have := par_sz HT.out; rw [hq] at this; exact this)
        clear hq
        have q_bs0 : w12.cell? ⟨w.heap.size, 0, none⟩ = some (.bool s.al) := bs.cell 0
        have q_bs1 : w12.cell? ⟨w.heap.size, 1, none⟩ = some (.slice A s.ac.length c) := bs.cell 1
        have q_bs2 : w12.cell? ⟨w.heap.size, 2, none⟩ = some (.slice A2 s.re.length c2) := bs.cell 2
        go_wp2_with fail
        refine (Parse_lit text st n2 m HP.out _ HT.out (((HB12.out).cell (p := ⟨0, 0, none⟩) hw0).trans HM.out)).mono ?_
        rintro e w13 ⟨⟨B8, dB8, Z8, dZ8, rfl, hp1, hp2, hp3, hp4⟩, hb⟩
        clear q_bs0 q_bs1 q_bs2
        have bs : Blk w13 (w.heap.size) 31 #[.bool s.al, .slice A s.ac.length c, .slice A2 s.re.length c2] := (bs).on hb
        have bl : Blk w13 (w.heap.size + 1) 31 #[.bool s.al, .slice A s.ac.length c, .slice A2 s.re.length c2] := (bl).on hb
        have hbz := hb.size
        have HB13 := Lib.hid ((HB12.out).trans (hb.mono (by first | exact Nat.le_refl _ | omega | (simp; done) | (simp; omega))))
        have hz13 : w.heap.size ≤ w13.heap.size := HB13.out.size
        clear hb hbz
        have HP1 := Lib.hid hp1
        have HP2 := Lib.hid hp2
        have HCbq := Lib.hid (show CapV (.agg #[.bool st.al, .slice B8 st.ac.length dB8, .slice Z8 st.re.length dZ8]) st from ⟨B8, dB8, Z8, dZ8, rfl, hp3, hp4⟩)
        clear hp1 hp2 hp3 hp4
        by_cases h2 : n2 = 0
        · have HF := Lib.hid (par_fm (show parS text = (st, 0) by rw [HP.out, h2]))
          subst h2
          have qq0 : ((w13).alloc (.cells #[.bool st.al, .slice B8 st.ac.length dB8, .slice Z8 st.re.length dZ8] 31)).cell? ⟨w.heap.size, 0, none⟩ = some (.bool s.al) := (bs.alloc _).cell 0
          have qq1 : ((w13).alloc (.cells #[.bool st.al, .slice B8 st.ac.length dB8, .slice Z8 st.re.length dZ8] 31)).cell? ⟨w.heap.size, 1, none⟩ = some (.slice A s.ac.length c) := (bs.alloc _).cell 1
          have qq2 : ((w13).alloc (.cells #[.bool st.al, .slice B8 st.ac.length dB8, .slice Z8 st.re.length dZ8] 31)).cell? ⟨w.heap.size, 2, none⟩ = some (.slice A2 s.re.length c2) := (bs.alloc _).cell 2
          go_wp2_with fail
          clear qq0 qq1 qq2
          have bs : Blk ((w13).alloc (.cells #[.bool st.al, .slice B8 st.ac.length dB8, .slice Z8 st.re.length dZ8] 31)) (w.heap.size) 31 #[.bool s.al, .slice A s.ac.length c, .slice A2 s.re.length c2] := (bs).alloc _
          have bl : Blk ((w13).alloc (.cells #[.bool st.al, .slice B8 st.ac.length dB8, .slice Z8 st.re.length dZ8] 31)) (w.heap.size + 1) 31 #[.bool s.al, .slice A s.ac.length c, .slice A2 s.re.length c2] := (bl).alloc _
          have bq : Blk ((w13).alloc (.cells #[.bool st.al, .slice B8 st.ac.length dB8, .slice Z8 st.re.length dZ8] 31)) (w13.heap.size) 31 #[.bool st.al, .slice B8 st.ac.length dB8, .slice Z8 st.re.length dZ8] := Blk.new _ _ _
          have HB14 := Lib.hid (show Below w.heap.size w ((w13).alloc (.cells #[.bool st.al, .slice B8 st.ac.length dB8, .slice Z8 st.re.length dZ8] 31)) from (HB13.out).alloc (by first | exact Nat.le_refl _ | omega | (simp; done) | (simp; omega)) _)
          have FB := size_new w13 (.cells #[.bool st.al, .slice B8 st.ac.length dB8, .slice Z8 st.re.length dZ8] 31)
          generalize (w13).alloc (.cells #[.bool st.al, .slice B8 st.ac.length dB8, .slice Z8 st.re.length dZ8] 31) = w14 at *
          have hz14 : w.heap.size ≤ w14.heap.size := HB14.out.size
          have HVbq := Lib.hid (StV.on (s := st) ⟨B8, dB8, Z8, dZ8, rfl, HP1.out, HP2.out⟩ FB)
          clear FB HP1 HP2
          go_wp2_with fail
          refine (Format_any st _ _ HVbq.out HZ2.out HCbq.out).mono ?_
          rintro e w15 ⟨rfl, hb⟩
          have bs : Blk w15 (w.heap.size) 31 #[.bool s.al, .slice A s.ac.length c, .slice A2 s.re.length c2] := (bs).on hb
          have bl : Blk w15 (w.heap.size + 1) 31 #[.bool s.al, .slice A s.ac.length c, .slice A2 s.re.length c2] := (bl).on hb
          have bq : Blk w15 (w13.heap.size) 31 #[.bool st.al, .slice B8 st.ac.length dB8, .slice Z8 st.re.length dZ8] := (bq).on hb
          have hbz := hb.size
          have HB15 := Lib.hid ((HB14.out).trans (hb.mono (by first | exact Nat.le_refl _ | omega | (simp; done) | (simp; omega))))
          have hz15 : w.heap.size ≤ w15.heap.size := HB15.out.size
          clear hb hbz
          rw [HF.out]
          dsimp only [tupF]
          go_wp2_with fail
          refine (awake_any m _ (((HB15.out).cell (p := ⟨0, 0, none⟩) hw0).trans HM.out)).mono ?_
          rintro e w16 ⟨rfl, hb⟩
          have bs : Blk w16 (w.heap.size) 31 #[.bool s.al, .slice A s.ac.length c, .slice A2 s.re.length c2] := (bs).on hb
          have bl : Blk w16 (w.heap.size + 1) 31 #[.bool s.al, .slice A s.ac.length c, .slice A2 s.re.length c2] := (bl).on hb
          have bq : Blk w16 (w13.heap.size) 31 #[.bool st.al, .slice B8 st.ac.length dB8, .slice Z8 st.re.length dZ8] := (bq).on hb
          have hbz := hb.size
          have HB16 := Lib.hid ((HB15.out).trans (hb.mono (by first | exact Nat.le_refl _ | omega | (simp; done) | (simp; omega))))
          have hz16 : w.heap.size ≤ w16.heap.size := HB16.out.size
          clear hb hbz
          go_wp2_with fail
          go_ret
          exact ⟨rfl, HB16.out⟩
        · have h3 : (n2 == 0) = false := beq_eq_false_iff_ne.2 h2
          clear h2
          have qq0 : ((w13).alloc (.cells #[.bool st.al, .slice B8 st.ac.length dB8, .slice Z8 st.re.length dZ8] 31)).cell? ⟨w.heap.size, 0, none⟩ = some (.bool s.al) := (bs.alloc _).cell 0
          have qq1 : ((w13).alloc (.cells #[.bool st.al, .slice B8 st.ac.length dB8, .slice Z8 st.re.length dZ8] 31)).cell? ⟨w.heap.size, 1, none⟩ = some (.slice A s.ac.length c) := (bs.alloc _).cell 1
          have qq2 : ((w13).alloc (.cells #[.bool st.al, .slice B8 st.ac.length dB8, .slice Z8 st.re.length dZ8] 31)).cell? ⟨w.heap.size, 2, none⟩ = some (.slice A2 s.re.length c2) := (bs.alloc _).cell 2
          go_wp2_with fail
          clear qq0 qq1 qq2
          have bs : Blk ((w13).alloc (.cells #[.bool st.al, .slice B8 st.ac.length dB8, .slice Z8 st.re.length dZ8] 31)) (w.heap.size) 31 #[.bool s.al, .slice A s.ac.length c, .slice A2 s.re.length c2] := (bs).alloc _
          have bl : Blk ((w13).alloc (.cells #[.bool st.al, .slice B8 st.ac.length dB8, .slice Z8 st.re.length dZ8] 31)) (w.heap.size + 1) 31 #[.bool s.al, .slice A s.ac.length c, .slice A2 s.re.length c2] := (bl).alloc _
          have bq : Blk ((w13).alloc (.cells #[.bool st.al, .slice B8 st.ac.length dB8, .slice Z8 st.re.length dZ8] 31)) (w13.heap.size) 31 #[.bool st.al, .slice B8 st.ac.length dB8, .slice Z8 st.re.length dZ8] := Blk.new _ _ _
          have HB14 := Lib.hid (show Below w.heap.size w ((w13).alloc (.cells #[.bool st.al, .slice B8 st.ac.length dB8, .slice Z8 st.re.length dZ8] 31)) from (HB13.out).alloc (by first | exact Nat.le_refl _ | omega | (simp; done) | (simp; omega)) _)
          have FB := size_new w13 (.cells #[.bool st.al, .slice B8 st.ac.length dB8, .slice Z8 st.re.length dZ8] 31)
          generalize (w13).alloc (.cells #[.bool st.al, .slice B8 st.ac.length dB8, .slice Z8 st.re.length dZ8] 31) = w14 at *
          have hz14 : w.heap.size ≤ w14.heap.size := HB14.out.size
          have HVbq := Lib.hid (StV.on (s := st) ⟨B8, dB8, Z8, dZ8, rfl, HP1.out, HP2.out⟩ FB)
          clear FB HP1 HP2
          go_wp2_with fail
          refine (awake_any m _ (((HB14.out).cell (p := ⟨0, 0, none⟩) hw0).trans HM.out)).mono ?_
          rintro e w15 ⟨rfl, hb⟩
          have bs : Blk w15 (w.heap.size) 31 #[.bool s.al, .slice A s.ac.length c, .slice A2 s.re.length c2] := (bs).on hb
          have bl : Blk w15 (w.heap.size + 1) 31 #[.bool s.al, .slice A s.ac.length c, .slice A2 s.re.length c2] := (bl).on hb
          have bq : Blk w15 (w13.heap.size) 31 #[.bool st.al, .slice B8 st.ac.length dB8, .slice Z8 st.re.length dZ8] := (bq).on hb
          have hbz := hb.size
          have HB15 := Lib.hid ((HB14.out).trans (hb.mono (by first | exact Nat.le_refl _ | omega | (simp; done) | (simp; omega))))
          have hz15 : w.heap.size ≤ w15.heap.size := HB15.out.size
          clear hb hbz
          go_wp2_with fail
          go_ret
          exact ⟨rfl, HB15.out⟩
    · have d1 : decide ((500 : Int) < text.size) = true := decide_eq_true (by omega)
      clear h5
      have q_bs0 : w11.cell? ⟨w.heap.size, 0, none⟩ = some (.bool s.al) := bs.cell 0
      have q_bs1 : w11.cell? ⟨w.heap.size, 1, none⟩ = some (.slice A s.ac.length c) := bs.cell 1
      have q_bs2 : w11.cell? ⟨w.heap.size, 2, none⟩ = some (.slice A2 s.re.length c2) := bs.cell 2
      go_wp2_with fail
      refine (awake_any m _ (((HB11.out).cell (p := ⟨0, 0, none⟩) hw0).trans HM.out)).mono ?_
      rintro e w12 ⟨rfl, hb⟩
      clear q_bs0 q_bs1 q_bs2
      have bs : Blk w12 (w.heap.size) 31 #[.bool s.al, .slice A s.ac.length c, .slice A2 s.re.length c2] := (bs).on hb
      have bl : Blk w12 (w.heap.size + 1) 31 #[.bool s.al, .slice A s.ac.length c, .slice A2 s.re.length c2] := (bl).on hb
      have hbz := hb.size
      have HB12 := Lib.hid ((HB11.out).trans (hb.mono (by first | exact Nat.le_refl _ | omega | (simp; done) | (simp; omega))))
      have hz12 : w.heap.size ≤ w12.heap.size := HB12.out.size
      clear hb hbz
      go_wp2_with fail
      go_ret
      exact ⟨rfl, HB12.out⟩
end Go.Proofs.YtcmlgiilifdnfaaDoor
