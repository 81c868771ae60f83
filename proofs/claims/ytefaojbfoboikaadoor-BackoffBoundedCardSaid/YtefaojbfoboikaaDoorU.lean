/- The walk of the law on bounds. -/
import Derived.Test.YtefaojbfoboikaaDoorT
import Derived.Lib.QuietBelow
import Derived.BigQuiet
namespace Go.Proofs.YtefaojbfoboikaaDoor
open Go.RowKit
open Go.Sort (grow)
theorem Next_at {a b f c m s t n z : Int} {y : Bool} (W : World) (h : nxI a b f c m s t n = (z, y, 0)) (d : Nat) (os : Array Obj) :
    Calls Tryd.prog 20 #[.agg #[.int .i64 a, .int .i64 b, .int .i64 f, .int .i64 c, .int .i64 m], .int .i64 s, .int .i64 t, .int .i64 n] (grow (redrawn W d) os) fun e w' => e = .returned (.tuple #[.int .i64 z, .bool y, .int .i64 0]) ∧ ∃ p : Regrown, w' = grow (redrawn W p.d) p.os :=
  Calls.regrown_of ((Next_any a b f c m s t n _).mono (fun e w' hh => by rw [h] at hh; exact hh))
theorem own_len {w : World} {B : Nat} {u : Value} {l : List Int} (hu : w.ownsRow B 3 1 u l.length (l.map (Value.int .i64))) : ∃ p c, u = .slice p l.length c := by
  rcases hu.2 with ⟨e1, e2⟩ | ⟨g, cap, cur, hv, -⟩
  · exact ⟨none, 0, by rw [e1, e2]⟩
  · exact ⟨_, _, hv⟩
set_option maxHeartbeats 4000000 in
set_option maxRecDepth 100000 in
theorem law_bounded (a b f c m s : Int) (w : World) (hb1 : -9223372036854775808 ≤ a) (hb2 : a ≤ 9223372036854775807) (hX : LaidW w) :
    Calls Tryd.prog 6 #[.agg #[.int .i64 a, .int .i64 b, .int .i64 f, .int .i64 c, .int .i64 m], .int .i64 s] w fun e w' => e = .returned (.bool true) ∧ Below w.heap.size w w' := by
  have HX := Lib.hid hX
  clear hX
  go_enter Tryd.func6, Tryd.ntmps6
  have hb0 : Below w.heap.size w (w.alloc (.cells #[.int .i64 a, .int .i64 b, .int .i64 f, .int .i64 c, .int .i64 m] 23)) := (Below.refl _ _).alloc (Nat.le_refl _) _
  have HB := Lib.hid (Box.new w a b f c m 23)
  have H0 := Lib.hid hb0
  clear hb0
  go_wp2_with fail
  refine (Times_any _ _ _ _ _ _ _).mono ?_
  rintro e w1 ⟨v, rfl, hown, hb⟩
  have K1 := Lib.hid (And.intro (HB.out.below hb (by simp)) (H0.out.trans (hb.mono (by simp))))
  have hz1 : w.heap.size < w1.heap.size := by have := hb.size; simp at this; omega
  clear hb HB H0
  by_cases hin : RP.ok ⟨a, b, f, c, m⟩ = true ∧ 0 ≤ s ∧ s ≤ 1073741824
  · obtain ⟨hok, t1, t2⟩ := hin
    have hT : timI a b f c m s = ((tmS b f c s m (a.toNat - 1)).1, 0) := by unfold timI; rw [if_pos hok, if_pos ⟨t1, t2⟩]
    rw [hT] at hown ⊢
    clear hT
    have HO := Lib.hid hok
    have hbd := (RP.ok_iff _).1 hok
    simp only at hbd
    obtain ⟨a1, a2, b1, b2, f1, f2, c1, c2, m1, m2⟩ := hbd
    have hinv := tm_inv (s := s) b1 f1 c1 m1 (a.toNat - 1)
    have HD := Lib.hid (And.intro (dl_bd b1 f1 c1) (sm_bd b1 f1 c1 c2))
    clear hok b1 b2 f1 f2
    generalize tmS b f c s m (a.toNat - 1) = P at *
    obtain ⟨l, y, gg⟩ := P
    have HV := Lib.hid hinv
    obtain ⟨h1, h2, -, h4, h5, -, -, h8, -⟩ := hinv
    simp only at h1 h2 h4 h5 h8 hown
    have hy := h8 _ _ h5
    obtain ⟨g, cap, rfl, -, -⟩ := own_form hown h1
    have p0 : w1.cell? ⟨g, 0, none⟩ = some (.int .i64 s) := by rw [hown.cellAt 0 (by omega), List.getElem?_map, h4]; rfl
    have p1 : w1.cell? ⟨g, l.length - 1, none⟩ = some (.int .i64 y) := by rw [hown.cellAt (l.length - 1) (by omega), List.getElem?_map, h5]; rfl
    have HW := Lib.hid hown
    clear hown h4 h5 h8
    obtain ⟨q0, q1, q2, q3, q4⟩ := K1.out.1
    have g1 : decide ((l.length : Int) < 1) = false := decide_eq_false (by omega)
    have g2 : decide ((l.length : Int) > a) = false := decide_eq_false (by omega)
    have g3 : decide (y > s + m) = false := decide_eq_false (by omega)
    go_wp2_with fail
    go_quiet (fail)
    have K2 := Lib.hid (And.intro (K1.out.1.below (below_drewN' w1.heap.size w1 nq) hz1) (K1.out.2.trans (below_drewN' w.heap.size w1 nq)))
    have HW2 := Lib.hid (own_below HW.out (below_drewN' w1.heap.size w1 nq))
    have hz2 : w.heap.size < (w1.drewN nq).heap.size := hz1
    clear q0 q1 q2 q3 q4 p0 p1 g1 g2 g3 HW K1
    generalize w1.drewN nq = w2 at *
    obtain ⟨q0, q1, q2, q3, q4⟩ := K2.out.1
    go_wp2_with fail
    go_loopw [7, 8, 9] (fun x t k wr => ∃ (i : Nat) (B : Int), 1 ≤ i ∧ (i : Int) ≤ a ∧ k = .int .i64 i ∧ x = .int .i64 B ∧ B ≤ dl b f c (i - 1) ∧ t = .int .i64 (sm b f c (i - 1)) ∧ Below w2.heap.size w2 wr) (fun _ _ k _ => 20 - (Lib.intOf k).toNat)
    case atStart => exact ⟨1, b, Nat.le_refl _, a1, rfl, rfl, Int.le_refl _, rfl, Below.refl _ _⟩
    case round =>
      obtain ⟨i, B, hi1, hi2, rfl, rfl, hB, rfl, hbw⟩ := hrel
      obtain ⟨d1, d2, d3⟩ := HD.out.1 (i - 1)
      obtain ⟨s1, s2⟩ := HD.out.2 (i - 1)
      rw [show i - 1 + 1 = i by omega] at d3
      have hsm : sm b f c (i - 1 + 1) = sm b f c (i - 1) + dl b f c (i - 1) := rfl
      rw [show i - 1 + 1 = i by omega] at hsm
      have HM := Lib.hid (And.intro hsm d3)
      have KW := Lib.hid (And.intro (K2.out.1.below hbw hz2) (K2.out.2.trans (hbw.mono (Nat.le_of_lt hz2))))
      have hzw : w.heap.size < wr.heap.size := by have := hbw.size; omega
      have HBW := Lib.hid hbw
      clear hsm d3 q0 q1 q2 q3 q4 hbw
      obtain ⟨q0, q1, q2, q3, q4⟩ := KW.out.1
      by_cases hia : (i : Int) < a
      · have hdel : delI a b f c m i = (dl b f c (i - 1), 0) := by
          unfold delI
          rw [if_pos HO.out, if_pos ⟨by omega, hia⟩, Int.toNat_natCast]
        have HE := Lib.hid hdel
        clear hdel
        go_wp2_with fail
        refine (Delay_any _ _ _ _ _ _ _ hb1 hb2).mono ?_
        rintro e w3 ⟨rfl, hb⟩
        rw [HE.out]
        simp only [tup2]
        have K3 := Lib.hid (And.intro (KW.out.1.below hb hzw) (HBW.out.trans (hb.mono HBW.out.size)))
        have hz3 : w.heap.size < w3.heap.size := by have := hb.size; omega
        clear hb q0 q1 q2 q3 q4
        obtain ⟨q0, q1, q2, q3, q4⟩ := K3.out.1
        generalize dl b f c (i - 1) = d at *
        generalize sm b f c (i - 1) = t at *
        go_wp2_with fail
        all_goals try (exfalso; omega)
        go_roundw
        case rel => exact ⟨i + 1, d, by omega, by omega, by go_num, rfl, by rw [Nat.add_sub_cancel]; exact HM.out.2, by rw [Nat.add_sub_cancel, HM.out.1], K3.out.2⟩
        case measure => simp [Lib.intOf]; omega
      · have htot : totI a b f c m = (sm b f c (i - 1), 0) := by
          unfold totI
          rw [if_pos HO.out, show a.toNat - 1 = i - 1 by omega]
        have HE := Lib.hid htot
        clear htot
        go_wp2_with fail
        refine (Total_any _ _ _ _ _ _).mono ?_
        rintro e w3 ⟨rfl, hb⟩
        rw [HE.out]
        simp only [tup2]
        have K3 := Lib.hid (And.intro (KW.out.1.below hb hzw) (HBW.out.trans (hb.mono HBW.out.size)))
        have HW3 := Lib.hid (own_below (own_below HW2.out HBW.out) hb)
        have hz3 : w.heap.size < w3.heap.size := by have := hb.size; omega
        clear hb q0 q1 q2 q3 q4 KW
        generalize sm b f c (i - 1) = t at *
        go_wp2_with fail
        go_loopw [13] (fun k wr => ∃ j : Nat, j ≤ l.length ∧ k = .int .i64 j ∧ Below w3.heap.size w3 wr) (fun k _ => 20 - (Lib.intOf k).toNat)
        case atStart => exact ⟨0, Nat.zero_le _, rfl, Below.refl _ _⟩
        case round =>
          obtain ⟨j, hj, rfl, hbr⟩ := hrel
          have hzr : w.heap.size < wr.heap.size := by have := hbr.size; omega
          have KR := Lib.hid (And.intro (K3.out.1.below hbr hz3) (K2.out.2.trans ((K3.out.2.trans (hbr.mono K3.out.2.size)).mono (Nat.le_of_lt hz2))))
          have hown := own_below HW3.out hbr
          have HBR := Lib.hid hbr
          clear hbr
          by_cases hlt : j < l.length
          · have hxe := List.getElem?_eq_getElem hlt
            generalize l[j] = x at hxe
            have p0 : wr.cell? ⟨g, j, none⟩ = some (.int .i64 x) := by rw [hown.cellAt j (by omega), List.getElem?_map, hxe]; rfl
            by_cases hx2 : x ≤ 1073741824
            · have hnx := nx_at HO.out t1 t2 HV.out hxe hx2
              obtain ⟨q0, q1, q2, q3, q4⟩ := KR.out.1
              have r0 := fun d os => cell_regrown q0 d os
              have r1 := fun d os => cell_regrown q1 d os
              have r2 := fun d os => cell_regrown q2 d os
              have r3 := fun d os => cell_regrown q3 d os
              have r4 := fun d os => cell_regrown q4 d os
              have r5 := fun d os => cell_regrown p0 d os
              have HXE := Lib.hid hxe
              clear hxe
              rcases hnx with ⟨h1, z, hz, hxz, hn⟩ | ⟨h1, hn⟩
              · have pz : wr.cell? ⟨g, j + 1, none⟩ = some (.int .i64 z) := by rw [hown.cellAt (j + 1) (by omega), List.getElem?_map, hz]; rfl
                have HN := Lib.hid hn
                have HOW := Lib.hid (And.intro p0 (And.intro pz hown))
                clear hn hz hown pz
                go_wp2_with fail
                have e1 : IntKind.i64.wrap ((j : Int) + 1) = (j : Int) + 1 := IntWalk.i64_in _ (by omega)
                have i1 : (0 : Int) ≤ j := by omega
                have i2 : (j : Int) < l.length := by omega
                refine wp_region_quiet_below (by kernel_rfl) (by kernel_rfl) ?_
                repeat (go_big_quiet_step ((go_at_call 20; go_must (exact Next_at _ HN.out _ _))))
                refine wpQuiet_nil ?_
                intro _ hw'
                obtain ⟨⟨dq, osq⟩, hw''⟩ := hw'
                subst hw''
                have hbq := below_regrown wr dq osq
                have KQ := Lib.hid (And.intro (KR.out.1.below hbq hzr) (HBR.out.trans (hbq.mono HBR.out.size)))
                have p1 := r5 dq osq
                have p2 := cell_regrown HOW.out.2.1 dq osq
                clear q0 q1 q2 q3 q4 r0 r1 r2 r3 r4 r5 hbq KR e1 HOW p0
                generalize grow (redrawn wr dq) osq = w5 at *
                obtain ⟨q0, q1, q2, q3, q4⟩ := KQ.out.1
                have d1 : decide ((j : Int) < l.length - 1) = true := decide_eq_true (by omega)
                have d2 : decide (z ≤ x) = false := decide_eq_false (by omega)
                go_wp2_with fail
                all_goals try (exfalso; omega)
                go_roundw
                case rel => exact ⟨j + 1, by omega, by go_num, KQ.out.2⟩
                case measure => simp [Lib.intOf]; omega
              · have HN := Lib.hid hn
                have HOW := Lib.hid (And.intro p0 hown)
                clear hn hown
                go_wp2_with fail
                have e1 : IntKind.i64.wrap ((j : Int) + 1) = (j : Int) + 1 := IntWalk.i64_in _ (by omega)
                have i1 : (0 : Int) ≤ j := by omega
                have i2 : (j : Int) < l.length := by omega
                refine wp_region_quiet_below (by kernel_rfl) (by kernel_rfl) ?_
                repeat (go_big_quiet_step ((go_at_call 20; go_must (exact Next_at _ HN.out _ _))))
                refine wpQuiet_nil ?_
                intro _ hw'
                obtain ⟨⟨dq, osq⟩, hw''⟩ := hw'
                subst hw''
                have hbq := below_regrown wr dq osq
                have KQ := Lib.hid (And.intro (KR.out.1.below hbq hzr) (HBR.out.trans (hbq.mono HBR.out.size)))
                have p1 := r5 dq osq
                skip
                clear q0 q1 q2 q3 q4 r0 r1 r2 r3 r4 r5 hbq KR e1 HOW p0
                generalize grow (redrawn wr dq) osq = w5 at *
                obtain ⟨q0, q1, q2, q3, q4⟩ := KQ.out.1
                have d1 : decide ((j : Int) < l.length - 1) = false := decide_eq_false (by omega)
                go_wp2_with fail
                all_goals try (exfalso; omega)
                go_roundw
                case rel => exact ⟨j + 1, by omega, by go_num, KQ.out.2⟩
                case measure => simp [Lib.intOf]; omega
            · clear hown hxe
              go_wp2_with fail
              all_goals try (exfalso; omega)
              refine (awake_any _ (HX.out.below KR.out.2)).mono ?_
              rintro e w5 ⟨rfl, hb⟩
              have K5 := Lib.hid (KR.out.2.trans (hb.mono KR.out.2.size))
              clear hb
              go_wp2_with fail
              go_ret
              exact ⟨rfl, K5.out⟩
          · clear hown
            go_wp2_with fail
            all_goals try (exfalso; omega)
            refine (awake_any _ (HX.out.below KR.out.2)).mono ?_
            rintro e w5 ⟨rfl, hb⟩
            have K5 := Lib.hid (KR.out.2.trans (hb.mono KR.out.2.size))
            clear hb
            go_wp2_with fail
            go_ret
            exact ⟨rfl, K5.out⟩
  · have hT : timI a b f c m s = ([], 2) := by
      unfold timI
      by_cases hok : RP.ok ⟨a, b, f, c, m⟩ = true
      · rw [if_pos hok, if_neg (fun h => hin ⟨hok, h⟩)]
      · rw [if_neg hok]
    rw [hT] at hown ⊢
    obtain ⟨p, cp, rfl⟩ := own_len hown
    clear hT hown hin
    go_wp2_with fail
    refine (awake_any _ (HX.out.below K1.out.2)).mono ?_
    rintro e w4 ⟨rfl, hb⟩
    have K4 := Lib.hid (K1.out.2.trans (hb.mono K1.out.2.size))
    clear hb
    go_wp2_with fail
    go_ret
    exact ⟨rfl, K4.out⟩
end Go.Proofs.YtefaojbfoboikaaDoor
