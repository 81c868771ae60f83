/- The walk of the law PolicyKeeps. -/
import Derived.Test.YtcmlgiilifdnfaaDoorQC
namespace Go.Proofs.YtcmlgiilifdnfaaDoor
open Go.RowKit
open Go.Sort (grow)

theorem sts_one {w : World} {B b o : Nat} {l : List St} {k : Nat} {t : St} (h : StsAt w B (some ⟨b, o, none⟩) l) (ht : l[k]? = some t) : StsAt w B (some ⟨b, o + k * 3, none⟩) [t] := by
  intro j s hj
  obtain ⟨rfl, rfl⟩ : j = 0 ∧ t = s := by
    match j, hj with
    | 0, hj => exact ⟨rfl, Option.some.inj hj⟩
    | j + 1, hj => simp at hj
  obtain ⟨b', o', P, c, P2, c2, e, hlt, h0, h1, h2, h3, h4⟩ := h k t ht
  injection e with e
  injection e with e1 e2
  subst e1 e2
  exact ⟨b, o + k * 3, P, c, P2, c2, rfl, hlt, by simpa using h0, by simpa using h1, by simpa using h2, h3, h4⟩
theorem szl_one {l : List St} {k : Nat} {t : St} (h : SzL l) (ht : l[k]? = some t) : SzL [t] := ⟨by simp, fun s hs => by rw [List.mem_singleton.1 hs]; exact h.2 t (List.mem_of_getElem? ht)⟩
theorem Decide1_at (t : St) (a r : ByteArray) (x : Bool) (i : Int) (hd : decS [t] a r = (x, i)) (A : Option Addr) (n c : Nat) (hn : n = 1) (W : World) (d : Nat) (os : Array Obj) (hl : StsAt W W.heap.size A [t]) (hz : SzL [t]) (ha : a.size ≤ 9223372036854775807) (hr : r.size ≤ 9223372036854775807) :
    Calls Tryd.prog 11 #[.slice A n c, .string a, .string r] (grow (redrawn W d) os) fun e w' => e = .returned (.agg #[.bool x, .int .i64 i]) ∧ ∃ p : Regrown, w' = grow (redrawn W p.d) p.os := by
  subst hn
  refine Calls.regrown_of ((Decide_any A c [t] a r _ (hl.on (below_regrown W d os)) hz ha hr).mono ?_)
  rintro e w' ⟨rfl, hb⟩
  rw [hd]
  exact ⟨rfl, hb⟩
theorem Covers_at (a b : St) (x : Bool) (hx : a.cv b = x) (va vb : Value) (W : World) (d : Nat) (os : Array Obj) (hva : StV W W.heap.size va a) (hza : SzSt a) (hvb : StV W W.heap.size vb b) (hzb : SzSt b) :
    Calls Tryd.prog 20 #[va, vb] (grow (redrawn W d) os) fun e w' => e = .returned (.bool x) ∧ ∃ p : Regrown, w' = grow (redrawn W p.d) p.os := by
  subst hx
  exact Calls.regrown_of (Covers_any a b va vb _ (hva.on (below_regrown W d os)) hza (hvb.on (below_regrown W d os)) hzb)
theorem run_field_D0 (W : World) (x : Bool) (y : Int) : (Instr.field 26 (.agg #[.bool x, .int .i64 y]) 0).run Tryd.prog W = .ok (.bool x) W := by
  simp [Instr.field, run_underlying Tryd.underlying26, part, asAgg, Tryd.isAgg4, go_sem]
theorem run_field_D1 (W : World) (x : Bool) (y : Int) : (Instr.field 26 (.agg #[.bool x, .int .i64 y]) 1).run Tryd.prog W = .ok (.int .i64 y) W := by
  simp [Instr.field, run_underlying Tryd.underlying26, part, asAgg, Tryd.isAgg3, go_sem]
attribute [go_sem ↓] run_field_D0 run_field_D1
set_option maxHeartbeats 8000000 in
set_option maxRecDepth 100000 in
theorem PolicyKeeps_any (A : Option Addr) (c : Nat) (l : List St) (a r : ByteArray) (m : Int) (w : World) (hl : StsAt w w.heap.size A l) (hc : l.length ≤ c) (hn : l.length ≤ 9223372036854775807) (hs : ∀ s ∈ l, SzW s) (ha : a.size ≤ 9223372036854775807) (hr : r.size ≤ 9223372036854775807) (hm : w.cell? ⟨0, 0, none⟩ = some (.int .i64 m)) :
    Calls Tryd.prog 7 #[.slice A l.length c, .string a, .string r] w fun e w' => e = .returned (.bool true) ∧ Below w.heap.size w w' := by
  have HL := Lib.hid hl
  have HS := Lib.hid hs
  have HM := Lib.hid hm
  have HA := Lib.hid ha
  have HR := Lib.hid hr
  have hw0 := block_lt_of_cell hm
  clear hl hs hm ha hr
  go_enter Tryd.func7, Tryd.ntmps7
  go_wp2_with fail
  refine (small_any A c l w HL.out hn HS.out).mono ?_
  rintro e wq ⟨rfl, rfl⟩
  cases hsm : smB l
  · clear hsm
    go_wp2_with fail
    refine (awake_any m _ (((Below.refl w.heap.size w).cell (p := ⟨0, 0, none⟩) hw0).trans HM.out)).mono ?_
    rintro e w11 ⟨rfl, hb⟩
    have hbz := hb.size
    have HB11 := Lib.hid ((Below.refl w.heap.size w).trans (hb.mono (by first | exact Nat.le_refl _ | omega | (simp; done) | (simp; omega))))
    have hz11 : w.heap.size ≤ w11.heap.size := HB11.out.size
    clear hb hbz
    go_wp2_with fail
    go_ret
    exact ⟨rfl, HB11.out⟩
  · have HZ := Lib.hid (smB_SzL hsm)
    have HN := Lib.hid (show l.length ≤ 1000 by have := (smB_st hsm).1; omega)
    clear hsm
    by_cases h1 : a.size ≤ 100
    · have d1 : decide ((100 : Int) < a.size) = false := decide_eq_false (by have := HA.out; omega)
      by_cases h2 : r.size ≤ 100
      · have d2 : decide ((100 : Int) < r.size) = false := decide_eq_false (by have := HR.out; omega)
        clear h1 h2
        go_wp2_with fail
        refine (Reduce_lit A c l w HL.out HZ.out HN.out).mono ?_
        rintro e w11 ⟨⟨P3, k3, rfl, hs3⟩, hb⟩
        have hbz := hb.size
        have HB11 := Lib.hid ((Below.refl w.heap.size w).trans (hb.mono (by first | exact Nat.le_refl _ | omega | (simp; done) | (simp; omega))))
        have hz11 : w.heap.size ≤ w11.heap.size := HB11.out.size
        clear hb hbz
        have HR3 := Lib.hid hs3
        clear hs3
        have HZR := Lib.hid (szl_red HZ.out)
        have HNR := Lib.hid (show (reduce l).length ≤ 1000 from Nat.le_trans (red_len l) HN.out)
        go_wp2_with fail
        refine (Decide_any A c l a r _ (HL.out.on HB11.out) HZ.out HA.out HR.out).mono ?_
        rintro e w12 ⟨rfl, hb⟩
        have hbz := hb.size
        have HB12 := Lib.hid ((HB11.out).trans (hb.mono (by first | exact Nat.le_refl _ | omega | (simp; done) | (simp; omega))))
        have hz12 : w.heap.size ≤ w12.heap.size := HB12.out.size
        have HR3 := Lib.hid (HR3.out.on hb)
        clear hb hbz
        obtain ⟨⟨x, i1⟩, hq⟩ : ∃ q, decS l a r = q := ⟨_, rfl⟩
        rw [hq]
        unfold aggD
        dsimp only
        have HQ := Lib.hid hq
        clear hq
        go_wp2_with fail
        refine (Decide_any P3 k3 (reduce l) a r _ HR3.out HZR.out HA.out HR.out).mono ?_
        rintro e w13 ⟨rfl, hb⟩
        have hbz := hb.size
        have HB13 := Lib.hid ((HB12.out).trans (hb.mono (by first | exact Nat.le_refl _ | omega | (simp; done) | (simp; omega))))
        have hz13 : w.heap.size ≤ w13.heap.size := HB13.out.size
        have HR3 := Lib.hid (HR3.out.on hb)
        clear hb hbz
        obtain ⟨⟨y, i2⟩, hq⟩ : ∃ q, decS (reduce l) a r = q := ⟨_, rfl⟩
        rw [hq]
        unfold aggD
        dsimp only
        obtain rfl : y = x := by have h := red_al l a r; rw [hq, HQ.out] at h; exact h
        clear hq
        go_wp2_with fail
        refine (Reduce_lit P3 k3 (reduce l) _ HR3.out HZR.out HNR.out).mono ?_
        rintro e w14 ⟨⟨P4, k4, rfl, hs4⟩, hb⟩
        have hbz := hb.size
        have HB14 := Lib.hid ((HB13.out).trans (hb.mono (by first | exact Nat.le_refl _ | omega | (simp; done) | (simp; omega))))
        have hz14 : w.heap.size ≤ w14.heap.size := HB14.out.size
        have HR3 := Lib.hid (HR3.out.on hb)
        clear hb hbz
        rw [red_red] at hs4 ⊢
        have HR4 := Lib.hid hs4
        clear hs4
        go_wp2_with fail
        refine (list_any P4 k4 (reduce l) P3 k3 (reduce l) _ HR4.out HR3.out rfl HZR.out).mono ?_
        rintro e w15 ⟨rfl, hb⟩
        have hbz := hb.size
        have HB15 := Lib.hid ((HB14.out).trans (hb.mono (by first | exact Nat.le_refl _ | omega | (simp; done) | (simp; omega))))
        have hz15 : w.heap.size ≤ w15.heap.size := HB15.out.size
        clear hb hbz
        have HBO := Lib.hid HB15.out
        clear HR3 HR4 HZR HNR
        go_wp2_with fail
        go_loopw [46] (fun i wr => ∃ k : Nat, k ≤ l.length ∧ i = .int .i64 k ∧ Below w15.heap.size w15 wr) (fun i _ => l.length - (intOf i).toNat)
        case atStart => exact ⟨0, Nat.zero_le _, rfl, Below.refl _ _⟩
        case round =>
          obtain ⟨i, hi, rfl, hbr⟩ := hrel
          have HB := Lib.hid (HBO.out.trans (hbr.mono HBO.out.size))
          have HBI := Lib.hid hbr
          have hzr : w.heap.size ≤ wr.heap.size := HB.out.size
          clear hbr
          by_cases hlt : i < l.length
          · obtain ⟨s, hs⟩ : ∃ s, l[i]? = some s := ⟨_, List.getElem?_eq_getElem hlt⟩
            have HS1 := Lib.hid hs
            have hii : (i : Int) < l.length := by omega
            have hi0 : (0 : Int) ≤ i := by omega
            clear hs
            obtain ⟨wo, rfl⟩ : ∃ wo : World, wo = wr := ⟨_, rfl⟩
            go_wp2_with fail
            go_loopw [51] (fun j wr => ∃ k : Nat, k ≤ l.length ∧ j = .int .i64 k ∧ Below wo.heap.size wo wr) (fun j _ => l.length - (intOf j).toNat)
            case atStart => exact ⟨0, Nat.zero_le _, rfl, Below.refl _ _⟩
            case round =>
              obtain ⟨j, hj, rfl, hbr⟩ := hrel
              have HBW := Lib.hid (HB.out.trans (hbr.mono hzr))
              have HBJ := Lib.hid hbr
              have hzw : w.heap.size ≤ wr.heap.size := HBW.out.size
              clear hbr
              by_cases hlt2 : j < l.length
              · obtain ⟨t, ht⟩ : ∃ t, l[j]? = some t := ⟨_, List.getElem?_eq_getElem hlt2⟩
                have hji : (j : Int) < l.length := by omega
                have hj0 : (0 : Int) ≤ j := by omega
                have HLW := Lib.hid (HL.out.on HBW.out)
                obtain ⟨b, o, P, cp, P2, cp2, rfl, hbl, c0, c1, c2, hv1⟩ := HLW.out.cells HS1.out
                obtain ⟨b1, o1, Q, cq, Q2, cq2, e1, -, f0, f1, f2, hv2⟩ := HLW.out.cells ht
                obtain ⟨rfl, rfl⟩ : b = b1 ∧ o = o1 := by injection e1 with e1; injection e1 with e2 e3; exact ⟨e2, e3⟩
                have HV1 := Lib.hid hv1
                have HV2 := Lib.hid hv2
                have HO1 := Lib.hid (sts_one HLW.out HS1.out)
                have HO2 := Lib.hid (sts_one HLW.out ht)
                have HZ1 := Lib.hid (szl_one HZ.out HS1.out)
                have HZ2 := Lib.hid (szl_one HZ.out ht)
                have HY1 := Lib.hid (HZ1.out.2 s (by simp))
                have HY2 := Lib.hid (HZ2.out.2 t (by simp))
                clear e1 ht hv1 hv2
                have hjc : (j : Int) + 1 ≤ c := by omega
                have hic : (i : Int) + 1 ≤ c := by omega
                obtain ⟨cv, hcv⟩ : ∃ q, s.cv t = q := ⟨_, rfl⟩
                have r0 := fun d os => cell_regrown (v := .bool s.al) c0 d os
                have r1 := fun d os => cell_regrown (v := .slice P s.ac.length cp) c1 d os
                have r2 := fun d os => cell_regrown (v := .slice P2 s.re.length cp2) c2 d os
                have r3 := fun d os => cell_regrown (v := .bool t.al) f0 d os
                have r4 := fun d os => cell_regrown (v := .slice Q t.ac.length cq) f1 d os
                have r5 := fun d os => cell_regrown (v := .slice Q2 t.re.length cq2) f2 d os
                cases cv
                · skip
                  go_wp2_with fail
                  clear c0 c1 c2 f0 f1 f2
                  refine wp_region_quiet_below (by kernel_rfl) (by kernel_rfl) ?_
                  repeat (go_big_quiet_step ((first | (go_at_call 20; exact Covers_at s t _ hcv _ _ _ _ _ HV1.out HY1.out HV2.out HY2.out))))
                  refine wpQuiet_nil ?_
                  intro _ hw'
                  obtain ⟨⟨dq, osq⟩, hw''⟩ := hw'
                  subst hw''
                  have HBE := Lib.hid (HBJ.out.trans ((below_regrown wr dq osq).mono HBJ.out.size))
                  clear r0 r1 r2 r3 r4 r5
                  generalize grow (redrawn wr dq) osq = wn at *
                  go_wp2_with fail
                  go_roundw
                  case rel => exact ⟨j + 1, by omega, by go_num, HBE.out⟩
                  case measure => simp [intOf]; omega
                · cases hmt : t.mt a r
                  · have hd2 : decS [t] a r = (false, -1) := by rw [decS_one, hmt]; rfl
                    go_wp2_with fail
                    clear c0 c1 c2 f0 f1 f2
                    refine wp_region_quiet_below (by kernel_rfl) (by kernel_rfl) ?_
                    repeat (go_big_quiet_step ((first | (go_at_call 20; exact Covers_at s t _ hcv _ _ _ _ _ HV1.out HY1.out HV2.out HY2.out) | (go_at_call 11; exact Decide1_at t a r _ _ hd2 _ _ _ (by omega) _ _ _ HO2.out HZ2.out HA.out HR.out))))
                    refine wpQuiet_nil ?_
                    intro _ hw'
                    obtain ⟨⟨dq, osq⟩, hw''⟩ := hw'
                    subst hw''
                    have HBE := Lib.hid (HBJ.out.trans ((below_regrown wr dq osq).mono HBJ.out.size))
                    clear r0 r1 r2 r3 r4 r5
                    generalize grow (redrawn wr dq) osq = wn at *
                    go_wp2_with fail
                    go_roundw
                    case rel => exact ⟨j + 1, by omega, by go_num, HBE.out⟩
                    case measure => simp [intOf]; omega
                  · have hd2 : decS [t] a r = (t.al, 0) := by rw [decS_one, hmt]; rfl
                    have hd1 : decS [s] a r = (s.al, 0) := by rw [decS_one, St.cv_mt hcv hmt]; rfl
                    go_wp2_with fail
                    clear c0 c1 c2 f0 f1 f2
                    refine wp_region_quiet_below (by kernel_rfl) (by kernel_rfl) ?_
                    repeat (go_big_quiet_step ((first | (go_at_call 20; exact Covers_at s t _ hcv _ _ _ _ _ HV1.out HY1.out HV2.out HY2.out) | (go_at_call 11; first | (with_reducible exact Decide1_at t a r _ _ hd2 _ _ _ (by omega) _ _ _ HO2.out HZ2.out HA.out HR.out) | (with_reducible exact Decide1_at s a r _ _ hd1 _ _ _ (by omega) _ _ _ HO1.out HZ1.out HA.out HR.out)))))
                    refine wpQuiet_nil ?_
                    intro _ hw'
                    obtain ⟨⟨dq, osq⟩, hw''⟩ := hw'
                    subst hw''
                    have HBE := Lib.hid (HBJ.out.trans ((below_regrown wr dq osq).mono HBJ.out.size))
                    clear r0 r1 r2 r3 r4 r5
                    generalize grow (redrawn wr dq) osq = wn at *
                    go_wp2_with fail
                    go_roundw
                    case rel => exact ⟨j + 1, by omega, by go_num, HBE.out⟩
                    case measure => simp [intOf]; omega
              · have hji : ¬ (j : Int) < l.length := by omega
                go_wp2_with fail
                have HBE := Lib.hid (HBI.out.trans (HBJ.out.mono HBI.out.size))
                go_roundw
                case rel => exact ⟨i + 1, by omega, by go_num, HBE.out⟩
                case measure => simp [intOf]; omega
          · have hii : ¬ (i : Int) < l.length := by omega
            go_wp2_with fail
            refine (awake_any m _ (((HB.out).cell (p := ⟨0, 0, none⟩) hw0).trans HM.out)).mono ?_
            rintro e w16 ⟨rfl, hb⟩
            have hbz := hb.size
            have HB16 := Lib.hid ((HB.out).trans (hb.mono (by first | exact Nat.le_refl _ | omega | (simp; done) | (simp; omega))))
            have hz16 : w.heap.size ≤ w16.heap.size := HB16.out.size
            clear hb hbz
            go_wp2_with fail
            go_ret
            exact ⟨rfl, HB16.out⟩
      · have d2 : decide ((100 : Int) < r.size) = true := decide_eq_true (by omega)
        clear h2
        go_wp2_with fail
        refine (awake_any m _ (((Below.refl w.heap.size w).cell (p := ⟨0, 0, none⟩) hw0).trans HM.out)).mono ?_
        rintro e w11 ⟨rfl, hb⟩
        have hbz := hb.size
        have HB11 := Lib.hid ((Below.refl w.heap.size w).trans (hb.mono (by first | exact Nat.le_refl _ | omega | (simp; done) | (simp; omega))))
        have hz11 : w.heap.size ≤ w11.heap.size := HB11.out.size
        clear hb hbz
        go_wp2_with fail
        go_ret
        exact ⟨rfl, HB11.out⟩
    · have d1 : decide ((100 : Int) < a.size) = true := decide_eq_true (by omega)
      clear h1
      go_wp2_with fail
      refine (awake_any m _ (((Below.refl w.heap.size w).cell (p := ⟨0, 0, none⟩) hw0).trans HM.out)).mono ?_
      rintro e w11 ⟨rfl, hb⟩
      have hbz := hb.size
      have HB11 := Lib.hid ((Below.refl w.heap.size w).trans (hb.mono (by first | exact Nat.le_refl _ | omega | (simp; done) | (simp; omega))))
      have hz11 : w.heap.size ≤ w11.heap.size := HB11.out.size
      clear hb hbz
      go_wp2_with fail
      go_ret
      exact ⟨rfl, HB11.out⟩
end Go.Proofs.YtcmlgiilifdnfaaDoor
