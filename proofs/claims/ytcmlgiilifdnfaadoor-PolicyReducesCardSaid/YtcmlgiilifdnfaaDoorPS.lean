/- The reference's Reduce. -/
import Derived.Test.YtcmlgiilifdnfaaDoorPR
namespace Go.Proofs.YtcmlgiilifdnfaaDoor
open Go.RowKit
open Go.Sort (grow)

/-- What Reduce hands back. -/
def PostR (l : List St) (w : World) (e : Ending) (w' : World) : Prop := (∃ p c, e = .returned (.slice p (reduce l).length c) ∧ StsAt w' w'.heap.size p (reduce l)) ∧ Below w.heap.size w w'
theorem postR {l : List St} {w w' : World} {v : Value} {base : Nat} (h : OwnSt w' base v (reduce l)) (hb : Below w.heap.size w w') : PostR l w (.returned v) w' := by
  obtain ⟨p, c, rfl, hs⟩ := h.reads
  exact ⟨⟨p, c, rfl, hs⟩, hb⟩
theorem reads_new (w : World) (cs : List Value) (e : TypeId) (sz n : Nat) (h : cs.length = n * sz) : Reads (w.alloc (.cells cs.toArray e)) (w.alloc (.cells cs.toArray e)).heap.size sz (some ⟨w.heap.size, 0, none⟩) n cs := by
  refine ⟨h, fun _ => ⟨_, 0, rfl, by simp, fun j u hu => ?_⟩⟩
  have := cells_new_at (w := w) (e := e) (cs := cs) rfl j u hu
  rw [Addr.add_lit] at this
  exact this
theorem drop_on {l : List St} {t u : St} {k j : Nat} {f : Bool} (ht : l[k]? = some t) (hu : l[j]? = some u) (hf : (t.ok && !dropB l k j) = f) (h : (decide (j ≠ k) && (u.cv t && (decide (j < k) || !t.cv u))) = false) : (t.ok && !dropB l k (j + 1)) = f := by
  rw [dropB_step, kil_some ht hu, h, Bool.or_false, hf]
theorem drop_off {l : List St} {t u : St} {k j : Nat} (ht : l[k]? = some t) (hu : l[j]? = some u) (h : (decide (j ≠ k) && (u.cv t && (decide (j < k) || !t.cv u))) = true) : (t.ok && !dropB l k (j + 1)) = false := by
  rw [dropB_step, kil_some ht hu, h]; simp
set_option maxHeartbeats 8000000 in
set_option maxRecDepth 100000 in
theorem rReduce_any (A : Option Addr) (c : Nat) (l : List St) (w : World) (hl : StsAt w w.heap.size A l) (hz : SzL l) (hn : l.length ≤ 1000) :
    Calls Tryd.prog 24 #[.slice A l.length c] w (PostR l w) := by
  obtain ⟨i0, ih, iz0, iz1, iz2⟩ := info_parts info_st
  have HL := Lib.hid hl
  have HZ := Lib.hid hz
  clear hl hz
  go_enter Tryd.func24, Tryd.ntmps24
  go_wp2_with fail
  go_loopw [3, 4] (fun v i wr => ∃ k : Nat, k ≤ l.length ∧ i = .int .i64 k ∧ OwnSt wr w.heap.size v (redS l k) ∧ Below w.heap.size w wr) (fun _ i _ => l.length - (intOf i).toNat)
  case atStart => exact ⟨0, Nat.zero_le _, rfl, OwnSt.nil _ _, Below.refl _ _⟩
  case round =>
    obtain ⟨k, hk, rfl, hv, hbr⟩ := hrel
    obtain ⟨v, rfl⟩ : ∃ v : Value, v = u3 := ⟨_, rfl⟩
    have HV := Lib.hid hv
    have HB := Lib.hid hbr
    have hzr : w.heap.size ≤ wr.heap.size := hbr.size
    clear hv hbr
    by_cases hlt : k < l.length
    · obtain ⟨t, ht⟩ : ∃ t, l[k]? = some t := ⟨_, List.getElem?_eq_getElem hlt⟩
      obtain ⟨b, o, P, cp, P2, cp2, rfl, hbl, c0, c1, c2, hst⟩ := (HL.out.keep HB.out).cells ht
      have HT := Lib.hid ht
      have HSV := Lib.hid (hst.more hzr)
      have HS := Lib.hid (HZ.out.2 t (List.mem_of_getElem? ht))
      have hki : (k : Int) < l.length := by omega
      have hk0 : (0 : Int) ≤ k := by omega
      clear ht hst
      go_wp2_with fail
      refine (rCheck_any t _ wr HSV.out HS.out).mono ?_
      rintro e w1 ⟨rfl, hb⟩
      have HB1 := Lib.hid (HB.out.trans (hb.mono hzr))
      have HV1 := Lib.hid (HV.out.on hb)
      have hz1 := HB1.out.size
      clear hb c0 c1 c2 HV
      have hok : decide (t.ck = 0) = t.ok := by rw [← ck_ok]; rfl
      have hok2 : (t.ck == 0) = t.ok := ck_ok t
      go_wp2_with fail
      go_loopw [5, 6] (fun f i wr => ∃ (j : Nat) (g : Bool), j ≤ l.length ∧ i = .int .i64 j ∧ f = .bool g ∧ (t.ok && !dropB l k j) = g ∧ Below w1.heap.size w1 wr) (fun _ i _ => l.length - (intOf i).toNat)
      case atStart => exact ⟨0, t.ok, Nat.zero_le _, rfl, rfl, by rw [dropB_zero]; simp, Below.refl _ _⟩
      case round =>
        obtain ⟨j, f, hj, rfl, rfl, hf, hb2⟩ := hrel
        have HF := Lib.hid hf
        have HB2 := Lib.hid hb2
        have HBW := Lib.hid (HB1.out.trans (hb2.mono hz1))
        have hzr2 : w1.heap.size ≤ wr.heap.size := hb2.size
        clear hf hb2 hok hok2
        by_cases hlt2 : j < l.length
        · obtain ⟨u, hu⟩ : ∃ u, l[j]? = some u := ⟨_, List.getElem?_eq_getElem hlt2⟩
          obtain ⟨b1, o1, Q, cq, Q2, cq2, e1, -, d0, d1, d2, hsu⟩ := (HL.out.keep HBW.out).cells hu
          obtain ⟨rfl, rfl⟩ : b = b1 ∧ o = o1 := by injection e1 with e1; injection e1 with e2 e3; exact ⟨e2, e3⟩
          obtain ⟨b1, o1, P, cp, P2, cp2, e1, -, c0, c1, c2, hst⟩ := (HL.out.keep HBW.out).cells HT.out
          obtain ⟨rfl, rfl⟩ : b = b1 ∧ o = o1 := by injection e1 with e1; injection e1 with e2 e3; exact ⟨e2, e3⟩
          have HSU := Lib.hid (hsu.more HBW.out.size)
          have HST := Lib.hid (hst.more HBW.out.size)
          have HZU := Lib.hid (HZ.out.2 u (List.mem_of_getElem? hu))
          have HU := Lib.hid hu
          have hji : (j : Int) < l.length := by omega
          have hj0 : (0 : Int) ≤ j := by omega
          clear e1 hu hsu hst
          by_cases hjk : j = k
          · have HD := Lib.hid (drop_on HT.out HU.out HF.out (by rw [decide_eq_false (by simpa using hjk)]; rfl))
            have hd0 : ((j : Int) == (k : Int)) = true := by rw [hjk]; simp
            have hd1 : decide ((j : Int) = (k : Int)) = true := by rw [hjk]; simp
            have hd2 : (j : Int) = k := by rw [hjk]
            have hd5 : ((j : Int) != (k : Int)) = false := by rw [hjk]; simp
            clear hjk
            have rc0 := fun d os => cell_regrown c0 d os
            have rc1 := fun d os => cell_regrown c1 d os
            have rc2 := fun d os => cell_regrown c2 d os
            have rd0 := fun d os => cell_regrown d0 d os
            have rd1 := fun d os => cell_regrown d1 d os
            have rd2 := fun d os => cell_regrown d2 d os
            go_wp2_with fail
            refine wp_region_quiet_below (by kernel_rfl) (by kernel_rfl) ?_
            repeat (go_big_quiet_step (fail))
            refine wpQuiet_nil ?_
            intro _ hw'
            obtain ⟨⟨dq, osq⟩, hw''⟩ := hw'
            subst hw''
            have hb := below_regrown wr dq osq
            have HB3 := Lib.hid (HB2.out.trans (hb.mono hzr2))
            clear hb rc0 rc1 rc2 rd0 rd1 rd2 c0 c1 c2 d0 d1 d2
            go_wp2_with fail
            go_roundw
            case rel => exact ⟨j + 1, f, by omega, by go_num, rfl, HD.out, HB3.out⟩
            case measure => simp [intOf]; omega
          · have hdn : decide (j ≠ k) = true := decide_eq_true hjk
            have hd0 : ((j : Int) == (k : Int)) = false := by simp; omega
            have hd2 : ¬ (j : Int) = k := by omega
            have hd1 : decide ((j : Int) = (k : Int)) = false := decide_eq_false hd2
            have hd5 : ((j : Int) != (k : Int)) = true := by simp; omega
            cases hut : u.cv t
            · have HD := Lib.hid (drop_on HT.out HU.out HF.out (by rw [hut]; simp))
              have HC1 := Lib.hid (fun W d os (h1 : StV W W.heap.size (.agg #[.bool u.al, .slice Q u.ac.length cq, .slice Q2 u.re.length cq2]) u) (h2 : StV W W.heap.size (.agg #[.bool t.al, .slice P t.ac.length cp, .slice P2 t.re.length cp2]) t) => show Calls Tryd.prog 21 #[.agg #[.bool u.al, .slice Q u.ac.length cq, .slice Q2 u.re.length cq2], .agg #[.bool t.al, .slice P t.ac.length cp, .slice P2 t.re.length cp2]] (grow (redrawn W d) os) (fun e w' => e = .returned (.bool false) ∧ ∃ p : Regrown, w' = grow (redrawn W p.d) p.os) by have := rCovers_sat u t _ _ W d os h1 HZU.out h2 HS.out; rw [hut] at this; exact this)
              clear hut hjk hdn
              have rc0 := fun d os => cell_regrown c0 d os
              have rc1 := fun d os => cell_regrown c1 d os
              have rc2 := fun d os => cell_regrown c2 d os
              have rd0 := fun d os => cell_regrown d0 d os
              have rd1 := fun d os => cell_regrown d1 d os
              have rd2 := fun d os => cell_regrown d2 d os
              go_wp2_with fail
              refine wp_region_quiet_below (by kernel_rfl) (by kernel_rfl) ?_
              repeat (go_big_quiet_step ((go_at_call 21; (with_reducible exact HC1.out _ _ _ HSU.out HST.out))))
              refine wpQuiet_nil ?_
              intro _ hw'
              obtain ⟨⟨dq, osq⟩, hw''⟩ := hw'
              subst hw''
              have hb := below_regrown wr dq osq
              have HB3 := Lib.hid (HB2.out.trans (hb.mono hzr2))
              clear hb rc0 rc1 rc2 rd0 rd1 rd2 c0 c1 c2 d0 d1 d2
              go_wp2_with fail
              go_roundw
              case rel => exact ⟨j + 1, f, by omega, by go_num, rfl, HD.out, HB3.out⟩
              case measure => simp [intOf]; omega
            · by_cases hjl : j < k
              · have HD := Lib.hid (drop_off HT.out HU.out (by rw [hut, hdn, decide_eq_true hjl]; rfl))
                have HC1 := Lib.hid (fun W d os (h1 : StV W W.heap.size (.agg #[.bool u.al, .slice Q u.ac.length cq, .slice Q2 u.re.length cq2]) u) (h2 : StV W W.heap.size (.agg #[.bool t.al, .slice P t.ac.length cp, .slice P2 t.re.length cp2]) t) => show Calls Tryd.prog 21 #[.agg #[.bool u.al, .slice Q u.ac.length cq, .slice Q2 u.re.length cq2], .agg #[.bool t.al, .slice P t.ac.length cp, .slice P2 t.re.length cp2]] (grow (redrawn W d) os) (fun e w' => e = .returned (.bool true) ∧ ∃ p : Regrown, w' = grow (redrawn W p.d) p.os) by have := rCovers_sat u t _ _ W d os h1 HZU.out h2 HS.out; rw [hut] at this; exact this)
                have hd3 : (j : Int) < k := by omega
                have hd4 : decide ((j : Int) < k) = true := decide_eq_true hd3
                have hd6 : decide (j < k) = true := decide_eq_true hjl
                clear hut hjk hdn hjl
                have rc0 := fun d os => cell_regrown c0 d os
                have rc1 := fun d os => cell_regrown c1 d os
                have rc2 := fun d os => cell_regrown c2 d os
                have rd0 := fun d os => cell_regrown d0 d os
                have rd1 := fun d os => cell_regrown d1 d os
                have rd2 := fun d os => cell_regrown d2 d os
                go_wp2_with fail
                refine wp_region_quiet_below (by kernel_rfl) (by kernel_rfl) ?_
                repeat (go_big_quiet_step ((go_at_call 21; (with_reducible exact HC1.out _ _ _ HSU.out HST.out))))
                refine wpQuiet_nil ?_
                intro _ hw'
                obtain ⟨⟨dq, osq⟩, hw''⟩ := hw'
                subst hw''
                have hb := below_regrown wr dq osq
                have HB3 := Lib.hid (HB2.out.trans (hb.mono hzr2))
                clear hb rc0 rc1 rc2 rd0 rd1 rd2 c0 c1 c2 d0 d1 d2
                go_wp2_with fail
                go_roundw
                case rel => exact ⟨j + 1, false, by omega, by go_num, rfl, HD.out, HB3.out⟩
                case measure => simp [intOf]; omega
              · have hd3 : ¬ (j : Int) < k := by omega
                have hd4 : decide ((j : Int) < k) = false := decide_eq_false hd3
                have hd6 : decide (j < k) = false := decide_eq_false hjl
                cases htu : t.cv u
                · have HD := Lib.hid (drop_off HT.out HU.out (by rw [hut, hdn, htu]; simp))
                  have HC1 := Lib.hid (fun W d os (h1 : StV W W.heap.size (.agg #[.bool u.al, .slice Q u.ac.length cq, .slice Q2 u.re.length cq2]) u) (h2 : StV W W.heap.size (.agg #[.bool t.al, .slice P t.ac.length cp, .slice P2 t.re.length cp2]) t) => show Calls Tryd.prog 21 #[.agg #[.bool u.al, .slice Q u.ac.length cq, .slice Q2 u.re.length cq2], .agg #[.bool t.al, .slice P t.ac.length cp, .slice P2 t.re.length cp2]] (grow (redrawn W d) os) (fun e w' => e = .returned (.bool true) ∧ ∃ p : Regrown, w' = grow (redrawn W p.d) p.os) by have := rCovers_sat u t _ _ W d os h1 HZU.out h2 HS.out; rw [hut] at this; exact this)
                  have HC2 := Lib.hid (fun W d os (h1 : StV W W.heap.size (.agg #[.bool t.al, .slice P t.ac.length cp, .slice P2 t.re.length cp2]) t) (h2 : StV W W.heap.size (.agg #[.bool u.al, .slice Q u.ac.length cq, .slice Q2 u.re.length cq2]) u) => show Calls Tryd.prog 21 #[.agg #[.bool t.al, .slice P t.ac.length cp, .slice P2 t.re.length cp2], .agg #[.bool u.al, .slice Q u.ac.length cq, .slice Q2 u.re.length cq2]] (grow (redrawn W d) os) (fun e w' => e = .returned (.bool false) ∧ ∃ p : Regrown, w' = grow (redrawn W p.d) p.os) by have := rCovers_sat t u _ _ W d os h1 HS.out h2 HZU.out; rw [htu] at this; exact this)
                  clear hut htu hjk hdn hjl
                  have rc0 := fun d os => cell_regrown c0 d os
                  have rc1 := fun d os => cell_regrown c1 d os
                  have rc2 := fun d os => cell_regrown c2 d os
                  have rd0 := fun d os => cell_regrown d0 d os
                  have rd1 := fun d os => cell_regrown d1 d os
                  have rd2 := fun d os => cell_regrown d2 d os
                  go_wp2_with fail
                  refine wp_region_quiet_below (by kernel_rfl) (by kernel_rfl) ?_
                  repeat (go_big_quiet_step ((go_at_call 21; (first | (with_reducible exact HC1.out _ _ _ HSU.out HST.out) | (with_reducible exact HC2.out _ _ _ HST.out HSU.out)))))
                  refine wpQuiet_nil ?_
                  intro _ hw'
                  obtain ⟨⟨dq, osq⟩, hw''⟩ := hw'
                  subst hw''
                  have hb := below_regrown wr dq osq
                  have HB3 := Lib.hid (HB2.out.trans (hb.mono hzr2))
                  clear hb rc0 rc1 rc2 rd0 rd1 rd2 c0 c1 c2 d0 d1 d2
                  go_wp2_with fail
                  go_roundw
                  case rel => exact ⟨j + 1, false, by omega, by go_num, rfl, HD.out, HB3.out⟩
                  case measure => simp [intOf]; omega
                · have HD := Lib.hid (drop_on HT.out HU.out HF.out (by rw [hut, hdn, htu, decide_eq_false hjl]; rfl))
                  have HC1 := Lib.hid (fun W d os (h1 : StV W W.heap.size (.agg #[.bool u.al, .slice Q u.ac.length cq, .slice Q2 u.re.length cq2]) u) (h2 : StV W W.heap.size (.agg #[.bool t.al, .slice P t.ac.length cp, .slice P2 t.re.length cp2]) t) => show Calls Tryd.prog 21 #[.agg #[.bool u.al, .slice Q u.ac.length cq, .slice Q2 u.re.length cq2], .agg #[.bool t.al, .slice P t.ac.length cp, .slice P2 t.re.length cp2]] (grow (redrawn W d) os) (fun e w' => e = .returned (.bool true) ∧ ∃ p : Regrown, w' = grow (redrawn W p.d) p.os) by have := rCovers_sat u t _ _ W d os h1 HZU.out h2 HS.out; rw [hut] at this; exact this)
                  have HC2 := Lib.hid (fun W d os (h1 : StV W W.heap.size (.agg #[.bool t.al, .slice P t.ac.length cp, .slice P2 t.re.length cp2]) t) (h2 : StV W W.heap.size (.agg #[.bool u.al, .slice Q u.ac.length cq, .slice Q2 u.re.length cq2]) u) => show Calls Tryd.prog 21 #[.agg #[.bool t.al, .slice P t.ac.length cp, .slice P2 t.re.length cp2], .agg #[.bool u.al, .slice Q u.ac.length cq, .slice Q2 u.re.length cq2]] (grow (redrawn W d) os) (fun e w' => e = .returned (.bool true) ∧ ∃ p : Regrown, w' = grow (redrawn W p.d) p.os) by have := rCovers_sat t u _ _ W d os h1 HS.out h2 HZU.out; rw [htu] at this; exact this)
                  clear hut htu hjk hdn hjl
                  have rc0 := fun d os => cell_regrown c0 d os
                  have rc1 := fun d os => cell_regrown c1 d os
                  have rc2 := fun d os => cell_regrown c2 d os
                  have rd0 := fun d os => cell_regrown d0 d os
                  have rd1 := fun d os => cell_regrown d1 d os
                  have rd2 := fun d os => cell_regrown d2 d os
                  go_wp2_with fail
                  refine wp_region_quiet_below (by kernel_rfl) (by kernel_rfl) ?_
                  repeat (go_big_quiet_step ((go_at_call 21; (first | (with_reducible exact HC1.out _ _ _ HSU.out HST.out) | (with_reducible exact HC2.out _ _ _ HST.out HSU.out)))))
                  refine wpQuiet_nil ?_
                  intro _ hw'
                  obtain ⟨⟨dq, osq⟩, hw''⟩ := hw'
                  subst hw''
                  have hb := below_regrown wr dq osq
                  have HB3 := Lib.hid (HB2.out.trans (hb.mono hzr2))
                  clear hb rc0 rc1 rc2 rd0 rd1 rd2 c0 c1 c2 d0 d1 d2
                  go_wp2_with fail
                  go_roundw
                  case rel => exact ⟨j + 1, f, by omega, by go_num, rfl, HD.out, HB3.out⟩
                  case measure => simp [intOf]; omega
        · obtain rfl : j = l.length := by omega
          cases f
          · have HD := Lib.hid (red_no HT.out HF.out)
            go_wp2_with fail
            go_roundw
            case rel => exact ⟨k + 1, by omega, by go_num, by rw [HD.out]; exact HV1.out.on HB2.out, HBW.out⟩
            case measure => simp [intOf]; omega
          · have HD := Lib.hid (red_yes HT.out HF.out)
            obtain ⟨b1, o1, P, cp, P2, cp2, e1, -, c0, c1, c2, h3, h4⟩ := (HL.out.keep HBW.out) k t HT.out
            obtain ⟨rfl, rfl⟩ : b = b1 ∧ o = o1 := by injection e1 with e1; injection e1 with e2 e3; exact ⟨e2, e3⟩
            have hbz := HBW.out.size
            obtain ⟨xs, hown, hsh⟩ := (HV1.out.on HB2.out).on (size_new wr (.cells #[.bool t.al, .slice P t.ac.length cp, .slice P2 t.re.length cp2] 31))
            have HO := Lib.hid (And.intro hown hsh)
            have HP1 := Lib.hid (And.intro (StrL.on (w := wr) (l := t.ac) (Reads.more h3 hbz) (size_new wr (.cells #[.bool t.al, .slice P t.ac.length cp, .slice P2 t.re.length cp2] 31))) (show NotIn v P t.ac.length from fun hl ad e hq => by have := StrL.lt h3 hl ad e; have := (hown.lt _ hq).1; omega))
            have HP2 := Lib.hid (And.intro (StrL.on (w := wr) (l := t.re) (Reads.more h4 hbz) (size_new wr (.cells #[.bool t.al, .slice P t.ac.length cp, .slice P2 t.re.length cp2] 31))) (show NotIn v P2 t.re.length from fun hl ad e hq => by have := StrL.lt h4 hl ad e; have := (hown.lt _ hq).1; omega))
            have hlen := redS_len l k
            clear e1 hown hsh h3 h4
            go_wp2_with (at_builtin; go_loud (refine wpList_append_any _ rfl (.tmp 57) (.tmp 62) 22 rfl w.heap.size 31 i0 (.agg #[.bool false, .slice none 0 0, .slice none 0 0]) 3 56 Tryd.underlying22 ih iz0 iz1 iz2 rfl (by decide) _ (redS l k).length xs rfl HO.out.1 _ _ 1 1 [.bool t.al, .slice P t.ac.length cp, .slice P2 t.re.length cp2] rfl (reads_new wr _ _ 3 1 rfl) (by intro u hu; simp at hu; rcases hu with rfl | rfl | rfl <;> rfl) (by simp only [maxLen]; omega) (by omega) (by simp; omega) ?_); intro v' wn hown1 hgr hiff; have HG := Lib.hid (And.intro hown1 (And.intro hgr hiff)); clear hown1 hgr hiff)
            have HLOW := Lib.hid (((HBW.out).alloc hbz _).grown HG.out.2.1 (by simp; omega) (fun q hq => (HO.out.1.lt q hq).1))
            have HF := Lib.hid (OwnSt.push HO.out.2 HG.out.1 HG.out.2.1 HG.out.2.2 HP1.out.1 HP1.out.2 HP2.out.1 HP2.out.2)
            go_wp2_with fail
            go_roundw
            case rel => exact ⟨k + 1, by omega, by go_num, by rw [HD.out]; exact HF.out, HLOW.out⟩
            case measure => simp [intOf]; omega
    · obtain rfl : k = l.length := by omega
      go_wp2_with fail
      go_ret
      exact postR HV.out HB.out
end Go.Proofs.YtcmlgiilifdnfaaDoor
