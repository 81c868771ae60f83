/- BatchCuts returns true whatever its arguments, and its arguments read behind the call as they did. No condition. -/
import Derived.Test.YtfgohjoamifpiaaWK
namespace Go.Proofs.Ytfgohjoamifpiaa
open Go.ChangeShapes Go.WideShapes Go.ChangeAt Go.RowKit
open Go.Sort (grow)

/-- The records of a list of batches. -/
def recsOf (bs : List BatchX) : List RecX := (bs.map (·.l)).flatten
theorem recsOf_snoc (bs : List BatchX) (k : Nat) (h : k < bs.length) : recsOf (bs.take (k + 1)) = recsOf (bs.take k) ++ bs[k].l := by
  unfold recsOf
  rw [List.take_succ_eq_append_getElem h]
  simp only [List.map_append, List.flatten_append, List.map_cons, List.map_nil, List.flatten_cons, List.flatten_nil, List.append_nil]
theorem recsOf_le (bs : List BatchX) (k : Nat) : (recsOf (bs.take k)).length ≤ (recsOf bs).length := by
  have h : recsOf bs = recsOf (bs.take k) ++ recsOf (bs.drop k) := by
    unfold recsOf
    rw [← List.flatten_append, ← List.map_append, List.take_append_drop]
  rw [h, List.length_append]
  omega
structure AllAt (w2 : World) (bs : List BatchX) (k : Nat) (v : Value) (wr : World) : Prop where
  low : Below w2.heap.size w2 wr
  row : wr.ownsRow w2.heap.size 39 10 v (recsOf (bs.take k)).length ((recsOf (bs.take k)).flatMap RecX.cells)
theorem own_shape {w : World} {base : Nat} {v : Value} {n : Nat} {xs : List Value} (h : w.ownsRow base 39 10 v n xs) : ∃ A c, v = .slice A n c := by
  rcases h.2 with ⟨rfl, h0⟩ | ⟨g, cap, cur, rfl, _⟩
  · exact ⟨none, 0, by rw [h0]⟩
  · exact ⟨_, _, rfl⟩

theorem good_at {s c : Int} {bs : List BatchX} (hg : Good s c (bs.map (·.l))) {k : Nat} (hk : k < bs.length) : 0 < bs[k].l.length ∧ (bs[k].l.length : Int) ≤ s ∧ (1 < bs[k].l.length → (sumBody bs[k].l : Int) ≤ c) :=
  hg.1 _ (List.mem_map.2 ⟨_, List.getElem_mem hk, rfl⟩)
theorem good_next {s c : Int} {bs : List BatchX} (hg : Good s c (bs.map (·.l))) {k : Nat} (hk : k + 1 < bs.length) (h0 : 0 < bs[k + 1].l.length) :
    ((bs[k].l.length : Int) < s) → ¬ (sumBody bs[k].l : Int) + (bs[k + 1].l[0].r.body.length : Int) ≤ c := by
  intro h1 h2
  have h3 := hg.2 k bs[k].l bs[k + 1].l (by simp [show k < bs.length by omega]) (by simp [hk]) bs[k + 1].l[0] (by simp [h0])
  have hne := (good_at hg (k := k) (by omega)).1
  have hemp : bs[k].l.isEmpty = false := by cases h : bs[k].l with
    | nil => rw [h] at hne; simp at hne
    | cons x l => rfl
  unfold fitsB at h3
  simp only [hemp, Bool.false_or, Bool.and_eq_false_iff, decide_eq_false_iff_not] at h3
  rcases h3 with h3 | h3
  · exact h3 h1
  · apply h3; simpa using h2
theorem same_sum {l xs : List RecX} (h : xs.map (·.r) = l.map (·.r)) : sumBody xs = sumBody l ∧ xs.length = l.length := by
  refine ⟨?_, by have := congrArg List.length h; simpa using this⟩
  have := congrArg (List.map fun r : Rec => r.body.length) h
  rw [List.map_map, List.map_map] at this
  exact congrArg List.sum this

theorem Bats.at_ {w : World} {b o : Nat} {bs : List BatchX} (h : Bats w (some ⟨b, o, none⟩) bs) {j : Nat} (hj : j < bs.length) : w.cell? ⟨b, o + j, none⟩ = some (.slice bs[j].a bs[j].l.length bs[j].c) := by
  obtain ⟨b', o', e, _, hc⟩ := h.get hj
  injection e with e
  injection e with e1 e2
  subst e1 e2
  exact hc
theorem own_below {w w' : World} {base size n : Nat} {e : TypeId} {v : Value} {xs : List Value} (h : w.ownsRow base e size v n xs) (hb : Below w.heap.size w w') : w'.ownsRow base e size v n xs := by
  have hg : w.grownBy w' none := ⟨hb.os, hb.tape, hb.output, hb.size, fun k hk _ => hb.block k hk⟩
  exact h.kept hg (by cases v.ownBlock <;> simp)

theorem round_facts {w3 : World} {s c : Int} {bs : List BatchX} {b o k : Nat} (hG : Good s c (bs.map (·.l))) (hB : Bats w3 (some ⟨b, o, none⟩) bs) (hk : k < bs.length) (p1 : 0 < bs[k].l.length) :
    decide (0 < k) = false ∨ ∃ (j : Nat) (y : BatchX), decide (0 < k) = true ∧ (k : Int) - 1 = j ∧ j < bs.length ∧ w3.cell? ⟨b, o + j, none⟩ = some (.slice y.a y.l.length y.c) ∧ RecsAt w3 w3.heap.size y.a y.l ∧ y ∈ bs ∧
      (decide ((y.l.length : Int) < s) = false ∨ (decide ((y.l.length : Int) < s) = true ∧ decide ((sumBody y.l : Int) + (bs[k].l[0].r.body.length : Int) ≤ c) = false)) := by
  cases k with
  | zero => exact .inl (by simp)
  | succ j =>
    refine .inr ⟨j, bs[j], decide_eq_true (by omega), by omega, by omega, hB.at_ (by omega), hB.2 _ (List.getElem_mem _), List.getElem_mem _, ?_⟩
    by_cases h5 : (bs[j].l.length : Int) < s
    · exact .inr ⟨decide_eq_true h5, decide_eq_false (good_next hG hk p1 h5)⟩
    · exact .inl (decide_eq_false h5)

set_option maxRecDepth 8000 in
set_option maxHeartbeats 2000000 in
theorem law_cuts (s c n : Int) (A : Option Addr) (ca : Nat) (l : List RecX) (w : World) (hl : RecsAt w w.heap.size A l) (hn : ∀ x ∈ l, x.r.body.length ≤ maxLen) :
    Calls Try.prog 4 #[.agg #[.int .i64 s, .int .i64 c, .int .i64 n], .slice A l.length ca] w fun e w' => e = .returned (.bool true) ∧ Below w.heap.size w w' := by
  obtain ⟨i1, hi1, hy0, hy1, hy2⟩ := info_parts info39
  go_enter Try.func4, Try.ntmps4
  go_wp2_with fail
  have d0 : (w.alloc (.cells #[.int .i64 s, .int .i64 c, .int .i64 n] 23)).cell? ⟨w.heap.size, 0, none⟩ = some (.int .i64 s) := by go_simp
  have d1 : (w.alloc (.cells #[.int .i64 s, .int .i64 c, .int .i64 n] 23)).cell? ⟨w.heap.size, 1, none⟩ = some (.int .i64 c) := by go_simp
  have d2 : (w.alloc (.cells #[.int .i64 s, .int .i64 c, .int .i64 n] 23)).cell? ⟨w.heap.size, 2, none⟩ = some (.int .i64 n) := by go_simp
  have hlow : Below w.heap.size w (w.alloc (.cells #[.int .i64 s, .int .i64 c, .int .i64 n] 23)) := (Below.refl _ _).alloc (Nat.le_refl _) _
  have hz : w.heap.size < (w.alloc (.cells #[.int .i64 s, .int .i64 c, .int .i64 n] 23)).heap.size := by simp
  generalize hW : World.alloc w _ = W at *
  clear hW
  have hlW : RecsAt W W.heap.size A l := (hl.below hlow).more (by omega)
  clear hl
  refine (small_any l A ca W hlW hn).mono ?_
  rintro e w' ⟨rfl, rfl⟩
  cases hs : smallB l
  · clear hs
    go_wp2_with fail
    refine (awake_any _).mono ?_
    rintro e w1 ⟨rfl, hb⟩
    go_wp2_with fail
    go_ret
    exact ⟨rfl, hlow.trans (hb.mono (by omega))⟩
  · obtain ⟨hsum, hlen⟩ := small_bd hs
    clear hs
    go_wp2_with fail
    cases hp : Pol.bad ⟨s, c, n⟩
    · by_cases h256 : 256 < l.length
      · refine (Cut_lim s c n A ca l W (good_E _ hp) h256).mono ?_
        rintro e w1 ⟨rfl, hb1⟩
        go_wp2_with fail
        refine (awake_any _).mono ?_
        rintro e w2 ⟨rfl, hb⟩
        go_wp2_with fail
        go_ret
        exact ⟨rfl, hlow.trans ((hb1.mono (by omega)).trans (hb.mono (by have := hb1.size; omega)))⟩
      · refine (Cut_ok s c n A ca l W (good_E _ hp) hlW (by omega) (by omega)).mono ?_
        rintro e w2 ⟨v, bs, xs, rfl, hout, hbs, hxs, hbody, hw⟩
        obtain ⟨A', c', rfl⟩ := hout.shape
        have hflat : recsOf bs = xs := by unfold recsOf; rw [hbs, cutS_flatten]
        obtain ⟨hxb, hxl⟩ := same_sum hxs
        have hpl := parts_le (l := xs) (bs := bs) (by rw [show (bs.map (·.l)).flatten = xs from hflat])
        have hB : Bats w2 A' bs := Bats.of_out hout fun b hb x hx => hbody x (by
          rw [← hflat]
          exact List.mem_flatten.2 ⟨b.l, List.mem_map.2 ⟨b, hb, rfl⟩, hx⟩)
        have hs1 : 1 ≤ s := by
          unfold Pol.bad at hp
          simp at hp
          omega
        have hG : Good s c (bs.map (·.l)) := hbs ▸ cutS_good hs1 xs
        have hnb : bs.length ≤ 1000000 := by
          have := hout.len_le
          rw [show (bs.map (·.l)).flatten = xs from hflat] at this
          omega
        have hz2 : w.heap.size < w2.heap.size := by have := hw.size; omega
        have e0 : w2.cell? ⟨w.heap.size, 0, none⟩ = some (.int .i64 s) := (hw.cell (p := ⟨_, _, _⟩) hz).trans d0
        have e1 : w2.cell? ⟨w.heap.size, 1, none⟩ = some (.int .i64 c) := (hw.cell (p := ⟨_, _, _⟩) hz).trans d1
        have hl2 : RecsAt w2 w2.heap.size A l := (hlW.below hw).more hw.size
        have HL := Lib.hid (hlow.trans (hw.mono (by omega)))
        have HB := Lib.hid hB
        have HG := Lib.hid hG
        have HX := Lib.hid hxs
        have HF := Lib.hid hflat
        have HP := Lib.hid hpl
        have HY := Lib.hid hbody
        have HL2 := Lib.hid hl2
        have hxq : xs.length ≤ 300 := by omega
        have hxr : sumBody xs ≤ 30000 := by omega
        clear d0 d1 d2 hbs hxs hflat hpl hbody hout hB hG hlW hl2 hxb hxl hs1 hw
        go_wp2_with fail
        go_loopw [7, 8, 29] (fun v _ i wr => ∃ (k : Nat) (vv : Value), k ≤ bs.length ∧ i = .int .i64 k ∧ vv = v ∧ AllAt w2 bs k vv wr) (fun _ _ i _ => bs.length - (intOf i).toNat)
        case atStart => exact ⟨0, _, Nat.zero_le _, rfl, rfl, ⟨Below.refl _ _, World.ownsRow_nil _ _ _ _⟩⟩
        case round =>
          obtain ⟨k, v, hk, rfl, rfl, hbr, hrow⟩ := hrel
          have hzr := hbr.size
          have hzw : w.heap.size < wr.heap.size := by omega
          have f0 : wr.cell? ⟨w.heap.size, 0, none⟩ = some (.int .i64 s) := (hbr.cell (p := ⟨_, _, _⟩) hz2).trans e0
          have f1 : wr.cell? ⟨w.heap.size, 1, none⟩ = some (.int .i64 c) := (hbr.cell (p := ⟨_, _, _⟩) hz2).trans e1
          have hBr := HB.out.below hbr
          obtain ⟨A7, c7, rfl⟩ := own_shape hrow
          have hrl := recsOf_le bs k
          rw [HF.out] at hrl
          clear e0 e1
          by_cases hlt : k < bs.length
          · have hltI : (k : Int) < bs.length := by omega
            obtain ⟨p1, p2, p3⟩ := good_at HG.out hlt
            obtain ⟨b, o, rfl, hbl2, hx⟩ := HB.out.get hlt
            clear hx
            have c0 := hBr.at_ hlt
            have hbl : b < wr.heap.size := by omega
            have r0 := hBr.2 _ (List.getElem_mem hlt)
            have q0 := HP.out _ (List.getElem_mem hlt)
            have q1 : sumBody bs[k].l ≤ 30000 := by omega
            have q2 : bs[k].l.length ≤ 300 := by omega
            have q3 : bs[k].l[0].r.body.length ≤ 30000 := by
              have := sumBody_snoc bs[k].l 0 p1
              have := sumBody_le bs[k].l (0 + 1)
              omega
            obtain ⟨b0, o0, hA0, hb0, t0⟩ := r0.ten p1
            have c9' := cell_at t0.c9 (show o0 + 0 * 10 + 9 = o0 + 3 + 6 by omega)
            rw [hA0] at c0 r0
            have R0 := Lib.hid r0
            clear r0 hA0 t0
            have g1 : ((bs[k].l.length : Int) == 0) = false := beq_eq_false_iff_ne.2 (by omega)
            have g2 : decide ((bs[k].l.length : Int) > s) = false := by simp; omega
            have y0 := HG.out
            have z1 : (decide ((bs[k].l.length : Int) > 1) = true ∧ decide ((sumBody bs[k].l : Int) > c) = false) ∨ decide ((bs[k].l.length : Int) > 1) = false := by
              by_cases h1 : 1 < bs[k].l.length
              · have := p3 h1
                exact .inl ⟨decide_eq_true (by omega), decide_eq_false (by omega)⟩
              · exact .inr (decide_eq_false (by omega))
            clear p3
            rcases z1 with ⟨g3, g4⟩ | g3
            all_goals
              go_wp2_with fail
              go_quiet ((go_at_call 15; exact Calls.quiet_of_same (weight_any _ bs[k].c bs[k].l _ ((R0.out.below (World.below_drewN' _ _ _)).more (by simp)) (by omega) (by omega))))
              try clear g4
              clear g1 g2 g3
              have hd := World.below_drewN' wr.heap.size wr nq
              have hbr3 := hbr.trans (hd.mono hzr)
              have hrow3 := own_below hrow hd
              have hBr3 := hBr.below hd
              have v0 : (wr.drewN nq).cell? ⟨w.heap.size, 0, none⟩ = some (.int .i64 s) := (hd.cell (p := ⟨_, _, _⟩) hzw).trans f0
              have v1 : (wr.drewN nq).cell? ⟨w.heap.size, 1, none⟩ = some (.int .i64 c) := (hd.cell (p := ⟨_, _, _⟩) hzw).trans f1
              have R1 : Hid (RecsAt (wr.drewN nq) (wr.drewN nq).heap.size (some ⟨b0, o0, none⟩) bs[k].l) := (R0.out.below hd).more hd.size
              have x0 := (hd.cell (p := ⟨_, _, _⟩) hbl).trans c0
              have x9 : (wr.drewN nq).cell? ⟨b0, o0 + 3 + 6, none⟩ = _ := (hd.cell (p := ⟨_, _, _⟩) hb0).trans c9'
              have hzw3 : w.heap.size < (wr.drewN nq).heap.size := Nat.lt_of_lt_of_le hzw hd.size
              have hbl' : b < w2.heap.size := hbl2
              generalize wr.drewN nq = w3 at *
              clear hd hbr hrow hBr f0 f1 R0 c0 c9' hzw hzr hbl hb0
              have z2 := round_facts HG.out hBr3 hlt p1
              rcases z2 with g5 | ⟨j, y, g5, hjI, hjn, cj, rj, hym, g6 | ⟨g6, g7⟩⟩
              all_goals
                try
                  have RJ := Lib.hid rj
                  have qj := HP.out _ hym
                  have qj1 : sumBody y.l ≤ 30000 := by omega
                  have qj2 : y.l.length ≤ 300 := by omega
                  clear rj hym qj
                go_wp2_with fail
                go_quiet ((go_at_call 15; exact Calls.quiet_of_same (weight_any _ _ _ _ ((RJ.out.below (World.below_drewN' _ _ _)).more (by simp)) (by omega) (by omega))))
                clear g5
                try clear g6
                try clear g7
                try clear hjI cj
                have hd := World.below_drewN' w3.heap.size w3 nq
                have hz3 := hbr3.size
                have hbr4 := hbr3.trans (hd.mono hz3)
                have hrow4 := own_below hrow3 hd
                have R4 : Hid (RecsAt (w3.drewN nq) (w3.drewN nq).heap.size (some ⟨b0, o0, none⟩) bs[k].l) := (R1.out.below hd).more hd.size
                have hz4 := hbr4.size
                have x4 := (hd.cell (p := ⟨b, o + k, none⟩) (Nat.lt_of_lt_of_le hbl' hz3)).trans x0
                generalize w3.drewN nq = w4 at *
                clear hd hbr3 hrow3 hBr3 v0 v1 R1 x0 x9 hzw3 hz3 y0 q0
                have hm : (recsOf (bs.take k)).length + bs[k].l.length ≤ 600 := by omega
                go_wp2_with (at_builtin; go_must (refine wpList_append_any _ rfl (.tmp 100) (.tmp 104) 24 rfl w2.heap.size 39 i1 _ 10 136 Try.underlying24 hi1 hy0 hy1 hy2 rfl (by decide) (.slice A7 _ c7) _ _ rfl hrow4 w4.heap.size (some ⟨b0, o0, none⟩) bs[k].l.length bs[k].c _ rfl R4.out.1 (fun u hu => by obtain ⟨x, _, hu⟩ := List.mem_flatMap.1 hu; exact RecX.oneCell x u hu) (Nat.le_trans hm (by decide)) (by omega) hz4 ?_); intro v' w5 hown hgr hbk; clear hbk; have HO := Lib.hid hown; have HR := Lib.hid (show Below w2.heap.size w2 w5 from hbr4.grown hgr hz4 (fun k hk => (hrow4.lt k hk).1)); clear hown hgr)
                go_roundw
                case rel => exact ⟨k + 1, v', by omega, by go_num, rfl, ⟨HR.out, by rw [recsOf_snoc bs k hlt, List.length_append, List.flatMap_append]; exact HO.out⟩⟩
                case measure => simp [intOf]; omega
          · obtain rfl : k = bs.length := by omega
            rw [List.take_length, HF.out] at hrow
            rw [List.take_length, HF.out]
            have HA : Hid (RecsAt wr wr.heap.size A7 xs) := ⟨Reads.of_own hrow, fun x hx => Reads.more (Reads.below (HY.out x hx) hbr) hzr⟩
            have HB2 : Hid (RecsAt wr wr.heap.size A l) := (HL2.out.below hbr).more hzr
            clear f0 f1 hBr hrow
            go_wp2_with fail
            refine (Same_any xs l A7 A c7 ca wr HA.out HB2.out HX.out (by omega) (by omega)).mono ?_
            rintro e w5 ⟨rfl, hb5⟩
            go_wp2_with fail
            refine (awake_any _).mono ?_
            rintro e w6 ⟨rfl, hb6⟩
            go_wp2_with fail
            go_ret
            have hz5 := hb5.size
            exact ⟨rfl, HL.out.trans ((hbr.mono (by omega)).trans ((hb5.mono (by omega)).trans (hb6.mono (by omega))))⟩
    · refine (Cut_bad s c n A ca l W (bad_E _ hp)).mono ?_
      rintro e w1 ⟨rfl, hb1⟩
      go_wp2_with fail
      refine (awake_any _).mono ?_
      rintro e w2 ⟨rfl, hb⟩
      go_wp2_with fail
      go_ret
      exact ⟨rfl, hlow.trans ((hb1.mono (by omega)).trans (hb.mono (by have := hb1.size; omega)))⟩

set_option maxRecDepth 100000 in
theorem batchCuts_lifted (os : Os) (started : os.Started) (H : Type) (enc : TypeId × Value → H) :
    ReturnsInHanded {} Try.checked os 4 .any (Rows.batchCutsSpec.pre6 enc Try.prog Try.f4 Rows.batchCutsRow.domain false) (Rows.batchCutsSpec.post enc Try.prog Try.f4 false true false false) := by
  refine returnsInHanded_of_change (C := Try.checked) Try.own started (by kernel_rfl) Try.func4
    (ChangeSpec.witness6 (enc := enc) (C := Try.checked) false ⟨#[], #[.agg #[.int .i64 0, .int .i64 0, .int .i64 0], .slice none 0 0], []⟩ 8 (by kernel_rfl) (by kernel_rfl) (by kernel_rfl) (by kernel_rfl)) ?_
  intro W base args ds gs before hval0 hW _ _
  have hval : ∀ (j : Nat) t v, Try.f4.params[j]? = some t → args[j]? = some v → Value.okWide Try.prog W .any base t v := hval0
  have hW' := hW
  obtain ⟨p, q, hA0, hV, rfl, hfz, hnd⟩ := hW
  have hA : DataW.TrodAll enc Try.prog W 0 (fun _ => true) true Try.f4.params.toList args.toList ds p := hA0
  have hA2 := hA
  rw [Try.params4] at hA hval
  obtain ⟨v0, v1, d0, d1, p0, p1, rfl, rfl, rfl, h0, h1⟩ := trodAll_two hA
  obtain ⟨rfl, rfl⟩ := trodVars_none hV
  obtain ⟨s, c, n, rfl⟩ := open_pol (hval 0 23 v0 rfl rfl) h0
  obtain ⟨A, ca, l, rfl, hl, hb, _⟩ := open_recs (okWide_slice Try.underlying24 (hval 1 24 v1 rfl rfl)) h1
  clear hA0 hval0
  simp only [List.append_nil] at hW'
  refine (law_cuts s c n A ca l W hl hb).mono fun e W' ⟨he, hw⟩ => ?_
  subst he
  refine ⟨_, rfl, _, _, _, [], p0 ++ p1, [], hW', trodAll_mk1 (shut_bool Try.underlying4 true), ?_, rfl, hw.frame _, fun h => by cases h⟩
  refine below_trodAll hw _ _ _ _ ?_ (fun x hx => by simpa using hW'.lt x hx) hA2
  rw [Try.params4]
  intro t ht
  simp only [List.mem_cons, List.not_mem_nil, or_false] at ht
  rcases ht with rfl | rfl
  · exact ⟨by kernel_rfl, of_decide_eq_true (by kernel_rfl)⟩
  · exact ⟨by kernel_rfl, of_decide_eq_true (by kernel_rfl)⟩

theorem batchCuts_holds : Rows.BatchCutsSaid :=
  OpenClaim.holds_of_wide 4 Try.f4 rfl rfl rfl rfl rfl rfl rfl ⟨rfl, rfl, rfl, rfl, rfl⟩ rfl rfl rfl rfl rfl (by kernel_rfl) Try.func4 (by kernel_rfl)
    (of_decide_eq_true (by kernel_rfl)) (by unfold Func.isWrapper; first | (rw [if_pos (by decide +kernel)]; kernel_rfl) | (rw [if_neg (by decide +kernel)]; exact ⟨rfl, rfl⟩))
    (fun os started H enc _ => batchCuts_lifted os started H enc)
#print axioms batchCuts_holds
end Go.Proofs.Ytfgohjoamifpiaa
