/- look: the walk over a value. -/
import Derived.Test.YtbofclohnmojmaaGreatDoorY2
import Derived.Deep.DeepAppendWide
namespace Go.Proofs.YtbofclohnmojmaaGreatDoor
open Go.RowKit
open Go.Sort (grow)
attribute [local go_sem ↓] run_buildO
set_option maxHeartbeats 16000000 in
set_option maxRecDepth 20000 in
theorem look_any (A : Option Addr) (cp : Nat) (l : List Cel) (w : World) (hl : CelL w w.heap.size A l) (hok : ∀ c ∈ l, okC c) (hln : l.length ≤ 3518437208780) (hX : LaidW w) :
    Calls Tryz.prog 88 #[.slice A l.length cp] w (LkPost w (lkS IntKind.i64.wrap l.length l 0 [] ⟨0, 0, false, false⟩)) := by
  obtain ⟨N, hN⟩ : ∃ N, l.length = N := ⟨_, rfl⟩
  have HL := Lib.hid hl
  have HK := Lib.hid hok
  have HX := Lib.hid hX
  have HN := Lib.hid hN
  rw [hN] at hln ⊢
  obtain ⟨R, hR⟩ : ∃ R, lkS IntKind.i64.wrap N l 0 [] ⟨0, 0, false, false⟩ = R := ⟨_, rfl⟩
  have HR := Lib.hid hR
  rw [hR]
  clear hl hok hX hN hR
  go_enter Tryz.func88, Tryz.ntmps88
  go_wp2_with fail
  go_step3
  go_wp2_with fail
  go_step3
  go_wp2_with fail
  go_loopw [6, 13] (fun v6 v13 wr => ∃ (k : Nat) (st : List Opn) (s : Shp), v13 = .int .i64 k ∧ k ≤ N ∧ lkS IntKind.i64.wrap N (l.drop k) k st s = R ∧ OwnO wr (w.heap.size + 2) v6 st ∧ okS st ∧ st.length ≤ k ∧ Blk wr w.heap.size 122 #[.int .i64 0, .int .i64 0, .bool false, .bool false] ∧ Blk wr (w.heap.size + 1) 122 s.arr ∧ Below w.heap.size w wr ∧ True ∧ (0 ≤ s.d ∧ s.d ≤ (k : Int) + 1)) (fun _ v13 _ => N - (intOf v13).toNat)
  case atStart => exact ⟨0, [], ⟨0, 0, false, false⟩, rfl, Nat.zero_le _, HR.out, OwnO.nil _ _, (fun o ho => absurd ho (by simp)), Nat.le_refl _, (Blk.new w _ _).alloc _, Blk.new1 w _ _ _, ((Below.refl _ _).alloc (Nat.le_refl _) _).alloc (by simp) _, by simp, by simp⟩
  case round =>
    obtain ⟨k, st, s, rfl, hk, hlk, hown, hst, hsk, br, bs, hb, hsb, hsd⟩ := hrel
    have HLK := Lib.hid hlk
    have HV := Lib.hid hown
    have HST := Lib.hid hst
    have HB := Lib.hid hb
    have hzr : w.heap.size + 2 ≤ wr.heap.size := by have := bs.lt; omega
    have HSB := Lib.hid hsb
    have HSD := Lib.hid hsd
    have HSK := Lib.hid hsk
    clear hlk hown hst hb hsb hsd hsk
    by_cases hlt : k < N
    · obtain ⟨c, hc⟩ : ∃ c, l[k]? = some c := ⟨_, List.getElem?_eq_getElem (by rw [HN.out]; exact hlt)⟩
      have hokc := HK.out c (List.mem_of_getElem? hc)
      rw [drop_cons hc] at HLK
      obtain ⟨b, o, rfl, -, c0, c1, c2, c3⟩ := (HL.out.keep HB.out).cell hc
      have hki : (k : Int) < (N : Int) := by omega
      have hk0 : (0 : Int) ≤ k := by omega
      have hss := hokc.2.2
      have HOK := Lib.hid hokc
      clear hc hokc
      obtain ⟨P0, cp0, rfl⟩ := own_slice HV.out
      go_wp2_with fail
      refine (plain_any c.k c.i c.s c.n _ (by omega)).mono ?_
      rintro e w1 ⟨rfl, hb⟩
      have bc : Blk w1 wr.heap.size 94 #[.int .i64 c.k, .int .i64 c.i, .string c.s, .int .i64 c.n] := (Blk.new wr _ _).on hb
      have hb1 : Below wr.heap.size wr w1 := (al_new wr _).trans (hb.mono (by simp))
      have br : Blk w1 w.heap.size 122 #[.int .i64 0, .int .i64 0, .bool false, .bool false] := br.on hb1
      have bs : Blk w1 (w.heap.size + 1) 122 s.arr := bs.on hb1
      have HV_ := HV
      have HV := Lib.hid (HV.out.on hb1)
      have HB1 := Lib.hid (HB.out.trans (hb1.mono (by omega)))
      have hz1 : w.heap.size + 2 ≤ w1.heap.size := by have := hb1.size; omega
      have hgc : wr.heap.size < w1.heap.size := bc.lt
      have HV0 := HV_
      generalize hG : wr.heap.size = G at *
      have HG := Lib.hid hG
      clear hb hb1 c0 c1 c2 c3 hG
      cases hp : plI c.k c.i c.s c.n with
      | false =>
        have HE := Lib.hid (show R = none by rw [← HLK.out]; exact lk_bad hp)
        clear hp
        as_aux_lemma =>
          have q_br0 : w1.cell? ⟨w.heap.size, 0, none⟩ = some (.int .i64 0) := br.cell 0
          have f_br0 : w1.frozen? ⟨w.heap.size, 0, none⟩ = false := br.frozen 0
          have q_br1 : w1.cell? ⟨w.heap.size, 1, none⟩ = some (.int .i64 0) := br.cell 1
          have f_br1 : w1.frozen? ⟨w.heap.size, 1, none⟩ = false := br.frozen 1
          have q_br2 : w1.cell? ⟨w.heap.size, 2, none⟩ = some (.bool false) := br.cell 2
          have f_br2 : w1.frozen? ⟨w.heap.size, 2, none⟩ = false := br.frozen 2
          have q_br3 : w1.cell? ⟨w.heap.size, 3, none⟩ = some (.bool false) := br.cell 3
          have f_br3 : w1.frozen? ⟨w.heap.size, 3, none⟩ = false := br.frozen 3
          have q_bs0 : w1.cell? ⟨w.heap.size + 1, 0, none⟩ = some (.int .i64 s.d) := bs.cell 0
          have q_bs1 : w1.cell? ⟨w.heap.size + 1, 1, none⟩ = some (.int .i64 s.b) := bs.cell 1
          have q_bs2 : w1.cell? ⟨w.heap.size + 1, 2, none⟩ = some (.bool s.o) := bs.cell 2
          have q_bs3 : w1.cell? ⟨w.heap.size + 1, 3, none⟩ = some (.bool s.l) := bs.cell 3
          go_wp2_with fail
          go_region
          go_wp2_with fail
          rw [HE.out]
          refine (show bodyPost Tryz.prog _ _ Exit.ret _ _ from bodyPost_ret (v := .tuple #[.int .i64 0, .agg #[.int .i64 s.d, .int .i64 s.b, .bool s.o, .bool s.l], .bool false]) (by simp [results, Tryz.results88, go_sem, q_br0, q_br1, q_br2, q_br3]) rfl ⟨?_, s, rfl⟩)
          exact below_set4 (HB1.out.drew) (Nat.le_refl _) _ _ _ _
      | true =>
        have HP := Lib.hid (show c.pl = true from hp)
        clear hp
        go_upto_region 9 with fail
        go_cut [6, 9, 33] from 14 to 150 (fun v6 v9 v wx => v6 = .slice P0 st.length cp0 ∧ v9 = .int .i64 st.length ∧ v = .bool (keyB st) ∧ wx = w1)
        case first =>
          as_aux_lemma =>
            cases st with
            | nil =>
              simp only [List.length_nil]
              go_wp2_with fail
              go_meet
              exact ⟨rfl, rfl, rfl, rfl⟩
            | cons o r =>
              obtain ⟨g, cc, e, hg, hcc, hcm, hgl, ⟨q0, q1, q2, q3, q4⟩, hf⟩ := HV.out.top
              injection e with e1 e2 e3
              subst e1 e3
              obtain ⟨M, hM⟩ : ∃ M, M = r.length := ⟨_, rfl⟩
              simp only [List.length_cons]
              rw [← hM] at q2 hcc ⊢
              have hMb : M ≤ 3518437208780 := by have hsk := HSK.out; simp at hsk; omega
              have HM := Lib.hid hM
              have hMi : (M : Int) < (M : Int) + 1 := by omega
              have hM0 : (0 : Int) ≤ M := by omega
              have t1 : (0 : Int) < (M : Int) + 1 := by omega
              obtain ⟨wN2, wN⟩ := w64n (m := M) (by omega)
              clear hM q0 q1 q3 q4 hf
              go_wp2_with fail
              go_meet
              exact ⟨by rw [HM.out]; rfl, by rw [HM.out]; rfl, rfl, rfl⟩
        obtain ⟨rfl, rfl, rfl, hwc⟩ := hcut
        obtain rfl : w1 = wc := hwc.symm
        cases hkb : keyB st with
        | true =>
          as_aux_lemma =>
            obtain ⟨oo, r, rfl, hoo⟩ := key_cons hkb
            clear hkb
            obtain ⟨g, cc, e, hg, hcc, hcm, hgl, ⟨q0, q1, q2, q3, q4⟩, hf⟩ := HV.out.top
            have hGg : G ≠ g := by
              obtain ⟨g', cc', e', -, -, -, hgl', -⟩ := HV0.out.top
              rw [e] at e'
              injection e' with e' _ _
              injection e' with e'
              injection e' with e'
              rw [HG.out, ← e'] at hgl'
              omega
            injection e with e1 e2 e3
            subst e1 e3
            obtain ⟨M, hM⟩ : ∃ M, M = r.length := ⟨_, rfl⟩
            simp only [List.length_cons] at HSK HV ⊢
            rw [← hM] at q0 q1 q2 q3 q4 hcc HSK HV ⊢
            have HM := Lib.hid hM
            have HF := Lib.hid hf
            have f2 := hf (M * 5 + 2)
            have f3 := hf (M * 5 + 3)
            have f4 := hf (M * 5 + 4)
            have hMb : M ≤ 3518437208780 := by have := HSK.out; omega
            have hMi : (M : Int) < (M : Int) + 1 := by omega
            have hM0 : (0 : Int) ≤ M := by omega
            obtain ⟨wN2, wN⟩ := w64n (m := M) (by omega)
            have HCC := Lib.hid hcc
            clear hM hf hcc
            have q_bc0 : w1.cell? ⟨G, 0, none⟩ = some (.int .i64 c.k) := bc.cell 0
            have q_bc1 : w1.cell? ⟨G, 1, none⟩ = some (.int .i64 c.i) := bc.cell 1
            have q_bc2 : w1.cell? ⟨G, 2, none⟩ = some (.string c.s) := bc.cell 2
            have q_bc3 : w1.cell? ⟨G, 3, none⟩ = some (.int .i64 c.n) := bc.cell 3
            go_upto_region 11 with fail
            go_cut [55] from 14 to 150 (fun v wx => v = .bool (badK c oo) ∧ wx = w1.drew)
            case first =>
              as_aux_lemma =>
                by_cases hk4 : c.k = 4
                · have d4 : (c.k != 4) = false := by simp [hk4]
                  cases hst2 : oo.st with
                  | false =>
                    rw [hst2] at q4
                    have HE := Lib.hid (show false = badK c oo by unfold badK; rw [hst2]; simp [hk4])
                    clear hst2 hk4
                    go_wp2_with fail
                    go_region
                    go_wp2_with fail
                    go_meet
                    exact ⟨by rw [← HE.out], rfl⟩
                  | true =>
                    rw [hst2] at q4
                    cases hle : leB c.s oo.la with
                    | false =>
                      have HE := Lib.hid (show false = badK c oo by unfold badK; rw [hst2, hle]; simp [hk4])
                      have d5 : (Op.bytesLess c.s.toList oo.la.toList || c.s.toList == oo.la.toList) = false := hle
                      clear hst2 hk4 hle
                      go_wp2_with fail
                      go_region
                      go_wp2_with fail
                      go_meet
                      exact ⟨by rw [← HE.out], rfl⟩
                    | true =>
                      have HE := Lib.hid (show true = badK c oo by unfold badK; rw [hst2, hle]; simp)
                      have d5 : (Op.bytesLess c.s.toList oo.la.toList || c.s.toList == oo.la.toList) = true := hle
                      clear hst2 hk4 hle
                      go_wp2_with fail
                      go_region
                      go_wp2_with fail
                      go_meet
                      exact ⟨by rw [← HE.out], rfl⟩
                · have d4 : (c.k != 4) = true := by simp [hk4]
                  have HE := Lib.hid (show true = badK c oo by unfold badK; simp [hk4])
                  clear hk4
                  go_wp2_with fail
                  go_region
                  go_wp2_with fail
                  go_meet
                  exact ⟨by rw [← HE.out], rfl⟩
            obtain ⟨rfl, rfl⟩ := hcut
            clear wN wN2
            have br : Blk w1.drew w.heap.size 122 #[.int .i64 0, .int .i64 0, .bool false, .bool false] := br
            have bs : Blk w1.drew (w.heap.size + 1) 122 #[.int .i64 s.d, .int .i64 s.b, .bool s.o, .bool s.l] := bs
            have bc : Blk w1.drew G 94 #[.int .i64 c.k, .int .i64 c.i, .string c.s, .int .i64 c.n] := bc
            have HV := Lib.hid (HV.out.on (w' := w1.drew) (Below.refl _ _).drew)
            have HB2 := Lib.hid (HB1.out.drew)
            have q2 : w1.drew.cell? ⟨g, M * 5 + 2, none⟩ = _ := q2
            have q3 : w1.drew.cell? ⟨g, M * 5 + 3, none⟩ = _ := q3
            have q4 : w1.drew.cell? ⟨g, M * 5 + 4, none⟩ = _ := q4
            have f2 : w1.drew.frozen? ⟨g, M * 5 + 2, none⟩ = _ := f2
            have f3 : w1.drew.frozen? ⟨g, M * 5 + 3, none⟩ = _ := f3
            have f4 : w1.drew.frozen? ⟨g, M * 5 + 4, none⟩ = _ := f4
            have hgl : g < w1.drew.heap.size := hgl
            have hz2 : w.heap.size + 2 ≤ w1.drew.heap.size := hz1
            clear q_bc0 q_bc1 q_bc2 q_bc3 q0 q1
            generalize w1.drew = w2 at *
            cases hbk : badK c oo with
            | true =>
              have HE := Lib.hid (show R = none by rw [← HLK.out]; exact lk_key0 HP.out hoo ((badK_iff c oo).1 hbk))
              clear hbk q2 q3 q4 f2 f3 f4
              as_aux_lemma =>
                have q_br0 : w2.cell? ⟨w.heap.size, 0, none⟩ = some (.int .i64 0) := br.cell 0
                have f_br0 : w2.frozen? ⟨w.heap.size, 0, none⟩ = false := br.frozen 0
                have q_br1 : w2.cell? ⟨w.heap.size, 1, none⟩ = some (.int .i64 0) := br.cell 1
                have f_br1 : w2.frozen? ⟨w.heap.size, 1, none⟩ = false := br.frozen 1
                have q_br2 : w2.cell? ⟨w.heap.size, 2, none⟩ = some (.bool false) := br.cell 2
                have f_br2 : w2.frozen? ⟨w.heap.size, 2, none⟩ = false := br.frozen 2
                have q_br3 : w2.cell? ⟨w.heap.size, 3, none⟩ = some (.bool false) := br.cell 3
                have f_br3 : w2.frozen? ⟨w.heap.size, 3, none⟩ = false := br.frozen 3
                have q_bs0 : w2.cell? ⟨w.heap.size + 1, 0, none⟩ = some (.int .i64 s.d) := bs.cell 0
                have q_bs1 : w2.cell? ⟨w.heap.size + 1, 1, none⟩ = some (.int .i64 s.b) := bs.cell 1
                have q_bs2 : w2.cell? ⟨w.heap.size + 1, 2, none⟩ = some (.bool s.o) := bs.cell 2
                have q_bs3 : w2.cell? ⟨w.heap.size + 1, 3, none⟩ = some (.bool s.l) := bs.cell 3
                go_wp2_with fail
                go_region
                go_wp2_with fail
                rw [HE.out]
                refine (show bodyPost Tryz.prog _ _ Exit.ret _ _ from bodyPost_ret (v := .tuple #[.int .i64 0, .agg #[.int .i64 s.d, .int .i64 s.b, .bool s.o, .bool s.l], .bool false]) (by simp [results, Tryz.results88, go_sem, q_br0, q_br1, q_br2, q_br3]) rfl ⟨?_, s, rfl⟩)
                exact below_set4 (HB2.out.drew) (Nat.le_refl _) _ _ _ _
            | false =>
              have HE := Lib.hid (show lkS IntKind.i64.wrap N (l.drop (k + 1)) (k + 1) ({ oo with la := c.s, st := true, k := false } :: r) (keyS IntKind.i64.wrap c s) = R by rw [← HLK.out]; exact (lk_key HP.out hoo (fun h => by rw [(badK_iff c oo).2 h] at hbk; cases hbk)).symm)
              clear hbk
              have q_bc2 := bc.cell 2
              go_upto_region 14 with fail
              have FIN : OwnO (((w2.setCell ⟨g, M * 5 + 3, none⟩ (.string c.s)).setCell ⟨g, M * 5 + 4, none⟩ (.bool true)).setCell ⟨g, M * 5 + 2, none⟩ (.bool false)) (w.heap.size + 2) (.slice (some ⟨g, 0, none⟩) (M + 1) cp0) ({ oo with la := c.s, st := true, k := false } :: r) ∧ Below (w.heap.size + 2) w2 (((w2.setCell ⟨g, M * 5 + 3, none⟩ (.string c.s)).setCell ⟨g, M * 5 + 4, none⟩ (.bool true)).setCell ⟨g, M * 5 + 2, none⟩ (.bool false)) ∧ Blk (((w2.setCell ⟨g, M * 5 + 3, none⟩ (.string c.s)).setCell ⟨g, M * 5 + 4, none⟩ (.bool true)).setCell ⟨g, M * 5 + 2, none⟩ (.bool false)) G 94 #[.int .i64 c.k, .int .i64 c.i, .string c.s, .int .i64 c.n] := by
                have hM := HM.out
                refine ⟨?_, (((Below.refl _ _).setCell hg _).setCell hg _).setCell hg _, ((bc.far (by simpa using hGg) _).far (by simpa using hGg) _).far (by simpa using hGg) _⟩
                subst hM
                exact ((HV.out.set (o' := { oo with la := c.s }) (j := 3) (by omega) rfl).set (o' := { oo with la := c.s, st := true }) (j := 4) (by omega) rfl).set (o' := { oo with la := c.s, st := true, k := false }) (j := 2) (by omega) rfl
              generalize ((w2.setCell ⟨g, M * 5 + 3, none⟩ (.string c.s)).setCell ⟨g, M * 5 + 4, none⟩ (.bool true)).setCell ⟨g, M * 5 + 2, none⟩ (.bool false) = w3 at FIN ⊢
              obtain ⟨hv3, hb3, bc⟩ := FIN
              have HV3 := Lib.hid hv3
              have br : Blk w3 w.heap.size 122 #[.int .i64 0, .int .i64 0, .bool false, .bool false] := br.below hb3 (by omega)
              have bs : Blk w3 (w.heap.size + 1) 122 #[.int .i64 s.d, .int .i64 s.b, .bool s.o, .bool s.l] := bs.below hb3 (by omega)
              have HB3 := Lib.hid (HB2.out.trans (hb3.mono (by omega)))
              have hz3 : w.heap.size + 2 ≤ w3.heap.size := by have := hb3.size; omega
              clear hv3 hb3 q2 q3 q4 f2 f3 f4 q_bc2
              have q_bc2 := bc.cell 2
              have q_bs1 := bs.cell 1
              have f_bs1 := bs.frozen 1
              have hqt := qtN_le c.s
              obtain ⟨wq, wq2⟩ := w64 (x := ((qtN c.s : Nat) : Int) + 1) (by omega) (by omega)
              obtain ⟨B1, hB1⟩ : ∃ B, IntKind.i64.wrap (s.b + (((qtN c.s : Nat) : Int) + 1)) = B := ⟨_, rfl⟩
              have hB1' : wrap64 (s.b + (((qtN c.s : Nat) : Int) + 1)) = B1 := by rw [← IntWalk.i64_left]; exact hB1
              have HB1x := Lib.hid hB1
              go_cut [] from 14 to 150 (fun wx => wx = (w3.setCell ⟨w.heap.size + 1, 1, none⟩ (.int .i64 B1)).drew)
              case first =>
                as_aux_lemma =>
                  clear HB HL HLK HV HV0 HV_ HST HB1 HB2 HE HF HCC HV3 HP HG HOK HSB HSD HSK HM br bc hcm HN HX HK HR hg hGg hgl hgc HB1x
                  go_region_law (first | (go_simp; go_at_call 103; ((with_reducible refine (quoted_any c.s _ hss).mono ?_); rintro e wq_ ⟨rfl, hq_⟩; obtain rfl := hq_.symm)))
                  all_goals (go_wp2_with fail; go_meet; rfl)
              subst hcut
              have FIN : Blk (w3.setCell ⟨w.heap.size + 1, 1, none⟩ (.int .i64 B1)).drew (w.heap.size + 1) 122 #[.int .i64 s.d, .int .i64 B1, .bool s.o, .bool s.l] ∧ Blk (w3.setCell ⟨w.heap.size + 1, 1, none⟩ (.int .i64 B1)).drew w.heap.size 122 #[.int .i64 0, .int .i64 0, .bool false, .bool false] ∧ Blk (w3.setCell ⟨w.heap.size + 1, 1, none⟩ (.int .i64 B1)).drew G 94 #[.int .i64 c.k, .int .i64 c.i, .string c.s, .int .i64 c.n] ∧ Below w.heap.size w (w3.setCell ⟨w.heap.size + 1, 1, none⟩ (.int .i64 B1)).drew ∧ OwnO (w3.setCell ⟨w.heap.size + 1, 1, none⟩ (.int .i64 B1)).drew (w.heap.size + 2) (.slice (some ⟨g, 0, none⟩) (M + 1) cp0) ({ oo with la := c.s, st := true, k := false } :: r) :=
                ⟨bs.set_ 1 _, br.far (by simp) _, bc.far (by simp; omega) _, (HB3.out.setCell (by simp) _).drew, (own_far HV3.out (fun q hq => by have := own_ge HV3.out q hq; simp; omega) _ : OwnO (w3.setCell ⟨w.heap.size + 1, 1, none⟩ (.int .i64 B1)) _ _ _)⟩
              generalize (w3.setCell ⟨w.heap.size + 1, 1, none⟩ (.int .i64 B1)).drew = w4 at FIN ⊢
              obtain ⟨bs, br, bc, hb4, hv4⟩ := FIN
              have HV4 := Lib.hid hv4
              have HB4 := Lib.hid hb4
              clear hv4 hb4 wq wq2 hB1 hB1' q_bc2 q_bs1 f_bs1 HV3
              have q_bc2 := bc.cell 2
              have q_bs3 := bs.cell 3
              have f_bs3 := bs.frozen 3
              go_upto_region 15 with fail
              go_cut [] from 14 to 150 (fun wx => wx = w4.setCell ⟨w.heap.size + 1, 3, none⟩ (.bool (s.l || decide (200 < c.s.size))))
              case first =>
                as_aux_lemma =>
                  clear HB HL HLK HV HV0 HV_ HST HB1 HB2 HE HF HCC HP HG HOK HSB HSD HSK HM br bc hcm HN HX HK HR hg hGg hgl hgc HB3 HB4 HV4
                  cases hl : s.l with
                  | true =>
                    rw [hl] at q_bs3
                    have HE9 := Lib.hid (show true = (s.l || decide (200 < c.s.size)) by rw [hl]; rfl)
                    clear hl bs
                    go_wp2_with fail
                    go_meet
                    rw [HE9.out]
                  | false =>
                    rw [hl] at q_bs3
                    by_cases h2 : 200 < c.s.size
                    · have d1 : decide ((200 : Int) < (c.s.size : Int)) = true := decide_eq_true (by omega)
                      have HE9 := Lib.hid (show true = (s.l || decide (200 < c.s.size)) by rw [hl, decide_eq_true h2]; rfl)
                      clear hl bs h2
                      go_wp2_with fail
                      go_meet
                      rw [HE9.out]
                    · have d1 : decide ((200 : Int) < (c.s.size : Int)) = false := decide_eq_false (by omega)
                      have HE9 := Lib.hid (show false = (s.l || decide (200 < c.s.size)) by rw [hl, decide_eq_false h2]; rfl)
                      clear hl bs h2
                      go_wp2_with fail
                      go_meet
                      rw [HE9.out]
              subst hcut
              have bs5 := bs.set_ 3 (.bool (s.l || decide (200 < c.s.size)))
              have br5 := br.far (p := ⟨w.heap.size + 1, 3, none⟩) (by simp) (.bool (s.l || decide (200 < c.s.size)))
              have HB5 := Lib.hid (HB4.out.setCell (p := ⟨w.heap.size + 1, 3, none⟩) (by simp) (.bool (s.l || decide (200 < c.s.size))))
              have HV5 := Lib.hid (show OwnO (w4.setCell ⟨w.heap.size + 1, 3, none⟩ (.bool (s.l || decide (200 < c.s.size)))) _ _ _ from own_far HV4.out (fun q hq => by have := own_ge HV4.out q hq; simp; omega) _)
              generalize w4.setCell ⟨w.heap.size + 1, 3, none⟩ (.bool (s.l || decide (200 < c.s.size))) = w5 at *
              have hk64 : (k : Int) + 1 ≤ 3518437208781 := by omega
              clear q_bs3 f_bs3 q_bc2 bs br bc
              have hqt2 := qtN_le c.s
              have hM1 := HM.out
              have hsd := HSD.out
              go_wp2_with fail
              go_roundw
              case rel => exact ⟨k + 1, { oo with la := c.s, st := true, k := false } :: r, keyS IntKind.i64.wrap c s, by go_num, by omega, HE.out, HV5.out, (fun x hx => by
                rcases List.mem_cons.1 hx with rfl | hx
                · exact HST.out oo (by simp)
                · exact HST.out x (by simp [hx])), by have := HSK.out; simp only [List.length_cons]; omega, br5, by rw [show keyS IntKind.i64.wrap c s = ⟨s.d, B1, s.o, s.l || decide (200 < c.s.size)⟩ from by unfold keyS; rw [HB1x.out]]; exact bs5, HB5.out, trivial, by simp only [keyS]; omega⟩
              case measure => exact meas_lt hlt
        | false =>
          have HE0 := Lib.hid (show lkV IntKind.i64.wrap N (lkS IntKind.i64.wrap N (l.drop (k + 1)) (k + 1)) k c st s = R by rw [← HLK.out]; exact (lk_val HP.out (noKey_of hkb)).symm)
          obtain ⟨m, hm⟩ : ∃ m, m = st.length := ⟨_, rfl⟩
          rw [← hm] at HV HSK ⊢
          have HM := Lib.hid hm
          have hmk : m ≤ k := HSK.out
          have hpk := pl_kind HP.out
          have hszb := sz_bd HOK.out HP.out
          have HSZ := Lib.hid hszb
          have bs : Blk w1 (w.heap.size + 1) 122 #[.int .i64 s.d, .int .i64 s.b, .bool s.o, .bool s.l] := bs
          have q_bs0 := bs.cell 0
          have f_bs0 := bs.frozen 0
          obtain ⟨wm, wm2⟩ := w64 (x := (m : Int) + 1) (by omega) (by omega)
          have HPK := Lib.hid hpk
          clear hm hpk hszb hmk hkb HLK
          go_upto_region 17 with fail
          have FIN : Blk (w1.setCell ⟨w.heap.size + 1, 0, none⟩ (.int .i64 (max s.d ((m : Int) + 1)))) (w.heap.size + 1) 122 #[.int .i64 (max s.d ((m : Int) + 1)), .int .i64 s.b, .bool s.o, .bool s.l] ∧ Blk (w1.setCell ⟨w.heap.size + 1, 0, none⟩ (.int .i64 (max s.d ((m : Int) + 1)))) w.heap.size 122 #[.int .i64 0, .int .i64 0, .bool false, .bool false] ∧ Blk (w1.setCell ⟨w.heap.size + 1, 0, none⟩ (.int .i64 (max s.d ((m : Int) + 1)))) G 94 #[.int .i64 c.k, .int .i64 c.i, .string c.s, .int .i64 c.n] ∧ Below w.heap.size w (w1.setCell ⟨w.heap.size + 1, 0, none⟩ (.int .i64 (max s.d ((m : Int) + 1)))) ∧ OwnO (w1.setCell ⟨w.heap.size + 1, 0, none⟩ (.int .i64 (max s.d ((m : Int) + 1)))) (w.heap.size + 2) (.slice P0 m cp0) st :=
            ⟨bs.set_ 0 _, br.far (by simp) _, bc.far (by simp; omega) _, HB1.out.setCell (by simp) _, own_far HV.out (fun q hq => by have := own_ge HV.out q hq; simp; omega) _⟩
          generalize w1.setCell ⟨w.heap.size + 1, 0, none⟩ (.int .i64 (max s.d ((m : Int) + 1))) = w2 at FIN ⊢
          obtain ⟨bs, br, bc, hb2, hv2⟩ := FIN
          have HB2 := Lib.hid hb2
          have HV2 := Lib.hid hv2
          clear hb2 hv2 q_bs0 f_bs0 wm wm2
          obtain ⟨z, hz⟩ : ∃ z, IntKind.i64.wrap (szI c.k c.i c.s c.n) = z := ⟨_, rfl⟩
          obtain ⟨B2, hB2⟩ : ∃ B, IntKind.i64.wrap (s.b + z) = B := ⟨_, rfl⟩
          have hB2' : wrap64 (s.b + z) = B2 := by rw [← IntWalk.i64_left]; exact hB2
          have HZ := Lib.hid (And.intro hz hB2)
          have hzw : w.heap.size + 1 < w2.heap.size := bs.lt
          go_cut [] from 14 to 150 (fun wx => ∃ w3, Below w2.heap.size w2 w3 ∧ wx = w3.setCell ⟨w.heap.size + 1, 1, none⟩ (.int .i64 B2))
          case first =>
            as_aux_lemma =>
              have q_bc0 : w2.cell? ⟨G, 0, none⟩ = some (.int .i64 c.k) := bc.cell 0
              have q_bc1 : w2.cell? ⟨G, 1, none⟩ = some (.int .i64 c.i) := bc.cell 1
              have q_bc2 : w2.cell? ⟨G, 2, none⟩ = some (.string c.s) := bc.cell 2
              have q_bc3 : w2.cell? ⟨G, 3, none⟩ = some (.int .i64 c.n) := bc.cell 3
              have q_bs1 := bs.cell 1
              have f_bs1 := bs.frozen 1
              have HSZ2 := Lib.hid (size_any c.k c.i c.s c.n w2.drew (HX.out.below HB2.out.drew) hss HOK.out.1.1 HOK.out.1.2 HPK.out.1 (by have := HPK.out.2; omega) HOK.out.2.1.2)
              rw [hz] at HSZ2
              clear HB HL HV HV0 HV_ HST HB1 HB2 HE0 HP HG HOK HSB HSD HSK HM br bc HN HX HK HR hgc HV2 HSZ HPK
              go_region_law (first | (go_simp; go_at_call 104; ((with_reducible refine HSZ2.out.mono ?_); rintro e w3 ⟨rfl, hb3⟩; have q3 : w3.cell? ⟨w.heap.size + 1, 1, none⟩ = some (.int .i64 s.b) := (hb3.cell (p := ⟨w.heap.size + 1, 1, none⟩) hzw).trans q_bs1; have f3 : w3.frozen? ⟨w.heap.size + 1, 1, none⟩ = false := (hb3.frozen (p := ⟨w.heap.size + 1, 1, none⟩) hzw).trans f_bs1)))
              all_goals (go_wp2_with fail; go_meet; exact ⟨w3, (Below.refl _ w2).drew.trans hb3, rfl⟩)
          obtain ⟨w3, hb3, rfl⟩ := hcut
          have FIN : Blk (w3.setCell ⟨w.heap.size + 1, 1, none⟩ (.int .i64 B2)) (w.heap.size + 1) 122 #[.int .i64 (max s.d ((m : Int) + 1)), .int .i64 B2, .bool s.o, .bool s.l] ∧ Blk (w3.setCell ⟨w.heap.size + 1, 1, none⟩ (.int .i64 B2)) w.heap.size 122 #[.int .i64 0, .int .i64 0, .bool false, .bool false] ∧ Blk (w3.setCell ⟨w.heap.size + 1, 1, none⟩ (.int .i64 B2)) G 94 #[.int .i64 c.k, .int .i64 c.i, .string c.s, .int .i64 c.n] ∧ Below w.heap.size w (w3.setCell ⟨w.heap.size + 1, 1, none⟩ (.int .i64 B2)) ∧ OwnO (w3.setCell ⟨w.heap.size + 1, 1, none⟩ (.int .i64 B2)) (w.heap.size + 2) (.slice P0 m cp0) st :=
            ⟨(bs.on hb3).set_ 1 _, (br.on hb3).far (by simp) _, (bc.on hb3).far (by simp; omega) _, (HB2.out.trans (hb3.mono HB2.out.size)).setCell (by simp) _, own_far (HV2.out.on hb3) (fun q hq => by have := own_ge HV2.out q hq; simp; omega) _⟩
          generalize w3.setCell ⟨w.heap.size + 1, 1, none⟩ (.int .i64 B2) = w4 at FIN ⊢
          obtain ⟨bs, br, bc, hb4, hv4⟩ := FIN
          have HB4 := Lib.hid hb4
          have HV4 := Lib.hid hv4
          clear hb3 hb4 hv4 hB2' hzw HV2 HB2
          have q_bc0 := bc.cell 0
          have q_bc1 := bc.cell 1
          have q_bs2 := bs.cell 2
          have f_bs2 := bs.frozen 2
          go_upto_region 18 with fail
          go_cut [] from 14 to 150 (fun wx => wx = w4.setCell ⟨w.heap.size + 1, 2, none⟩ (.bool (s.o || (decide (c.k = 3) && !bndB c.i))))
          case first =>
            as_aux_lemma =>
              clear HB HL HV HV0 HV_ HST HB1 HE0 HP HG HOK HSB HSD HSK HM br bc HN HX HK HR hgc HSZ HPK HB4 HV4 HZ hz hB2
              obtain ⟨vb, hvb⟩ : ∃ vb, bndB c.i = vb := ⟨_, rfl⟩
              cases ho : s.o with
              | true =>
                rw [ho] at q_bs2
                have HE9 := Lib.hid (show true = (s.o || (decide (c.k = 3) && !bndB c.i)) by rw [ho]; rfl)
                clear ho bs hvb
                go_wp2_with fail
                go_meet
                rw [HE9.out]
              | false =>
                rw [ho] at q_bs2
                by_cases h3 : c.k = 3
                · have d3 : (c.k == 3) = true := beq_iff_eq.2 h3
                  have HE9 := Lib.hid (show (!vb) = (s.o || (decide (c.k = 3) && !bndB c.i)) by rw [ho, decide_eq_true h3, hvb]; rfl)
                  have HVb := Lib.hid hvb
                  clear h3 ho bs hvb
                  go_wp2_with fail
                  refine (Valid_any c.i _).mono ?_
                  rintro e wq_ ⟨rfl, hq_⟩
                  obtain rfl := hq_.symm
                  rw [HVb.out]
                  go_wp2_with fail
                  go_meet
                  rw [HE9.out]
                · have d3 : (c.k == 3) = false := beq_eq_false_iff_ne.2 h3
                  have HE9 := Lib.hid (show false = (s.o || (decide (c.k = 3) && !bndB c.i)) by rw [ho, decide_eq_false h3]; rfl)
                  clear h3 ho bs hvb
                  go_wp2_with fail
                  go_meet
                  rw [HE9.out]
          subst hcut
          have FIN : Blk (w4.setCell ⟨w.heap.size + 1, 2, none⟩ (.bool (s.o || (decide (c.k = 3) && !bndB c.i)))) (w.heap.size + 1) 122 #[.int .i64 (max s.d ((m : Int) + 1)), .int .i64 B2, .bool (s.o || (decide (c.k = 3) && !bndB c.i)), .bool s.l] ∧ Blk (w4.setCell ⟨w.heap.size + 1, 2, none⟩ (.bool (s.o || (decide (c.k = 3) && !bndB c.i)))) w.heap.size 122 #[.int .i64 0, .int .i64 0, .bool false, .bool false] ∧ Blk (w4.setCell ⟨w.heap.size + 1, 2, none⟩ (.bool (s.o || (decide (c.k = 3) && !bndB c.i)))) G 94 #[.int .i64 c.k, .int .i64 c.i, .string c.s, .int .i64 c.n] ∧ Below w.heap.size w (w4.setCell ⟨w.heap.size + 1, 2, none⟩ (.bool (s.o || (decide (c.k = 3) && !bndB c.i)))) ∧ OwnO (w4.setCell ⟨w.heap.size + 1, 2, none⟩ (.bool (s.o || (decide (c.k = 3) && !bndB c.i)))) (w.heap.size + 2) (.slice P0 m cp0) st :=
            ⟨bs.set_ 2 _, br.far (by simp) _, bc.far (by simp; omega) _, HB4.out.setCell (by simp) _, own_far HV4.out (fun q hq => by have := own_ge HV4.out q hq; simp; omega) _⟩
          generalize w4.setCell ⟨w.heap.size + 1, 2, none⟩ (.bool (s.o || (decide (c.k = 3) && !bndB c.i))) = w5 at FIN ⊢
          obtain ⟨bs, br, bc, hb5, hv5⟩ := FIN
          have HB5 := Lib.hid hb5
          have HV5 := Lib.hid hv5
          clear hb5 hv5 HB4 HV4 q_bc0 q_bc1 q_bs2 f_bs2
          have q_bc2 := bc.cell 2
          have q_bs3 := bs.cell 3
          have f_bs3 := bs.frozen 3
          go_upto_region 19 with fail
          go_cut [] from 14 to 150 (fun wx => wx = w5.setCell ⟨w.heap.size + 1, 3, none⟩ (.bool (s.l || decide (200 < c.s.size))))
          case first =>
            as_aux_lemma =>
              clear HB HL HV HV0 HV_ HST HB1 HE0 HP HG HOK HSB HSD HSK HM br bc HN HX HK HR hgc HSZ HPK HB5 HV5 HZ hz hB2
              generalize (s.o || (decide (c.k = 3) && !bndB c.i)) = oo' at *
              cases hl : s.l with
              | true =>
                rw [hl] at q_bs3
                have HE9 := Lib.hid (show true = (s.l || decide (200 < c.s.size)) by rw [hl]; rfl)
                clear hl bs
                go_wp2_with fail
                go_meet
                rw [HE9.out]
              | false =>
                rw [hl] at q_bs3
                by_cases h2 : 200 < c.s.size
                · have d1 : decide ((200 : Int) < (c.s.size : Int)) = true := decide_eq_true (by omega)
                  have HE9 := Lib.hid (show true = (s.l || decide (200 < c.s.size)) by rw [hl, decide_eq_true h2]; rfl)
                  clear hl bs h2
                  go_wp2_with fail
                  go_meet
                  rw [HE9.out]
                · have d1 : decide ((200 : Int) < (c.s.size : Int)) = false := decide_eq_false (by omega)
                  have HE9 := Lib.hid (show false = (s.l || decide (200 < c.s.size)) by rw [hl, decide_eq_false h2]; rfl)
                  clear hl bs h2
                  go_wp2_with fail
                  go_meet
                  rw [HE9.out]
          subst hcut
          obtain ⟨ob, hob⟩ : ∃ ob, (s.o || (decide (c.k = 3) && !bndB c.i)) = ob := ⟨_, rfl⟩
          obtain ⟨lb, hlb⟩ : ∃ lb, (s.l || decide (200 < c.s.size)) = lb := ⟨_, rfl⟩
          obtain ⟨db, hdb⟩ : ∃ db, max s.d ((m : Int) + 1) = db := ⟨_, rfl⟩
          rw [hlb]
          rw [hob, hdb] at bs
          have FIN : Blk (w5.setCell ⟨w.heap.size + 1, 3, none⟩ (.bool lb)) (w.heap.size + 1) 122 #[.int .i64 db, .int .i64 B2, .bool ob, .bool lb] ∧ Blk (w5.setCell ⟨w.heap.size + 1, 3, none⟩ (.bool lb)) w.heap.size 122 #[.int .i64 0, .int .i64 0, .bool false, .bool false] ∧ Blk (w5.setCell ⟨w.heap.size + 1, 3, none⟩ (.bool lb)) G 94 #[.int .i64 c.k, .int .i64 c.i, .string c.s, .int .i64 c.n] ∧ Below w.heap.size w (w5.setCell ⟨w.heap.size + 1, 3, none⟩ (.bool lb)) ∧ OwnO (w5.setCell ⟨w.heap.size + 1, 3, none⟩ (.bool lb)) (w.heap.size + 2) (.slice P0 m cp0) st :=
            ⟨bs.set_ 3 _, br.far (by simp) _, bc.far (by simp; omega) _, HB5.out.setCell (by simp) _, own_far HV5.out (fun q hq => by have := own_ge HV5.out q hq; simp; omega) _⟩
          generalize w5.setCell ⟨w.heap.size + 1, 3, none⟩ (.bool lb) = w6 at FIN ⊢
          obtain ⟨bs, br, bc, hb6, hv6⟩ := FIN
          have HB6 := Lib.hid hb6
          have HV6 := Lib.hid hv6
          have HVS := Lib.hid (show valS IntKind.i64.wrap c m s = ⟨db, IntKind.i64.wrap (s.b + IntKind.i64.wrap c.sz), ob, lb⟩ by unfold valS; rw [hob, hlb, hdb])
          have HDB := Lib.hid hdb
          clear hb6 hv6 HB5 HV5 q_bc2 q_bs3 f_bs3 hob hlb hdb hz hB2
          have q_bc3 := bc.cell 3
          have hz6 : w.heap.size + 1 < w6.heap.size := bs.lt
          by_cases hn : 0 < c.n
          · by_cases hfar : (N : Int) < c.n
            · have HE := Lib.hid (show R = none by rw [← HE0.out]; exact lkV_far hn hfar)
              have d1 : decide ((0 : Int) < c.n) = true := decide_eq_true hn
              have d2 : decide ((N : Int) < c.n) = true := decide_eq_true hfar
              clear hn hfar
              as_aux_lemma =>
                have q_br0 : w6.cell? ⟨w.heap.size, 0, none⟩ = some (.int .i64 0) := br.cell 0
                have f_br0 : w6.frozen? ⟨w.heap.size, 0, none⟩ = false := br.frozen 0
                have q_br1 : w6.cell? ⟨w.heap.size, 1, none⟩ = some (.int .i64 0) := br.cell 1
                have f_br1 : w6.frozen? ⟨w.heap.size, 1, none⟩ = false := br.frozen 1
                have q_br2 : w6.cell? ⟨w.heap.size, 2, none⟩ = some (.bool false) := br.cell 2
                have f_br2 : w6.frozen? ⟨w.heap.size, 2, none⟩ = false := br.frozen 2
                have q_br3 : w6.cell? ⟨w.heap.size, 3, none⟩ = some (.bool false) := br.cell 3
                have f_br3 : w6.frozen? ⟨w.heap.size, 3, none⟩ = false := br.frozen 3
                have q_bs0 : w6.cell? ⟨w.heap.size + 1, 0, none⟩ = some (.int .i64 db) := bs.cell 0
                have q_bs1 : w6.cell? ⟨w.heap.size + 1, 1, none⟩ = some (.int .i64 B2) := bs.cell 1
                have q_bs2 : w6.cell? ⟨w.heap.size + 1, 2, none⟩ = some (.bool ob) := bs.cell 2
                have q_bs3 : w6.cell? ⟨w.heap.size + 1, 3, none⟩ = some (.bool lb) := bs.cell 3
                go_wp2_with fail
                go_region
                go_wp2_with fail
                rw [HE.out]
                refine (show bodyPost Tryz.prog _ _ Exit.ret _ _ from bodyPost_ret (v := .tuple #[.int .i64 0, .agg #[.int .i64 db, .int .i64 B2, .bool ob, .bool lb], .bool false]) (by simp [results, Tryz.results88, go_sem, q_br0, q_br1, q_br2, q_br3]) rfl ⟨?_, ⟨db, B2, ob, lb⟩, rfl⟩)
                exact below_set4 (HB6.out.drew) (Nat.le_refl _) _ _ _ _
            · have HE := Lib.hid (show lkS IntKind.i64.wrap N (l.drop (k + 1)) (k + 1) (pushO c :: st) (valS IntKind.i64.wrap c m s) = R by rw [← HE0.out, lkV_push hn hfar, HM.out])
              have d1 : decide ((0 : Int) < c.n) = true := decide_eq_true hn
              have d2 : decide ((N : Int) < c.n) = false := decide_eq_false hfar
              have hpo : okO (pushO c) := ⟨by simp only [pushO]; omega, by simp only [pushO]; omega⟩
              have HPO := Lib.hid hpo
              have HCN := Lib.hid (show c.n ≤ 3518437208780 from Int.le_trans (Int.not_lt.1 hfar) (Int.ofNat_le.2 hln))
              have HK1 := Lib.hid (show k + 1 ≤ N from hlt)
              have HLN := Lib.hid (show (pushO c :: st).length ≤ k + 1 by rw [List.length_cons, ← HM.out]; exact Nat.succ_le_succ HSK.out)
              have hB2 : B2 = IntKind.i64.wrap (s.b + IntKind.i64.wrap c.sz) := by rw [← HZ.out.2, ← HZ.out.1]; rfl
              have HB2x := Lib.hid hB2
              have q_bc0 := bc.cell 0
              have hmk := HSK.out
              obtain ⟨i0, ih, iz0, iz1, iz2⟩ := info_partsO infoO
              obtain ⟨p6, hp6⟩ : ∃ p, decide (c.k = 6) = p := ⟨_, rfl⟩
              have hk6 : (c.k == 6) = p6 := by rw [← hp6]; by_cases h : c.k = 6 <;> simp [h]
              have HPC := Lib.hid (show (pushO c).cells = [.bool p6, .int .i64 c.n, .bool p6, .string ⟨#[]⟩, .bool false] by unfold pushO Opn.cells; rw [hp6])
              have hown0 := own_below HV6.out (al_new w6 (.cells ([.bool p6, .int .i64 c.n, .bool p6, .string ⟨#[]⟩, .bool false] : List Value).toArray 138))
              rw [← HM.out] at hown0
              have hbd := bdO (show m ≤ 3518437208780 by omega)
              have hbd2 : w.heap.size + 2 ≤ (w6.alloc (.cells ([.bool p6, .int .i64 c.n, .bool p6, .string ⟨#[]⟩, .bool false] : List Value).toArray 138)).heap.size := Nat.le_trans hz6 (by simp)
              have HOW := Lib.hid hown0
              have HBD := Lib.hid hbd
              have HBD2 := Lib.hid hbd2
              clear hn hfar hp6 hpo hB2 hown0 hbd hbd2
              go_wp2_with (at_builtin; go_loud (refine wpList_append_own_wide _ rfl (.tmp 130) (.tmp 140) 135 rfl (w.heap.size + 2) 138 i0 (.agg #[.bool false, .int .i64 0, .bool false, .string ⟨#[]⟩, .bool false]) 5 48 Tryz.underlying135 ih iz0 iz1 iz2 rfl (by decide) (.slice P0 m cp0) m (st.reverse.flatMap Opn.cells) rfl HOW.out ⟨w6.heap.size, 0, none⟩ 1 1 [.bool p6, .int .i64 c.n, .bool p6, .string ⟨#[]⟩, .bool false] rfl rfl (cells_new_at rfl) (oneO _ _ _ _ _) HBD.out.1 HBD.out.2 HBD2.out ?_); intro v' wn hown1 hgr hiff; clear hiff; have HGR := Lib.hid (And.intro hown1 hgr); clear hown1 hgr)
              have hgn := HGR.out.2
              have hbd2 := HBD2.out
              have hlow : Below (w.heap.size + 2) w6 wn := ((Below.refl (w.heap.size + 2) w6).alloc hz6 _).grown hgn hbd2 (fun q hq => own_ge HV6.out q hq)
              have bs7 := bs.below hlow (by omega)
              have br7 := br.below hlow (by omega)
              have hown7 : OwnO wn (w.heap.size + 2) v' (pushO c :: st) := by
                have h := HGR.out.1
                unfold OwnO
                rw [List.reverse_cons, List.flatMap_append, List.flatMap_cons, List.flatMap_nil, List.append_nil, HPC.out, List.length_cons, ← HM.out]
                exact h
              have HO7 := Lib.hid hown7
              have HB7 := Lib.hid (HB6.out.trans (hlow.mono (by omega)))
              have hsb := HSB.out
              have hsd := HSD.out
              have hszb := HSZ.out
              have hdb := HDB.out
              have hks := hmk
              clear hgn hlow hown7 HGR bs br bc q_bc0 q_bc3 hbd2
              have HN1 := Lib.hid (And.intro hsb (And.intro hsd (And.intro hszb hdb)))
              clear hsb hsd hszb hdb
              go_wp2_with fail
              go_roundw
              clear ih iz0 iz1 iz2 hgc hk0 hki hz1 hzr hss hz6
              case rel => exact ⟨k + 1, pushO c :: st, valS IntKind.i64.wrap c m s, by first | rfl | go_num, HK1.out, HE.out, HO7.out, (fun x hx => by
                rcases List.mem_cons.1 hx with rfl | hx
                · exact HPO.out
                · exact HST.out x hx), HLN.out, br7, by rw [HVS.out, ← HB2x.out]; exact bs7, HB7.out, trivial, by rw [HVS.out]; exact bd_d HN1.out.2.1 HN1.out.2.2.2 hks⟩
              case measure => exact meas_lt hlt
          · as_aux_lemma =>
              have hcl : okS (closeS st) := closeS_ok HST.out
              have d1 : decide ((0 : Int) < c.n) = false := decide_eq_false hn
              have HCL := Lib.hid hcl
              have hn0 : c.n ≤ 0 := by omega
              have hB2 : B2 = IntKind.i64.wrap (s.b + IntKind.i64.wrap c.sz) := by rw [← HZ.out.2, ← HZ.out.1]; rfl
              have HB2x := Lib.hid hB2
              have HNN := Lib.hid hn
              have HK1 := Lib.hid (show k + 1 ≤ N from hlt)
              have HNC := Lib.hid (show c.n ≤ 3518437208780 from Int.le_trans (Int.not_lt.1 hn) (by decide))
              have hmk := HSK.out
              clear hn hcl hB2
              go_wp2_with fail
              refine (closed_any (.slice P0 m cp0) (w.heap.size + 2) st w6 HV6.out HST.out).mono ?_
              rintro e w7 ⟨v7, rfl, hv7, hb7⟩
              have bs7 : Blk w7 (w.heap.size + 1) 122 #[.int .i64 db, .int .i64 B2, .bool ob, .bool lb] := bs.below hb7 (by omega)
              have br7 : Blk w7 w.heap.size 122 #[.int .i64 0, .int .i64 0, .bool false, .bool false] := br.below hb7 (by omega)
              have HB7 := Lib.hid (HB6.out.trans (hb7.mono (by omega)))
              have HO7 := Lib.hid hv7
              obtain ⟨P7, c7, rfl⟩ := own_slice hv7
              clear hv7 hb7 bs br bc q_bc3
              cases hcs : closeS st with
              | nil =>
                have HE := Lib.hid (show R = some (k + 1, valS IntKind.i64.wrap c m s) by rw [← HE0.out, HM.out]; exact lkV_end (by have h9 := HNN.out; omega) hcs)
                clear hcs
                simp only [List.length_nil]
                obtain ⟨wk1, wk2⟩ := w64 (x := (k : Int) + 1) (by omega) (by omega)
                have q_br0 : w7.cell? ⟨w.heap.size, 0, none⟩ = some (.int .i64 0) := br7.cell 0
                have f_br0 : w7.frozen? ⟨w.heap.size, 0, none⟩ = false := br7.frozen 0
                have q_br1 : w7.cell? ⟨w.heap.size, 1, none⟩ = some (.int .i64 0) := br7.cell 1
                have f_br1 : w7.frozen? ⟨w.heap.size, 1, none⟩ = false := br7.frozen 1
                have q_br2 : w7.cell? ⟨w.heap.size, 2, none⟩ = some (.bool false) := br7.cell 2
                have f_br2 : w7.frozen? ⟨w.heap.size, 2, none⟩ = false := br7.frozen 2
                have q_br3 : w7.cell? ⟨w.heap.size, 3, none⟩ = some (.bool false) := br7.cell 3
                have f_br3 : w7.frozen? ⟨w.heap.size, 3, none⟩ = false := br7.frozen 3
                have q_bs0 : w7.cell? ⟨w.heap.size + 1, 0, none⟩ = some (.int .i64 db) := bs7.cell 0
                have q_bs1 : w7.cell? ⟨w.heap.size + 1, 1, none⟩ = some (.int .i64 B2) := bs7.cell 1
                have q_bs2 : w7.cell? ⟨w.heap.size + 1, 2, none⟩ = some (.bool ob) := bs7.cell 2
                have q_bs3 : w7.cell? ⟨w.heap.size + 1, 3, none⟩ = some (.bool lb) := bs7.cell 3
                go_wp2_with fail
                go_region
                go_wp2_with fail
                rw [HE.out, HVS.out, ← HB2x.out]
                refine (show bodyPost Tryz.prog _ _ Exit.ret _ _ from bodyPost_ret (v := .tuple #[.int .i64 ((k : Int) + 1), .agg #[.int .i64 db, .int .i64 B2, .bool ob, .bool lb], .bool true]) (by simp [results, Tryz.results88, go_sem, q_br0, q_br1, q_br2, q_br3]) rfl ⟨?_, ?_⟩)
                · exact below_set4 (HB7.out.drew) (Nat.le_refl _) _ _ _ _
                · simp
              | cons ox rx =>
                have HE := Lib.hid (show lkS IntKind.i64.wrap N (l.drop (k + 1)) (k + 1) (ox :: rx) (valS IntKind.i64.wrap c m s) = R by rw [← HE0.out, lkV_more (by have h9 := HNN.out; omega) (by rw [hcs]; simp), hcs, HM.out])
                have hlx : (ox :: rx).length ≤ st.length := by rw [← hcs]; exact closeS_len st
                have HOX := Lib.hid (show okS (ox :: rx) by rw [← hcs]; exact HCL.out)
                rw [hcs] at HO7
                rw [← HM.out] at hlx
                have HLX := Lib.hid hlx
                clear hcs hlx
                have HN1 := Lib.hid (And.intro HSB.out (And.intro HSD.out (And.intro HSZ.out HDB.out)))
                simp only [List.length_cons]
                go_wp2_with fail
                go_roundw
                case rel => exact ⟨k + 1, ox :: rx, valS IntKind.i64.wrap c m s, by first | rfl | go_num, HK1.out, HE.out, HO7.out, HOX.out, Nat.le_trans HLX.out (Nat.le_succ_of_le hmk), br7, by rw [HVS.out, ← HB2x.out]; exact bs7, HB7.out, trivial, by rw [HVS.out]; exact bd_d HN1.out.2.1 HN1.out.2.2.2 hmk⟩
                case measure => exact meas_lt hlt
    · obtain rfl : k = N := by omega
      have HE := Lib.hid (show R = none by rw [← HLK.out, List.drop_of_length_le (by rw [HN.out]; exact Nat.le_refl _)]; rfl)
      have bs : Blk wr (w.heap.size + 1) 122 #[.int .i64 s.d, .int .i64 s.b, .bool s.o, .bool s.l] := bs
      have q_br0 : wr.cell? ⟨w.heap.size, 0, none⟩ = some (.int .i64 0) := br.cell 0
      have f_br0 : wr.frozen? ⟨w.heap.size, 0, none⟩ = false := br.frozen 0
      have q_br1 : wr.cell? ⟨w.heap.size, 1, none⟩ = some (.int .i64 0) := br.cell 1
      have f_br1 : wr.frozen? ⟨w.heap.size, 1, none⟩ = false := br.frozen 1
      have q_br2 : wr.cell? ⟨w.heap.size, 2, none⟩ = some (.bool false) := br.cell 2
      have f_br2 : wr.frozen? ⟨w.heap.size, 2, none⟩ = false := br.frozen 2
      have q_br3 : wr.cell? ⟨w.heap.size, 3, none⟩ = some (.bool false) := br.cell 3
      have f_br3 : wr.frozen? ⟨w.heap.size, 3, none⟩ = false := br.frozen 3
      have q_bs0 : wr.cell? ⟨w.heap.size + 1, 0, none⟩ = some (.int .i64 s.d) := bs.cell 0
      have q_bs1 : wr.cell? ⟨w.heap.size + 1, 1, none⟩ = some (.int .i64 s.b) := bs.cell 1
      have q_bs2 : wr.cell? ⟨w.heap.size + 1, 2, none⟩ = some (.bool s.o) := bs.cell 2
      have q_bs3 : wr.cell? ⟨w.heap.size + 1, 3, none⟩ = some (.bool s.l) := bs.cell 3
      go_wp2_with fail
      go_region
      go_wp2_with fail
      rw [HE.out]
      refine (show bodyPost Tryz.prog _ _ Exit.ret _ _ from bodyPost_ret (v := .tuple #[.int .i64 0, .agg #[.int .i64 s.d, .int .i64 s.b, .bool s.o, .bool s.l], .bool false]) (by simp [results, Tryz.results88, go_sem, q_br0, q_br1, q_br2, q_br3]) rfl ⟨?_, s, rfl⟩)
      exact below_set4 (HB.out.drew) (Nat.le_refl _) _ _ _ _
end Go.Proofs.YtbofclohnmojmaaGreatDoor
