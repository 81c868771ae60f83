/- FifoDoes, walked. -/
import Derived.Test.YtbofclohnmojmaaGreatDoorRDA
import Derived.Deep.CutRange
import Derived.BigQuiet
namespace Go.Proofs.YtbofclohnmojmaaGreatDoor
open Go.RowKit
open Go.Sort (grow)

theorem info_strD : (Tryz.prog.info? 9).map (fun i => (i.zero, i.size, i.bytes)) = some (some (.string ⟨#[]⟩), 1, 16) := by kernel_rfl
theorem StepR.rcs {s s' : QS} {x : Cl} {T : List ByteArray} {z : Int} {r : List De} (h : StepR s x T z r s') (hok : s.ok) (hi : s.idd) : r.length ≤ 256 ∧ ∀ d ∈ r, d.rc.size ≤ 1000 ∧ d.ev.body.length ≤ 1048576 := by
  cases h with
  | sendE => simp
  | recvE => simp
  | delE => simp
  | retE => simp
  | send => simp
  | del => simp
  | ret => simp
  | recv s1 r hk hc ha hr =>
    have hn := clk0 hc
    have hok1 := ha.ok hok ⟨hn.1, hn.2.1⟩
    have hi1 := ha.idd hi
    refine ⟨?_, fun d hd => ?_⟩
    · rw [(dlv_len hr).1]
      have h1 : (takeI s1.now s1.l x.n).length ≤ s1.l.length := by
        unfold takeI
        rw [List.length_take]
        have := rdyL_len s1.now s1.l s1.l.length
        omega
      have := hok1.len
      omega
    · obtain ⟨k, hk2⟩ := List.mem_iff_getElem?.1 hd
      obtain ⟨i, y, ht, hy, -, e1, -, -, -⟩ := dlv_at hr hk2
      have hrc := hok1.rcv y (List.mem_of_getElem? hy)
      refine ⟨?_, ?_⟩
      · rw [e1]
        exact rcpS_size _ _ (idL_size (hi1.ids y (List.mem_of_getElem? hy))) (by omega) (by omega)
      · obtain ⟨d2, hd2, hc2⟩ := map_at hr hk2
        rw [rcvD_at, ht] at hd2
        simp only [Option.bind_some, hy, Option.map_some] at hd2
        have e2 := Option.some.inj hd2
        have e3 : d.ev.core = y.ev.core := by
          have := congrArg De.ev hc2
          rw [← e2] at this
          exact this.symm
        have e4 : d.ev.body = y.ev.body := by
          have := congrArg Ev.body e3
          exact this
        rw [e4]
        exact evSz_len (hok1.els y (List.mem_of_getElem? hy))
theorem dead_len {l r : List Ev} (h : r.map Ev.core = l.map Ev.core) (hs : ∀ e ∈ l, evSz e) {y : Ev} (hy : y ∈ r) : y.body.length ≤ 1048576 := by
  obtain ⟨k, hk⟩ := List.mem_iff_getElem?.1 hy
  obtain ⟨e, he, hc⟩ := map_at h hk
  have h1 : e.body = y.body := (by have h9 := congrArg Ev.body hc; exact h9)
  rw [← h1]
  exact evSz_len (hs e (List.mem_of_getElem? he))
/-- What the script's loop keeps. -/
def DoRel (w1 : World) (q q2 L : Nat) (v11 v12 : Value) (wr : World) : Prop :=
  ∃ (k : Nat) (s s2 : QS) (T : List ByteArray), k ≤ L ∧ v12 = .int .i64 k ∧ Duo w1 wr q s q2 s2 v11 T ∧ s.ok ∧ s2.ok ∧ s2.idd ∧ s.kore = s2.kore ∧ s.arr ≤ k ∧ T.length ≤ 256 * k ∧ ∀ t ∈ T, t.size ≤ 1000
/-- In the loop over a call's deliveries. -/
def DoIn (w1 : World) (q : Nat) (s : QS) (q2 : Nat) (s2 : QS) (base : Nat) (u : Value) (r : List De) (M : Nat) (v11 v17 : Value) (wr : World) : Prop :=
  ∃ (j : Nat) (T : List ByteArray), j ≤ r.length ∧ v17 = .int .i64 j ∧ Duo w1 wr q s q2 s2 v11 T ∧ OwnD wr base u r ∧ T.length ≤ M + j ∧ ∀ t ∈ T, t.size ≤ 1000
attribute [local go_sem ↓] run_lc11
set_option maxHeartbeats 40000000 in
set_option maxRecDepth 100000 in
theorem FifoDoes_any (pv pr : Int) (A : Option Addr) (c : Nat) (l : List Cl) (key : ByteArray) (w : World) (hl : Reads w w.heap.size 11 A l.length (l.flatMap Cl.cells)) (hn : l.length ≤ 9223372036854775807) (hin : ∀ x ∈ l, EvIn w w.heap.size x.e) (hup : ∀ x ∈ l, ClUp x) (hL : LaidW w) (hE : ErrV w) :
    Calls Tryz.prog 3 #[.agg #[.int .i64 pv, .int .i64 pr], .slice A l.length c, .string key] w fun e w' => e = .returned (.bool true) ∧ Below w.heap.size w w' := by
  obtain ⟨i0, ih, iz0, iz1, iz2⟩ := info_parts info_strD
  have HO := Lib.hid hl
  have HIN := Lib.hid hin
  have HUP := Lib.hid hup
  have HN := Lib.hid hn
  have HL := Lib.hid hL.below_
  have HE := Lib.hid hE.below_
  clear hl hn hin hup hL hE
  go_enter Tryz.func3, Tryz.ntmps3
  go_wp2_with fail
  have hbb := Blk.new w 23 #[.int .i64 pv, .int .i64 pr]
  have HB0 := Lib.hid (al_new w (.cells #[.int .i64 pv, .int .i64 pr] 23))
  refine (New_any pv pr _).mono ?_
  generalize w.alloc (.cells #[.int .i64 pv, .int .i64 pr] 23) = w1 at *
  have hz1 : w.heap.size ≤ w1.heap.size := HB0.out.size
  rintro e w2 ⟨hb2, hpo⟩
  have HB2 := Lib.hid hb2
  have hbb2 := hbb.on hb2
  have g0 : w2.cell? ⟨w.heap.size, 0, none⟩ = some (.int .i64 pv) := hbb2.cell 0
  have g1 : w2.cell? ⟨w.heap.size, 1, none⟩ = some (.int .i64 pr) := hbb2.cell 1
  clear hb2 hbb hbb2
  have hz2 : w1.heap.size ≤ w2.heap.size := HB2.out.size
  rcases hpo with ⟨hne, rfl⟩ | ⟨heq, q, rfl, hq⟩
  · have HNE := Lib.hid hne
    go_wp2_with fail
    refine (rNew_any pv pr _).mono ?_
    rintro e w3 ⟨hb3, ⟨-, rfl⟩ | ⟨heq, -⟩⟩
    · have HB3 := Lib.hid (HB0.out.trans ((HB2.out.trans (hb3.mono hz2)).mono hz1))
      clear hb3 g0 g1
      have dne : (newQ pv pr != 0) = true := by simpa using HNE.out
      have dne2 : (newQ pv pr == 0) = false := by simpa using HNE.out
      clear hne
      generalize newQ pv pr = z0 at *
      go_wp2_with fail
      refine (awake_any _ (HL.out.on (HB3.out)).at_.below_ (HE.out.on (HB3.out)).at_.below_).mono ?_
      rintro e wz ⟨rfl, hb⟩
      go_wp2_with fail
      go_ret
      exact ⟨rfl, (HB3.out).trans (hb.mono (HB3.out).size)⟩
    · exact absurd heq HNE.out
  · have HEQ := Lib.hid heq
    have hq0 := (hq.foot_lt q (.inl rfl))
    have HQ := Lib.hid hq
    have hq1 := hq0.1
    have hq2 := hq0.2
    clear hq heq hq0
    go_wp2_with fail
    refine (rNew_any pv pr _).mono ?_
    rintro e w3 ⟨hb3, ⟨hne, -⟩ | ⟨-, q2, rfl, hr⟩⟩
    · exact absurd HEQ.out hne
    · have HB3 := Lib.hid (HB0.out.trans ((HB2.out.trans (hb3.mono hz2)).mono hz1))
      have HD0 := Lib.hid (show Duo w1 w3 q ⟨pv, pr, 0, 0, [], []⟩ q2 ⟨pv, pr, 0, 0, [], []⟩ (.slice none 0 0) [] from
        ⟨⟨none, 0, none, 0, none, 0, none, 0, HQ.out.below hb3, ⟨hr.blk, own_nil _ _ _ _, own_nil _ _ _ _, fun x hx => absurd hx (by simp), fun x hx => absurd hx (by simp), by have := hr.hq; omega⟩, fun k hk hk' => by
          have h1 : k = q := by rcases hk with h | h | h; exact h; simp at h; simp at h
          have h2 : k = q2 := by rcases hk' with h | h | h; exact h; simp at h; simp at h
          have := hr.hq
          omega, own_nil _ _ _ _⟩, HB2.out.trans (hb3.mono hz2)⟩)
      have hz3 : w2.heap.size ≤ w3.heap.size := hb3.size
      have HK0 := Lib.hid (newS_ok HEQ.out)
      clear hb3 g0 g1 hr hq1 hq2
      by_cases h200 : (l.length : Int) ≤ 200
      · have hd : decide ((l.length : Int) ≤ 200) = true := decide_eq_true h200
        go_wp2_with fail
        refine (small_any A l.length c _).mono ?_
        rintro e wq ⟨rfl, hwq⟩
        obtain rfl := hwq.symm
        rw [hd]
        go_wp2_with fail
        have HD1 := Lib.hid (show Duo w1 (w3.alloc (.cells #[] 9)) q ⟨pv, pr, 0, 0, [], []⟩ q2 ⟨pv, pr, 0, 0, [], []⟩ (.slice (some ⟨w3.heap.size, 0, none⟩) 0 0) [] from by
          obtain ⟨⟨A1, c1, A1', c1', A2, c2, A2', c2', h1, h2, h3, -⟩, hb⟩ := HD0.out.on (al_new w3 (.cells #[] 9))
          exact ⟨⟨A1, c1, A1', c1', A2, c2, A2', c2', h1, h2, h3, OwnS.empty rfl (by omega)⟩, hb⟩)
        clear HD0
        go_loopw [11, 12] (fun v11 v12 wr => DoRel w1 q q2 l.length v11 v12 wr) (fun _ i _ => l.length - (intOf i).toNat)
        case atStart => exact ⟨0, _, _, [], Nat.zero_le _, rfl, HD1.out, HK0.out, HK0.out, ⟨by simp, .nil⟩, rfl, Int.le_refl _, by simp, by simp⟩
        case round =>
          clear HD1 HK0 HB2 HQ
          obtain ⟨k, s, s2, T, hk, rfl, hT, hok, hok2, hid, hko, har, hTl, hTs⟩ := hrel
          obtain ⟨v11, rfl⟩ : ∃ v : Value, v = u11 := ⟨_, rfl⟩
          obtain ⟨wo, rfl⟩ : ∃ v : World, v = wr := ⟨_, rfl⟩
          have HT := Lib.hid hT
          have HK := Lib.hid hok
          have HK2 := Lib.hid hok2
          have HID := Lib.hid hid
          have HKO := Lib.hid hko
          have HTS := Lib.hid hTs
          clear hT hok hok2 hid hko hTs
          have HBo := Lib.hid (HB0.out.trans (HT.out.below.mono hz1))
          by_cases hlt : k < l.length
          · have hx0 := List.getElem?_eq_getElem hlt
            obtain ⟨b, o, rfl, hbB, hld, c0, -⟩ := ld_cl (Reads.below HO.out HBo.out) hx0
            have HIX := Lib.hid ((HIN.out _ (List.getElem_mem hlt)).keep HBo.out)
            have HIX0 := Lib.hid ((HIN.out _ (List.getElem_mem hlt)))
            have HUX := Lib.hid (HUP.out _ (List.getElem_mem hlt))
            have HLD := Lib.hid (fun (W : World) (hW : Below w.heap.size w W) => (ld_at (Reads.below HO.out hW) hx0))
            have hkI : (k : Int) < l.length := by omega
            have hk0 : (0 : Int) ≤ k := by omega
            have har6 : s.arr < 1000000 := by omega
            clear hx0 c0
            generalize l[k] = x at *
            go_wp2_with fail
            refine (call_duo HT.out HK.out har6 x (HIX.out.more hz1) HUX.out (by omega) (fun t ht => by have := HTS.out t ht; omega) (HL.out.on HB0.out).at_.below_ (HE.out.on HB0.out).at_.below_).mono ?_
            rintro e w4 ⟨u, z, r, s', rfl, ho4, hd4, hst, hT4⟩
            obtain ⟨Au, cu, rfl⟩ := own_slice ho4
            have HT4 := Lib.hid hT4
            have HO4 := Lib.hid ho4
            have HD4 := Lib.hid hd4
            have HST := Lib.hid hst
            have hz4 : w1.heap.size ≤ w4.heap.size := hT4.below.size
            have HB4 := Lib.hid (HB0.out.trans (hT4.below.mono hz1))
            have hld4 := (HLD.out _ HB4.out).1
            clear hst hT4 ho4 hd4 hld
            go_wp2_with fail
            refine (calls_duo HT4.out HK2.out HID.out x ((HIX0.out.keep HB4.out).more hz1) HUX.out.1 (by omega) (HL.out.on HB0.out).at_.below_).mono ?_
            rintro e w5 ⟨u2, z2, r2, s2', rfl, ho5, hd5, hst5, hT5, hsty⟩
            obtain ⟨Au2, cu2, rfl⟩ := own_slice ho5
            obtain ⟨rfl, hrr, hko'⟩ := HST.out.same hst5 HKO.out
            have HT5 := Lib.hid hT5
            have HO5 := Lib.hid ho5
            have HO45 := Lib.hid (hsty.1 _ _ _ HO4.out)
            have HRR := Lib.hid hrr
            have HKO' := Lib.hid hko'
            have har2 : s2.arr < 1000000 := by have := (kore_all HKO.out).2.2.2; omega
            have h6 := HST.out.ok HK.out har6 HUX.out.1
            have h7 := hst5.ok HK2.out har2 HUX.out.1
            have HK' := Lib.hid h6.1
            have HK2' := Lib.hid h7.1
            have HID' := Lib.hid (hst5.idd HID.out)
            have hrc5 := hst5.rcs HK2.out HID.out
            have hrl := map_len hrr
            have hr256 : r.length ≤ 256 := by rw [← hrl]; exact hrc5.1
            have HRC := Lib.hid (show ∀ d ∈ r, d.rc.size ≤ 1000 ∧ d.ev.body.length ≤ 1048576 from fun d hd => by
              obtain ⟨j, hj⟩ := List.mem_iff_getElem?.1 hd
              obtain ⟨d2, hd2, he⟩ := map_at hrr hj
              obtain ⟨e1, -, e3⟩ := de_core he
              have h8 := hrc5.2 d2 (List.mem_of_getElem? hd2)
              rw [e1] at h8
              refine ⟨h8.1, ?_⟩
              have e4 : d2.ev.body = d.ev.body := (by have h9 := congrArg Ev.body e3; exact h9)
              rw [← e4]
              exact h8.2)
            have HSM := Lib.hid (sameD_any HO45.out HO5.out hrr (by omega) (fun d hd => ⟨hsty.2 _ _ (HD4.out d hd), (HRC.out d hd).2⟩) hd5)
            have har' : s'.arr ≤ ((k + 1 : Nat) : Int) := by have := h6.2.1; omega
            have HB5 := Lib.hid (HB0.out.trans (hT5.below.mono hz1))
            have hz5 : w1.heap.size ≤ w5.heap.size := hT5.below.size
            clear hT5 ho5 hd5 hst5 hsty hrr hko' h6 h7 hrc5 hrl hld4
            go_wp2_with fail
            refine HSM.out.mono ?_
            rintro e w6 ⟨rfl, hb6⟩
            have HT6 := Lib.hid (HT5.out.on hb6)
            have HO6 := Lib.hid (own_below HO45.out hb6)
            clear hb6
            clear HT HT4 HT5 HO45 HO5 HO4 HSM HST
            go_wp2_with fail
            obtain ⟨wi, rfl⟩ : ∃ v : World, v = w6 := ⟨_, rfl⟩
            obtain ⟨nb, hnb⟩ : ∃ n : Nat, n = wo.heap.size := ⟨_, rfl⟩
            rw [← hnb] at HO6
            go_loopw [11, 17] (fun v11 v17 wr => DoIn w1 q s' q2 s2' nb (.slice Au r.length cu) r (256 * k) v11 v17 wr) (fun _ j _ => r.length - (intOf j).toNat)
            case atStart => exact ⟨0, T, Nat.zero_le _, rfl, HT6.out, HO6.out, by omega, HTS.out⟩
            case round =>
              clear HT6 HO6 HTS hTl
              obtain ⟨j, T2, hj, rfl, hT7, hO7, hTl2, hTs2⟩ := hrel
              obtain ⟨p11, rfl⟩ : ∃ v : Value, v = u11 := ⟨_, rfl⟩
              have HT7 := Lib.hid hT7
              have HO7 := Lib.hid hO7
              have HTS2 := Lib.hid hTs2
              clear hT7 hO7 hTs2
              by_cases hlj : j < r.length
              · obtain ⟨d, hd⟩ : ∃ t, r[j]? = some t := ⟨_, List.getElem?_eq_getElem hlj⟩
                obtain ⟨g, c5, ea, -, -, -, hgl, hcell, -⟩ := own_at HO7.out (by omega)
                injection ea with ea _ ec
                subst ea
                subst ec
                have f0 : wr.cell? ⟨g, j * 9, none⟩ = some (.string d.rc) := by have := hcell (j * 9 + 0) _ (by rw [flat_get De.len r j 0 d hd (by omega)]; rfl); rwa [Nat.add_zero] at this
                have hrs := (HRC.out d (List.mem_of_getElem? hd)).1
                obtain ⟨P2, cP2, rfl⟩ := own_slice HT7.out.str
                have hjI : (j : Int) < r.length := by omega
                have hj0 : (0 : Int) ≤ j := by omega
                have HC1 := Lib.hid (show T2.length + 1 ≤ maxLen by simp only [maxLen]; omega)
                have HC2 := Lib.hid (show (T2.length + 1) * 16 ≤ 140737488355328 by omega)
                have HC3 := Lib.hid (show w1.heap.size ≤ (wr.alloc (.cells #[.string d.rc] 9)).heap.size by have := HT7.out.below.size; simp; omega)
                have HJW := Lib.hid (w64 (x := (j : Int) + 1) (by omega) (by omega))
                clear hd hcell
                obtain ⟨wk1, wk2⟩ := HJW.out
                go_wp2_with (at_builtin; refine wpList_append_own_at _ rfl (.tmp 81) (.tmp 87) 34 rfl w1.heap.size 9 i0 (.string ⟨#[]⟩) 1 16 Tryz.underlying34 ih iz0 iz1 iz2 rfl (by decide) _ T2.length (svals T2) rfl (World.ownsRow.alloc HT7.out.str _) ⟨wr.heap.size, 0, none⟩ 1 1 [.string d.rc] rfl rfl (cells_new_at rfl) (by intro u hu; simp at hu; subst hu; rfl) HC1.out HC2.out HC3.out ?_; intro v' wn hown1 hgr hiff hblk; clear hiff hblk; have HT8 := Lib.hid ((HT7.out.on (al_new wr (.cells #[.string d.rc] 9))).tell hown1 hgr); clear hown1 hgr)
                have HO8 := Lib.hid (HT8.out.2.1 _ _ _ (own_below HO7.out (al_new wr (.cells #[.string d.rc] 9))))
                clear wk1 wk2
                go_roundw
                case rel => exact ⟨j + 1, T2 ++ [d.rc], by omega, by first | rfl | go_num, HT8.out.1, HO8.out, by rw [List.length_append]; simp; omega, by
                  intro t ht
                  rcases List.mem_append.1 ht with ht | ht
                  · exact HTS2.out t ht
                  · rw [List.mem_singleton] at ht; subst ht; exact hrs⟩
                case measure => exact meas_lt hlj
              · obtain rfl : j = r.length := by omega
                have HB7 := Lib.hid (HB0.out.trans (HT7.out.below.mono hz1))
                have c9 := (HLD.out _ HB7.out).2.2.2.2.2.1
                have hz7 : w1.heap.size ≤ wr.heap.size := HT7.out.below.size
                clear HO7
                have HLW := Lib.hid (waitS_kore HKO'.out key)
                have hlw : (waitS s'.l key).length ≤ 1000000 := by have h1 := waitS_len s'.l key; have := HK'.out.len; omega
                have HLN := Lib.hid hlw
                have hll := kore_ll HKO'.out
                have HLL := Lib.hid hll
                have hdl : s'.d.length ≤ 1000000 := by have := HK'.out.len; omega
                have HDL := Lib.hid hdl
                have HDS := Lib.hid HK'.out.dels
                have hbz : b < wr.heap.size := by omega
                have HS := Lib.hid (show ∀ wx, Below wr.heap.size wr wx → wx.cell? ⟨b, o + k * 11 + 9, none⟩ = some (.int .i64 x.now) ∧ Below wr.heap.size wr wx from fun wx hb => ⟨(hb.cell (p := ⟨b, o + k * 11 + 9, none⟩) hbz).trans c9, hb⟩)
                clear hlw hdl
                go_upto_region 19 with fail
                go_region_held3 (fun wx => wx.cell? ⟨b, o + k * 11 + 9, none⟩ = some (.int .i64 x.now) ∧ Below wr.heap.size wr wx) (first | assumption | exact HS.out _ (by assumption) | exact HS.out _ (Below.refl _ _) | exact HS.out _ (below_drew' _)) (first
                  | (go_at_call 15; ((with_reducible refine (wait_duo (HT7.out.on (below_drew' wr)) HK'.out key).mono ?_); rintro e wa ⟨v1, rfl, ho1, hba⟩; have HSA : Below wr.heap.size wr wa := (below_drew' wr).trans hba; have HBA := Lib.hid HSA; have HO1 := Lib.hid ho1; clear ho1 hba))
                  | (go_at_call 16; ((with_reducible refine (waitR_duo (HT7.out.on HBA.out) HK2'.out key).mono ?_); rintro e wb ⟨v2, rfl, ho2, hbb⟩; have HSB : Below wr.heap.size wr wb := HBA.out.trans (hbb.mono HBA.out.size); have HBB := Lib.hid HSB; have HO1B := Lib.hid (show OwnS wb wr.drew.heap.size v1 (waitS s'.l key) from own_below HO1.out hbb); have HO2 := Lib.hid ho2; clear ho2 hbb; rw [← HLW.out] at HO2))
                  | (go_at_call 14; ((with_reducible refine (SameS_any HO1B.out HO2.out HLN.out).mono ?_); rintro e wc ⟨rfl, hbc⟩; have HSC : Below wr.heap.size wr wc := HBB.out.trans (hbc.mono HBB.out.size); have HBC := Lib.hid HSC; clear hbc))
                  | (go_at_call 17; ((with_reducible refine (keys_duo (HT7.out.on HBC.out) HK'.out x.now).mono ?_); rintro e wd ⟨hbd, v3, L3, rfl, hk3, ho3⟩; have HSD : Below wr.heap.size wr wd := HBC.out.trans (hbd.mono HBC.out.size); have HBD := Lib.hid HSD; have HO3 := Lib.hid ho3; have HK3 := Lib.hid hk3; clear ho3 hk3 hbd))
                  | (go_at_call 18; ((with_reducible refine (keysR_duo (HT7.out.on HBD.out) HK2'.out x.now).mono ?_); rintro e we ⟨hbe, v4, L4, rfl, hk4, ho4⟩; obtain rfl := HK3.out.same hk4 HKO'.out; have HSE : Below wr.heap.size wr we := HBD.out.trans (hbe.mono HBD.out.size); have HBE := Lib.hid HSE; have HO3E := Lib.hid (show OwnS we wc.heap.size v3 L3 from own_below HO3.out hbe); have HO4 := Lib.hid ho4; clear ho4 hk4 hbe))
                  | (go_at_call 14; ((with_reducible refine (SameS_any HO3E.out HO4.out (HK3.out.len HK'.out)).mono ?_); rintro e wf ⟨rfl, hbf⟩; have HSF : Below wr.heap.size wr wf := HBE.out.trans (hbf.mono HBE.out.size); have HBF := Lib.hid HSF; clear hbf))
                  | (go_at_call 19; ((with_reducible refine (len_duo (HT7.out.on HBF.out) HK'.out).mono ?_); rintro e wq ⟨rfl, hwq⟩; obtain rfl := hwq.symm))
                  | (go_at_call 20; ((with_reducible refine (lenR_duo (HT7.out.on HBF.out) HK2'.out).mono ?_); rintro e wq ⟨rfl, hwq⟩; obtain rfl := hwq.symm; rw [← HLL.out]))
                  | (go_at_call 22; ((with_reducible refine (dead_duo (HT7.out.on HBF.out) HK'.out).mono ?_); rintro e wg ⟨v5, r5, rfl, ho5, hr5, he5, hbg⟩; obtain ⟨A5, c5, rfl⟩ := own_slice ho5; have HSG : Below wr.heap.size wr wg := HBF.out.trans (hbg.mono HBF.out.size); have HBG := Lib.hid HSG; have HO5 := Lib.hid ho5; have HR5 := Lib.hid hr5; have HE5 := Lib.hid he5; clear ho5 hr5 he5 hbg))
                  | (go_at_call 23; ((with_reducible refine (deadR_duo (HT7.out.on HBG.out) HK2'.out).mono ?_); rintro e wh ⟨v6, r6, rfl, ho6, hr6, he6, hbh⟩; obtain ⟨A6, c6, rfl⟩ := own_slice ho6; have HSH : Below wr.heap.size wr wh := HBG.out.trans (hbh.mono HBG.out.size); have HBH := Lib.hid HSH; have HBH2 := Lib.hid hbh; have HO6 := Lib.hid ho6; have HO5H := Lib.hid (show OwnV wh wf.heap.size (.slice A5 r5.length c5) r5 from own_below HO5.out hbh); have HE5H := Lib.hid (show ∀ y ∈ r5, EvQ wh wf.heap.size y ∧ y.body.length ≤ 1048576 from fun y hy => ⟨(HE5.out y hy).below hbh, dead_len HR5.out HDS.out hy⟩); have HN5 := Lib.hid (show r5.length ≤ 1000000 by rw [show r5.length = s'.d.length from map_len HR5.out.symm]; exact HDL.out); have HR6 := Lib.hid (HR5.out.trans ((kore_d HKO'.out).trans hr6.symm)); have HE6 := Lib.hid he6; clear ho6 hr6 he6 hbh))
                  | (go_at_call 21; ((with_reducible refine (sameV_any HO5H.out HO6.out HR6.out HN5.out HE5H.out HE6.out).mono ?_); rintro e wi2 ⟨rfl, hbi⟩; have HSI : Below wr.heap.size wr wi2 := HBH.out.trans (hbi.mono HBH.out.size); have HBI := Lib.hid HSI; clear hbi)))
                rename_i hHeld
                clear hHeld HSA HSB HSC HSD HSE HSF HSG HSH HSI
                have HKW := Lib.hid (w64 (x := (k : Int) + 1) (by omega) (by omega))
                obtain ⟨wk1, wk2⟩ := HKW.out
                go_wp2_with fail
                clear wk1 wk2
                go_roundw
                case rel => exact ⟨k + 1, s', s2', T2, by omega, by first | rfl | go_num, HT7.out.on HBI.out, HK'.out, HK2'.out, HID'.out, HKO'.out, har', by omega, HTS2.out⟩
                case measure => exact meas_lt hlt
          · go_wp2_with fail
            refine (awake_any _ (HL.out.on (HBo.out)).at_.below_ (HE.out.on (HBo.out)).at_.below_).mono ?_
            rintro e wz ⟨rfl, hb⟩
            go_wp2_with fail
            go_ret
            exact ⟨rfl, (HBo.out).trans (hb.mono (HBo.out).size)⟩
      · have hd : decide ((l.length : Int) ≤ 200) = false := decide_eq_false h200
        go_wp2_with fail
        refine (small_any A l.length c _).mono ?_
        rintro e wq ⟨rfl, hwq⟩
        obtain rfl := hwq.symm
        rw [hd]
        go_wp2_with fail
        refine (awake_any _ (HL.out.on (HB3.out)).at_.below_ (HE.out.on (HB3.out)).at_.below_).mono ?_
        rintro e wz ⟨rfl, hb⟩
        go_wp2_with fail
        go_ret
        exact ⟨rfl, (HB3.out).trans (hb.mono (HB3.out).size)⟩
end Go.Proofs.YtbofclohnmojmaaGreatDoor
