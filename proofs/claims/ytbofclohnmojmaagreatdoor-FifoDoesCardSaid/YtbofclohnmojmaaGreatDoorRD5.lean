/- The reference's Receive. -/
import Derived.Test.YtbofclohnmojmaaGreatDoorRD3
import Derived.Test.YtbofclohnmojmaaGreatDoorRD6
namespace Go.Proofs.YtbofclohnmojmaaGreatDoor
open Go.RowKit
open Go.Sort (grow)

/-- In the loop: the first k waiting events have been looked at. -/
def RcRelR (w : World) (B q : Nat) (A A' A2 : Option Addr) (c2 : Nat) (A3 : Option Addr) (c3 : Nat) (s1 : QS) (most : Int) (v7 v8 : Value) (wx : World) : Prop :=
  ∃ (k : Nat) (r : List De), k ≤ s1.l.length ∧ v8 = .int .i64 k ∧ OwnD wx w.heap.size v7 r ∧ r.map De.core = (rkD s1 k).map De.core ∧ (∀ d ∈ r, EvQ wx w.heap.size d.ev) ∧ RQ wx B q A2 c2 A3 c3 { s1 with l := rkL s1 k } ∧ (rdyL s1.now s1.l k).length ≤ most.toNat ∧ Chg (ff q A A') w wx
/-- What Receive leaves. -/
def RcPostR (w : World) (B q : Nat) (A A' : Option Addr) (s : QS) (now most : Int) (e : Ending) (w' : World) : Prop :=
  (clkE s.now now ≠ 0 ∧ ∃ v, e = .returned v ∧ OwnD w' w.heap.size v [] ∧ RTo w B q A A' s w') ∨
  (clkE s.now now = 0 ∧ ∃ s1 v r, AccR s now s1 ∧ e = .returned v ∧ OwnD w' w.heap.size v r ∧ r.map De.core = (rcvD s1 most).map De.core ∧ (∀ d ∈ r, EvQ w' w.heap.size d.ev) ∧ RTo w B q A A' (rcvS s1 most) w')
section
variable {w : World} {B q c c' g : Nat} {A A' : Option Addr} {s : QS}
theorem Blk.drw {t : TypeId} {b : Nat} {cs : Array Value} (h : Blk w b t cs) : Blk w.drew b t cs := h
end
section
variable {w : World} {B q c c' : Nat} {A A' : Option Addr} {s : QS}
attribute [local go_sem ↓] run_lc10
attribute [local go_sem ↓] run_lc7
set_option maxHeartbeats 16000000 in
set_option maxRecDepth 20000 in
theorem rReceive_any (hB : B ≤ w.heap.size) (hQ : RQ w B q A c A' c' s) (hok : s.ok) (now most : Int) :
    Calls Tryz.prog 34 #[.pointer (some ⟨q, 0, none⟩), .int .i64 now, .int .i64 most] w (RcPostR w B q A A' s now most) := by
  have hb0 : Below w.heap.size w (w.alloc (.cells #[] 46)) := al_new w _
  have HO0 := Lib.hid (show OwnD (w.alloc (.cells #[] 46)) w.heap.size (.slice (some ⟨w.heap.size, 0, none⟩) 0 0) [] from by
    have h := World.ownsRow_lit (base := w.heap.size) (size := 9) (e := 46) w #[] 0 (Nat.le_refl _) (by decide) rfl
    simpa [OwnD] using h)
  have HQ := Lib.hid hQ
  have HQ0 := Lib.hid (hQ.below hb0)
  have HK := Lib.hid hok
  have HBW := Lib.hid hB
  have HB0 := Lib.hid hb0
  have hz0 : w.heap.size < (w.alloc (.cells #[] 46)).heap.size := (Blk.new w 46 #[]).lt
  clear hQ hok hB hb0
  go_enter Tryz.func34, Tryz.ntmps34
  go_wp2_with fail
  generalize w.alloc (.cells #[] 46) = w0 at *
  refine (raccept_any (Nat.le_trans HBW.out (Nat.le_of_lt hz0)) HQ0.out HK.out now).mono ?_
  rintro e w1 (⟨hc, rfl, hq1⟩ | ⟨hc, rfl, s1, hacc, A2, c2, A3, c3, hq1, hch, hfr⟩)
  · have d1 : (clkE s.now now != 0) = true := by simpa using hc
    have HC := Lib.hid hc
    have HQ1 := Lib.hid hq1
    have HO1 := Lib.hid (show OwnD w1 w.heap.size (.slice (some ⟨w.heap.size, 0, none⟩) 0 0) [] from by
      obtain ⟨_, _, _, _, _, hch, _⟩ := hq1
      exact hch.own HO0.out (fun k hk e => by
        have h1 : w.heap.size = k := Option.some.inj hk
        have := (HQ.out.foot_lt k e).2
        omega))
    clear hc hq1
    go_wp2_with fail
    go_ret
    exact .inl ⟨HC.out, _, rfl, HO1.out, RTo.trans (w1 := w0) (Chg.of_below HB0.out) (fun _ h => .inl h) HQ1.out⟩
  · have HC := Lib.hid hc
    have HAC := Lib.hid hacc
    have hk1 := hacc.ok HK.out ⟨(clk0 HC.out).1, (clk0 HC.out).2.1⟩
    have HK1 := Lib.hid hk1
    have hnw : s1.now = now := hacc.stay.1
    have hfoot := HQ.out.foot_lt
    have HO1 := Lib.hid (show OwnD w1 w.heap.size (.slice (some ⟨w.heap.size, 0, none⟩) 0 0) [] from hch.own HO0.out (fun k hk e => by
        have h1 : w.heap.size = k := Option.some.inj hk
        have := (hfoot k e).2
        omega))
    have HCH := Lib.hid ((Chg.of_below (S := ff q A A') HB0.out).trans hch (fun _ _ h => h))
    have HFR := Lib.hid (show ∀ k, ff q A2 A3 k → ff q A A' k ∨ w.heap.size ≤ k from fun k hk => (hfr k hk).imp id (fun h => by omega))
    have HQ1 := Lib.hid hq1
    have hz1 : w.heap.size ≤ w1.heap.size := HCH.out.size
    have hll : s1.l.length ≤ 256 := by have := hk1.len; omega
    subst hnw
    have hnb := (clk0 HC.out)
    have hvb := hk1.v
    have HW2 := Lib.hid (w64 (x := s1.now + s1.v) (by omega) (by omega))
    clear hc hacc hq1 hch hfr hk1 hfoot hnb hvb
    go_wp2_with fail
    go_loopw [7, 8, 9] (fun v7 v8 _ wr => RcRelR w B q A A' A2 c2 A3 c3 s1 most v7 v8 wr) (fun _ v8 _ _ => s1.l.length - (intOf v8).toNat)
    case atStart => exact ⟨0, [], Nat.zero_le _, rfl, HO1.out, by rw [(rk_zero s1).1], fun d hd => absurd hd (by simp), by rw [(rk_zero s1).2]; exact HQ1.out, Nat.zero_le _, HCH.out⟩
    case round =>
      obtain ⟨k, r, hk, rfl, hown, hrD, hre, hq5, hlm, hch5⟩ := hrel
      obtain ⟨v, rfl⟩ : ∃ v : Value, v = u7 := ⟨_, rfl⟩
      obtain ⟨Ad, cd, rfl⟩ := own_slice hown
      have hrl : r.length = (rdyL s1.now s1.l k).length := by have := congrArg List.length hrD; simp only [List.length_map] at this; rw [this, (rk_len hk).1]
      have hcl : (rkL s1 k).length = s1.l.length := (rk_len hk).2
      have hrl2 : r.length ≤ k := by rw [hrl]; exact rdyL_len _ _ _
      have HO := Lib.hid hown
      have HRD := Lib.hid hrD
      have HRE := Lib.hid hre
      have HQ5 := Lib.hid hq5
      have HCH5 := Lib.hid hch5
      have HRL := Lib.hid hrl
      have HCL := Lib.hid hcl
      have HLM := Lib.hid hlm
      have hz5 : w.heap.size ≤ wr.heap.size := hch5.size
      have q2 : wr.cell? ⟨q, 2, none⟩ = some (.slice A2 (rkL s1 k).length c2) := hq5.blk.cell 2
      rw [hcl] at q2
      have hfin : k = s1.l.length ∨ ¬ (r.length : Int) < most → RcPostR w B q A A' s s1.now most (.returned (.slice Ad r.length cd)) wr := fun hend => by
        obtain ⟨e1, e2⟩ := rk_end (most := most) hk HLM.out (hend.imp id (fun h => by rw [← HRL.out]; omega))
        refine .inr ⟨HC.out, s1, _, r, HAC.out, rfl, HO.out, by rw [e1]; exact HRD.out, HRE.out, ?_⟩
        rw [e2]
        exact ⟨A2, c2, A3, c3, HQ5.out, HCH5.out, HFR.out⟩
      have HFIN := Lib.hid hfin
      clear hown hrD hre hq5 hlm hch5 hfin hrl hcl
      by_cases hlt : k < s1.l.length
      · by_cases hm : (r.length : Int) < most
        · have dm : decide ((r.length : Int) < most) = true := decide_eq_true hm
          obtain ⟨x, hx⟩ : ∃ t, s1.l[k]? = some t := ⟨_, List.getElem?_eq_getElem hlt⟩
          have hxk : (rkL s1 k)[k]? = some x := (rk_at hk).trans hx
          obtain ⟨g, rfl, -, -, -⟩ := HQ5.out.row.item hxk
          have HX := Lib.hid hx
          have HXK := Lib.hid hxk
          have HKB := Lib.hid (show Calls Tryz.prog 59 #[.slice (some ⟨g, 0, none⟩) s1.l.length c2, .int .i64 k] wr fun e w' => e = .returned (.bool (keyAt s1.l k x.ev.key)) ∧ Below wr.heap.size wr w' from by
            have h := blocked_any (l := rkL s1 k) HQ5.out.row (by rw [HCL.out]; omega) hxk
            rw [HCL.out, rk_key hk] at h
            exact h)
          have hki : (k : Int) < s1.l.length := by omega
          have hk0 : (0 : Int) ≤ k := by omega
          have HK1' := Lib.hid (show k + 1 ≤ s1.l.length from hlt)
          have HKW := Lib.hid (w64 (x := (k : Int) + 1) (by omega) (by omega))
          obtain ⟨e7, f7⟩ := HQ5.out.ecell hxk (j := 7) (u := .int .i64 x.vis) rfl
          have hno : rdyB s1.now s1.l k = false → ∀ wx : World, Below wr.heap.size wr wx → RcRelR w B q A A' (some ⟨g, 0, none⟩) c2 A3 c3 s1 most (.slice Ad r.length cd) (.int .i64 ((k : Int) + 1)) wx := fun hn wx hb => by
            obtain ⟨e1, e2⟩ := rk_no hn
            refine ⟨k + 1, r, HK1'.out, by first | rfl | go_num, own_below HO.out hb, by rw [e1]; exact HRD.out, fun d hd => (HRE.out d hd).below hb, by rw [e2]; exact HQ5.out.below hb, by rw [rdyL_no hn]; exact HLM.out, HCH5.out.below hb⟩
          have HNO := Lib.hid hno
          clear hx hxk hno
          by_cases hv : x.vis ≤ s1.now
          · have dv : decide (x.vis ≤ s1.now) = true := decide_eq_true hv
            go_wp2_with fail
            refine HKB.out.mono ?_
            rintro e w2 ⟨rfl, hb2⟩
            have HB2 := Lib.hid hb2
            cases hka : keyAt s1.l k x.ev.key with
            | true =>
              have HR := Lib.hid (HNO.out (by unfold rdyB; rw [HX.out]; simp only [hka]; rfl) w2 hb2)
              clear hka hb2
              obtain ⟨wk1, wk2⟩ := HKW.out
              go_wp2_with fail
              clear wk1 wk2
              go_roundw
              case rel => exact HR.out
              case measure => exact meas_lt hlt
            | false =>
              have hrd : rdyB s1.now s1.l k = true := by unfold rdyB; rw [HX.out]; simp only [hka, dv]; rfl
              have HRDY := Lib.hid hrd
              have hq6 := HQ5.out.below hb2
              have HQ6 := Lib.hid hq6
              have q22 : w2.cell? ⟨q, 2, none⟩ = some (.slice (some ⟨g, 0, none⟩) s1.l.length c2) := by have := hq6.blk.cell 2; exact ((hb2.cell (p := ⟨q, 2, none⟩) HQ5.out.blk.lt).trans q2)
              have q20 : w2.cell? ⟨q, 0, none⟩ = some (.int .i64 s1.v) := hq6.blk.cell 0
              obtain ⟨e8, f8⟩ := hq6.ecell HXK.out (j := 8) (u := .int .i64 x.rcv) rfl
              obtain ⟨e9, f9⟩ := hq6.ecell HXK.out (j := 9) (u := .bool x.held) rfl
              obtain ⟨e7', f7'⟩ := hq6.ecell HXK.out (j := 7) (u := .int .i64 x.vis) rfl
              have hqg : q ≠ g := fun e => hq6.ne.1 (by rw [e]; rfl)
              have hrcv := HK1.out.rcv x (List.mem_of_getElem? HX.out)
              have HW1 := Lib.hid (w64 (x := x.rcv + 1) (by omega) (by omega))
              have hz2 : wr.heap.size ≤ w2.heap.size := hb2.size
              have hgot := hq6.got HXK.out s1.now s1.v
              have HG := Lib.hid hgot
              clear hka hrd hb2 hq6 hgot e7 f7 q2
              obtain ⟨wa1, wa2⟩ := HW1.out
              obtain ⟨wb1, wb2⟩ := HW2.out
              go_wp2_with fail
              go_region
              go_wp2_with fail
              go_region
              go_upto_region 11 with fail
              clear wa1 wa2 wb1 wb2 e8 f8 e9 f9 e7' f7' q22 q20
              have h3q := HG.out.1.below (below_drew' _).drew
              have h3c := HG.out.2.drew.drew
              generalize ((((w2.setCell ⟨g, k * 10 + 8, none⟩ (.int .i64 (x.rcv + 1))).setCell ⟨g, k * 10 + 9, none⟩ (.bool true)).setCell ⟨g, k * 10 + 7, none⟩ (.int .i64 (s1.now + s1.v))).drew).drew = w3 at *
              have hx' : ((rkL s1 k).set k (x.got s1.now s1.v))[k]? = some (x.got s1.now s1.v) := by rw [List.getElem?_set_self (List.getElem?_eq_some_iff.1 HXK.out).1]
              have hld : Sem.run Tryz.prog (lc10 ⟨g, k * 10, none⟩) w3 = .ok #[.string x.ev.id, .string x.ev.tn, .string x.ev.src, .string x.ev.key, .int .i64 x.ev.at_, .string x.ev.cause, .slice x.ev.A x.ev.body.length x.ev.cp, .int .i64 (s1.now + s1.v), .int .i64 (x.rcv + 1), .bool true] w3 := h3q.iload hx' Tryz.prog (w' := w3) (fun _ => rfl)
              have q23 : w3.cell? ⟨q, 2, none⟩ = some (.slice (some ⟨g, 0, none⟩) ((rkL s1 k).set k (x.got s1.now s1.v)).length c2) := h3q.blk.cell 2
              rw [List.length_set, HCL.out] at q23
              have HQ7 := Lib.hid h3q
              have HC7 := Lib.hid h3c
              have HX' := Lib.hid hx'
              have hz3 : w.heap.size ≤ w3.heap.size := Nat.le_trans (Nat.le_trans hz5 hz2) h3c.size
              clear h3q h3c hx' HG
              go_upto_region 12 with fail
              have hb4 := al_new w3 (.cells #[.string x.ev.id, .string x.ev.tn, .string x.ev.src, .string x.ev.key, .int .i64 x.ev.at_, .string x.ev.cause, .slice x.ev.A x.ev.body.length x.ev.cp, .int .i64 (s1.now + s1.v), .int .i64 (x.rcv + 1), .bool true] 78)
              have b4 := Blk.new w3 78 #[.string x.ev.id, .string x.ev.tn, .string x.ev.src, .string x.ev.key, .int .i64 x.ev.at_, .string x.ev.cause, .slice x.ev.A x.ev.body.length x.ev.cp, .int .i64 (s1.now + s1.v), .int .i64 (x.rcv + 1), .bool true]
              have HQ8 := Lib.hid (HQ7.out.below hb4)
              have HB4 := Lib.hid hb4
              have hz4 : w3.heap.size < (w3.alloc (.cells #[.string x.ev.id, .string x.ev.tn, .string x.ev.src, .string x.ev.key, .int .i64 x.ev.at_, .string x.ev.cause, .slice x.ev.A x.ev.body.length x.ev.cp, .int .i64 (s1.now + s1.v), .int .i64 (x.rcv + 1), .bool true] 78)).heap.size := b4.lt
              clear hb4 hld q23
              obtain ⟨bb, hbb⟩ : ∃ bb, bb = w3.heap.size := ⟨_, rfl⟩
              rw [← hbb] at b4 hz4 ⊢
              generalize w3.alloc (.cells #[.string x.ev.id, .string x.ev.tn, .string x.ev.src, .string x.ev.key, .int .i64 x.ev.at_, .string x.ev.cause, .slice x.ev.A x.ev.body.length x.ev.cp, .int .i64 (s1.now + s1.v), .int .i64 (x.rcv + 1), .bool true] 78) = w4 at *
              have HS := Lib.hid (show ∀ w', Blk w' bb 78 #[.string x.ev.id, .string x.ev.tn, .string x.ev.src, .string x.ev.key, .int .i64 x.ev.at_, .string x.ev.cause, .slice x.ev.A x.ev.body.length x.ev.cp, .int .i64 (s1.now + s1.v), .int .i64 (x.rcv + 1), .bool true] → (Sem.run Tryz.prog (lc10 ⟨bb, 0, none⟩) w' = .ok #[.string x.ev.id, .string x.ev.tn, .string x.ev.src, .string x.ev.key, .int .i64 x.ev.at_, .string x.ev.cause, .slice x.ev.A x.ev.body.length x.ev.cp, .int .i64 (s1.now + s1.v), .int .i64 (x.rcv + 1), .bool true] w' ∧ Sem.run Tryz.prog (lc7 ⟨bb, 0, none⟩) w' = .ok #[.string x.ev.id, .string x.ev.tn, .string x.ev.src, .string x.ev.key, .int .i64 x.ev.at_, .string x.ev.cause, .slice x.ev.A x.ev.body.length x.ev.cp] w' ∧ w'.cell? ⟨bb, 8, none⟩ = some (.int .i64 (x.rcv + 1))) ∧ Blk w' bb 78 #[.string x.ev.id, .string x.ev.tn, .string x.ev.src, .string x.ev.key, .int .i64 x.ev.at_, .string x.ev.cause, .slice x.ev.A x.ev.body.length x.ev.cp, .int .i64 (s1.now + s1.v), .int .i64 (x.rcv + 1), .bool true] from fun w' hb =>
                ⟨⟨blk_lc10 hb Tryz.prog, run_loadCellsFrom_list Tryz.prog w' ⟨bb, 0, none⟩ x.ev.cells 7 rfl (fun j u hj => by
                  rw [Addr.add_lit, Nat.zero_add]
                  have hjk : j < 7 := by rw [← Ev.len x.ev]; exact (List.getElem?_eq_some_iff.1 hj).1
                  have : (#[.string x.ev.id, .string x.ev.tn, .string x.ev.src, .string x.ev.key, .int .i64 x.ev.at_, .string x.ev.cause, .slice x.ev.A x.ev.body.length x.ev.cp, .int .i64 (s1.now + s1.v), .int .i64 (x.rcv + 1), .bool true] : Array Value)[j]? = some u := by
                    rw [← hj, ← Array.getElem?_toList]
                    show (x.ev.cells ++ [.int .i64 (s1.now + s1.v), .int .i64 (x.rcv + 1), .bool true])[j]? = _
                    rw [List.getElem?_append_left (by rw [Ev.len]; exact hjk)]
                  rw [hb.cell j]
                  exact this), hb.cell 8⟩, hb⟩)
              have hoffg : OffC w2 (fun j => j = g) := fun j hj => HQ6.out.offC j (.inr (.inl (by rw [hj]; rfl)))
              have hneg : ∀ j, (Value.slice Ad r.length cd).ownBlock = some j → j ≠ g := fun j hj e => by
                subst e
                obtain ⟨cs, hb⟩ := own_blk HO.out hj
                exact hb.off HQ5.out.row (by decide) (k := j) rfl rfl
              have HNG := Lib.hid hneg
              have HO8 := Lib.hid (show OwnD w4 w.heap.size (.slice Ad r.length cd) r from own_below (HC7.out.own (own_below HO.out HB2.out) (fun j hj e => hneg j hj e)) HB4.out)
              have HRE8 := Lib.hid (show ∀ d ∈ r, EvQ w4 w.heap.size d.ev from fun d hd => (((HRE.out d hd).below HB2.out).chg HC7.out hoffg).below HB4.out)
              have HEQ := Lib.hid (show EvQ w4 B x.ev from HQ8.out.bl (x.got s1.now s1.v) (List.mem_of_getElem? HX'.out))
              have HCH8 := Lib.hid (((HCH5.out.below HB2.out).narrow HC7.out (fun j hj => by subst hj; exact HFR.out _ (.inr (.inl rfl)))).below HB4.out)
              have hbl : x.ev.body.length ≤ 3518437208780 := Nat.le_trans (HK1.out.els x (List.mem_of_getElem? HX.out)).2.2.2.2.2.1 (by decide)
              have hids : x.ev.id.size ≤ 1048576 := (HK1.out.els x (List.mem_of_getElem? HX.out)).1
              have HRCP := Lib.hid (show ∀ W, Calls Tryz.prog 60 #[.agg #[.string x.ev.id, .string x.ev.tn, .string x.ev.src, .string x.ev.key, .int .i64 x.ev.at_, .string x.ev.cause, .slice x.ev.A x.ev.body.length x.ev.cp, .int .i64 (s1.now + s1.v), .int .i64 (x.rcv + 1), .bool true]] W fun e w' => e = .returned (.string (rcpS x.ev.id (x.rcv + 1))) ∧ Below W.heap.size W w' from fun W => rreceipt_any (x.got s1.now s1.v) W (show 0 ≤ x.rcv + 1 by omega) (show x.rcv + 1 ≤ 1000 by omega) hids)
              obtain ⟨i0, ih, iz0, iz1, iz2⟩ := info_partsO info_del
              have HA1 := Lib.hid (show r.length + 1 ≤ maxLen by simp only [maxLen]; omega)
              have HA2 := Lib.hid (show (r.length + 1) * 136 ≤ 140737488355328 by omega)
              have hz8 : w.heap.size ≤ w4.heap.size := by omega
              have HNB := Lib.hid (show ∀ j, (Value.slice Ad r.length cd).ownBlock = some j → bb ≠ j from fun j hj e => by
                subst e
                obtain ⟨cs, hb⟩ := own_blk HO8.out hj
                exact b4.ne_ hb (by decide) rfl)
              obtain ⟨wk1, wk2⟩ := HKW.out
              clear hoffg hneg hbb
              go_region_held3 (fun w' => (Sem.run Tryz.prog (lc10 ⟨bb, 0, none⟩) w' = .ok #[.string x.ev.id, .string x.ev.tn, .string x.ev.src, .string x.ev.key, .int .i64 x.ev.at_, .string x.ev.cause, .slice x.ev.A x.ev.body.length x.ev.cp, .int .i64 (s1.now + s1.v), .int .i64 (x.rcv + 1), .bool true] w' ∧ Sem.run Tryz.prog (lc7 ⟨bb, 0, none⟩) w' = .ok #[.string x.ev.id, .string x.ev.tn, .string x.ev.src, .string x.ev.key, .int .i64 x.ev.at_, .string x.ev.cause, .slice x.ev.A x.ev.body.length x.ev.cp] w' ∧ w'.cell? ⟨bb, 8, none⟩ = some (.int .i64 (x.rcv + 1))) ∧ Blk w' bb 78 #[.string x.ev.id, .string x.ev.tn, .string x.ev.src, .string x.ev.key, .int .i64 x.ev.at_, .string x.ev.cause, .slice x.ev.A x.ev.body.length x.ev.cp, .int .i64 (s1.now + s1.v), .int .i64 (x.rcv + 1), .bool true]) (first | assumption | exact HS.out _ (by assumption) | exact HS.out _ (Blk.drw (by assumption)) | exact HS.out _ (Blk.alloc (by assumption) _)) (first
                | (go_at_call 60; ((with_reducible refine (HRCP.out w4.drew).mono ?_); rintro e wa ⟨rfl, hba⟩; have HBA := Lib.hid (show Below w4.heap.size w4 wa from (below_drew' w4).trans hba); have HSA := b4.on HBA.out; clear hba))
                | (go_at_call 46; ((with_reducible refine (rown_any x.ev wa ((HEQ.out.below HBA.out).inn) hbl).mono ?_); rintro e wb ⟨Ay, cy, rfl, hev, hbb⟩; have HBB := Lib.hid (HBA.out.trans (hbb.mono HBA.out.size)); have HSB := b4.on HBB.out; have HEV := Lib.hid (hev.base (Nat.le_trans hz8 HBA.out.size)); clear hev hbb; simp only [Ev.val]))
                | (refine step_append_any _ rfl (.tmp 94) (.tmp 103) 35 rfl w.heap.size 46 i0 (.agg #[.string ⟨#[]⟩, .string ⟨#[]⟩, .string ⟨#[]⟩, .string ⟨#[]⟩, .string ⟨#[]⟩, .int .i64 0, .string ⟨#[]⟩, .slice none 0 0, .int .i64 0]) 9 136 Tryz.underlying35 ih iz0 iz1 iz2 rfl (by decide) (.slice Ad r.length cd) r.length (r.flatMap De.cells) (by simp [Act.eval]) ((own_below HO8.out HBB.out).alloc _) (wb.heap.size + 1) (some ⟨wb.heap.size, 0, none⟩) 1 1 [.string (rcpS x.ev.id (x.rcv + 1)), .string x.ev.id, .string x.ev.tn, .string x.ev.src, .string x.ev.key, .int .i64 x.ev.at_, .string x.ev.cause, .slice Ay x.ev.body.length cy, .int .i64 (x.rcv + 1)] (by simp [Act.eval]) (reads_new9 wb _ _ _ _ _ _ _ _ _ _) (De.one ⟨rcpS x.ev.id (x.rcv + 1), { x.ev with A := Ay, cp := cy }, x.rcv + 1⟩) HA1.out HA2.out (Nat.le_trans hz8 (Nat.le_trans HBB.out.size (by simp))) ?_; intro v' wn hown hgr hblk; have HGN := Lib.hid (And.intro hown hgr); have HSN := (((Chg.refl (fun j => (Value.slice Ad r.length cd).ownBlock = some j) wb).alloc _).grown hgr (fun j hj _ => hj)).blk HSB (fun e => HNB.out _ e rfl); clear hown hgr hblk))
              have hcw : Chg (fun j => (Value.slice Ad r.length cd).ownBlock = some j) wb wn := ((Chg.refl _ wb).alloc _).grown HGN.out.2 (fun j hj _ => hj)
              have hoffw : OffC wb (fun j => (Value.slice Ad r.length cd).ownBlock = some j) := fun j hj cs m e => by
                obtain ⟨cs', hb⟩ := own_blk (own_below HO8.out HBB.out) hj
                unfold Blk at hb
                rw [hb] at e
                injection e with e
                injection e with _ e
                exact absurd e (by decide)
              have hnf : ∀ j, ff q (some ⟨g, 0, none⟩) A3 j → ¬ (Value.slice Ad r.length cd).ownBlock = some j := fun j hj e => by
                obtain ⟨cs, hb⟩ := own_blk HO8.out e
                rcases hj with h | h | h
                · subst h
                  exact HQ8.out.blk.ne_ hb (by decide) rfl
                · exact hb.off HQ8.out.row (by decide) (k := j) (by rw [own_eq]; exact h) rfl
                · exact hb.off HQ8.out.dead (by decide) (k := j) (by rw [own_eq]; exact h) rfl
              have HQN := Lib.hid ((HQ8.out.below HBB.out).chg hcw hnf hoffw)
              have HON := Lib.hid (OwnD.push (x := ⟨rcpS x.ev.id (x.rcv + 1), { x.ev with A := Ay, cp := cy }, x.rcv + 1⟩) HGN.out.1)
              have HEN := Lib.hid (show ∀ d ∈ r ++ [(⟨rcpS x.ev.id (x.rcv + 1), { x.ev with A := Ay, cp := cy }, x.rcv + 1⟩ : De)], EvQ wn w.heap.size d.ev from fun d hd => by
                rcases List.mem_append.1 hd with hd | hd
                · exact ((HRE8.out d hd).below HBB.out).chg hcw hoffw
                · rw [List.mem_singleton.1 hd]; exact HEV.out.chg hcw hoffw)
              have HCN := Lib.hid ((HCH8.out.below HBB.out).narrow hcw (fun j hj => .inr (own_ge HO8.out j hj)))
              have HYS := Lib.hid (rk_yes HX.out HRDY.out)
              have HLN := Lib.hid (show (rdyL s1.now s1.l (k + 1)).length ≤ most.toNat by
                rw [rdyL_yes HRDY.out, List.length_append, ← HRL.out]
                clear wk1 wk2
                simp only [List.length_cons, List.length_nil]
                omega)
              rename_i hHeld
              clear hcw hoffw hnf hHeld HSA HSB HSN
              go_wp2_with fail
              clear wk1 wk2
              go_roundw
              case rel => exact ⟨k + 1, _, HK1'.out, by first | rfl | go_num, HON.out, by rw [List.map_append, HYS.out.1, List.map_append, HRD.out]; rfl, HEN.out, by rw [HYS.out.2]; exact HQN.out, HLN.out, HCN.out⟩
              case measure => exact meas_lt hlt
          · have dv : decide (x.vis ≤ s1.now) = false := decide_eq_false hv
            have HR := Lib.hid (HNO.out (by unfold rdyB; rw [HX.out]; simp only [dv, Bool.and_false]) wr (Below.refl _ _))
            clear hv
            obtain ⟨wk1, wk2⟩ := HKW.out
            go_wp2_with fail
            clear wk1 wk2
            go_roundw
            case rel => exact HR.out
            case measure => exact meas_lt hlt
        · have dm : decide ((r.length : Int) < most) = false := decide_eq_false hm
          have HF := Lib.hid (HFIN.out (.inr hm))
          have hki : (k : Int) < s1.l.length := by omega
          clear hm
          go_wp2_with fail
          go_ret
          exact HF.out
      · obtain rfl : k = s1.l.length := by omega
        have HF := Lib.hid (HFIN.out (.inl rfl))
        go_wp2_with fail
        go_ret
        exact HF.out
end
end Go.Proofs.YtbofclohnmojmaaGreatDoor
