/- The reference's accept. -/
import Derived.Test.YtbofclohnmojmaaGreatDoorRD2
namespace Go.Proofs.YtbofclohnmojmaaGreatDoor
open Go.RowKit
open Go.Sort (grow)

/-- In the loop: some have become dead letters. -/
def AcpR (w : World) (B q : Nat) (A A' : Option Addr) (s : QS) (now : Int) (wx : World) : Prop :=
  ∃ cur r A2 c2 A3 c3, AccI s now cur r ∧ RQ wx B q A2 c2 A3 c3 { s with now := now, l := cur, d := s.d ++ r.map En.ev } ∧ Chg (ff q A A') w wx ∧ ∀ k, ff q A2 A3 k → ff q A A' k ∨ w.heap.size ≤ k
/-- What accept leaves. -/
def RAcPost (w : World) (B q : Nat) (A A' : Option Addr) (s : QS) (now : Int) (e : Ending) (w' : World) : Prop :=
  (clkE s.now now ≠ 0 ∧ e = .returned (.int .i64 (clkE s.now now)) ∧ RTo w B q A A' s w') ∨
  (clkE s.now now = 0 ∧ e = .returned (.int .i64 0) ∧ ∃ s1, AccR s now s1 ∧ RTo w B q A A' s1 w')
/-- How many wait. -/
def lenAt (w : World) (q : Nat) : Nat := match w.cell? ⟨q, 2, none⟩ with
  | some (.slice _ n _) => n
  | _ => 0
theorem RQ.lenAt {w : World} {B q c c' : Nat} {A A' : Option Addr} {s : QS} (h : RQ w B q A c A' c' s) : lenAt w q = s.l.length := by
  have e : w.cell? ⟨q, 2, none⟩ = some (.slice A s.l.length c) := h.blk.cell 2
  unfold Go.Proofs.YtbofclohnmojmaaGreatDoor.lenAt
  rw [e]
def PushMidR (w wx : World) (B q : Nat) (A1 : Option Addr) (c1 : Nat) (A2 : Option Addr) (s : QS) : Prop := ∃ A4 c4, RQ wx B q A1 c1 A4 c4 s ∧ Chg (fun k => k = q ∨ A2.map (·.block) = some k) w wx ∧ ∀ k, A4.map (·.block) = some k → A2.map (·.block) = some k ∨ w.heap.size ≤ k
section
variable {w : World} {B q c c' : Nat} {A A' : Option Addr} {s : QS}
attribute [local go_sem ↓] run_lc10
attribute [local go_sem ↓] run_lc7
set_option maxHeartbeats 16000000 in
set_option maxRecDepth 20000 in
theorem raccept_any (hB : B ≤ w.heap.size) (hQ : RQ w B q A c A' c' s) (hok : s.ok) (now : Int) :
    Calls Tryz.prog 56 #[.pointer (some ⟨q, 0, none⟩), .int .i64 now] w (RAcPost w B q A A' s now) := by
  have hv : 0 < s.v := by have := hok.v; omega
  have hll := hok.len
  have HQ := Lib.hid hQ
  have HK := Lib.hid hok
  have HBW := Lib.hid hB
  have q4 : w.cell? ⟨q, 4, none⟩ = some (.int .i64 s.now) := hQ.blk.cell 4
  have f4 : w.frozen? ⟨q, 4, none⟩ = false := hQ.blk.frozen 4
  clear hQ hok hB
  go_enter Tryz.func56, Tryz.ntmps56
  go_wp2_with fail
  refine (rmade_any HQ.out hv).mono ?_
  rintro e wq ⟨rfl, hq⟩
  obtain rfl := hq.symm
  go_wp2_with fail
  refine (rtime_any now _).mono ?_
  rintro e wq ⟨rfl, hq⟩
  obtain rfl := hq.symm
  cases ht : timeB now with
  | false =>
    have HC := Lib.hid (show clkE s.now now = 2 by unfold clkE; rw [if_pos ht])
    go_wp2_with fail
    go_ret
    exact .inl ⟨by rw [HC.out]; decide, by rw [HC.out]; rfl, HQ.out.to (Below.refl _ _)⟩
  | true =>
    by_cases hlt : now < s.now
    · have d1 : decide (now < s.now) = true := decide_eq_true hlt
      have HC := Lib.hid (show clkE s.now now = 11 by unfold clkE; rw [if_neg (by rw [ht]; decide), if_pos hlt])
      clear hlt
      go_wp2_with fail
      go_ret
      exact .inl ⟨by rw [HC.out]; decide, by rw [HC.out]; rfl, HQ.out.to (Below.refl _ _)⟩
    · have d1 : decide (now < s.now) = false := decide_eq_false hlt
      have HC := Lib.hid (show clkE s.now now = 0 by unfold clkE; rw [if_neg (by rw [ht]; decide), if_neg hlt])
      clear hlt ht hv
      go_wp2_with fail
      have h1 := HQ.out.setNow now
      have HQ1 := Lib.hid h1.1
      have HC1 := Lib.hid h1.2
      have HFT := Lib.hid HQ.out.foot_lt
      have HWQ := Lib.hid HQ.out.blk.lt
      clear h1 q4 f4 d1
      generalize w.setCell ⟨q, 4, none⟩ (.int .i64 now) = w1 at *
      go_loopw [5, 6] (fun _ _ wr => AcpR w B q A A' s now wr) (fun _ _ wr => lenAt wr q)
      case atStart => exact ⟨s.l, [], A, c, A', c', AccI.zero s now, by simpa using HQ1.out, HC1.out.mono (fun _ h => .inl h), fun _ h => .inl h⟩
      case round =>
        obtain ⟨cur, r, A2, c2, A3, c3, hI, hq, hch, hff⟩ := hrel
        obtain ⟨wo, rfl⟩ : ∃ wo : World, wo = wr := ⟨_, rfl⟩
        have hcl : cur.length ≤ 256 := by have := hI.len; omega
        have hdl : (s.d ++ r.map En.ev).length ≤ 600 := by rw [List.length_append, List.length_map]; have := hI.len; omega
        have HI := Lib.hid hI
        have HQ2 := Lib.hid hq
        have HCH := Lib.hid hch
        have HFF := Lib.hid hff
        have hwo : w.heap.size ≤ wo.heap.size := hch.size
        have HLO := Lib.hid hq.lenAt
        clear hI hq hch hff
        go_wp2_with fail
        go_loopw [5, 6] (fun v5 v6 wx => ∃ (k : Nat) (b : Int), k ≤ cur.length ∧ v6 = .int .i64 k ∧ v5 = .int .i64 b ∧ BstR now s.r cur k b ∧ Below wo.heap.size wo wx) (fun _ v6 _ => cur.length - (intOf v6).toNat)
        case atStart => exact ⟨0, -1, Nat.zero_le _, rfl, rfl, BstR.zero, Below.refl _ _⟩
        case round =>
          obtain ⟨k, b, hk, rfl, rfl, hbst, hbl⟩ := hrel
          have HBST := Lib.hid hbst
          have HBL := Lib.hid hbl
          have hQr := HQ2.out.below hbl
          have hzr : wo.heap.size ≤ wr.heap.size := hbl.size
          have HQR := Lib.hid hQr
          have q2 : wr.cell? ⟨q, 2, none⟩ = some (.slice A2 cur.length c2) := hQr.blk.cell 2
          have hql := hQr.blk.lt
          clear hbst hbl
          by_cases hlt : k < cur.length
          · obtain ⟨y, hy⟩ : ∃ t, cur[k]? = some t := ⟨_, List.getElem?_eq_getElem hlt⟩
            obtain ⟨g, hA2, hg9, -, -⟩ := hQr.row.item hy
            subst hA2
            have q1 : wr.cell? ⟨q, 1, none⟩ = some (.int .i64 s.r) := hQr.blk.cell 1
            have hld := hQr.iload hy Tryz.prog (w' := wr) (fun _ => rfl)
            have e7 : wr.cell? ⟨g, k * 10 + 7, none⟩ = some (.int .i64 y.vis) := (hQr.ecell hy (j := 7) rfl).1
            have hki : (k : Int) < cur.length := by omega
            have hk0 : (0 : Int) ≤ k := by omega
            have HKW := Lib.hid (w64 (x := (k : Int) + 1) (by omega) (by omega))
            have HY := Lib.hid hy
            go_upto_region 12 with fail
            have HOV := Lib.hid (fun d os => Calls.regrown_of (over_any (w := grow (redrawn wr d) os) y now (cell_regrown q1 d os) (Nat.lt_of_lt_of_le hql (below_regrown wr d os).size)))
            have r2 := fun d os => cell_regrown q2 d os
            have r7 := fun d os => cell_regrown e7 d os
            have rl : ∀ d os, Sem.run Tryz.prog (lc10 ⟨g, k * 10, none⟩) (grow (redrawn wr d) os) = .ok #[.string y.ev.id, .string y.ev.tn, .string y.ev.src, .string y.ev.key, .int .i64 y.ev.at_, .string y.ev.cause, .slice y.ev.A y.ev.body.length y.ev.cp, .int .i64 y.vis, .int .i64 y.rcv, .bool y.held] (grow (redrawn wr d) os) := fun d os => hQr.iload hy Tryz.prog (w' := grow (redrawn wr d) os) (fun j => (below_regrown wr d os).cell (p := ⟨g, j, none⟩) hg9)
            clear q1 hld
            cases hg : goneB now s.r y with
            | false =>
              rw [hg] at HOV
              have HB1 := Lib.hid (HBST.out.skip HY.out hg)
              clear r7 hQr
              refine wp_region_quiet_below (by kernel_rfl) (by kernel_rfl) ?_
              repeat (go_big_quiet_step (first | (go_at_call 80; go_must (exact HOV.out _ _))))
              refine wpQuiet_nil ?_
              intro _ hw'
              obtain ⟨⟨dq, osq⟩, hw''⟩ := hw'
              subst hw''
              have hb4 := below_regrown wr dq osq
              have HBL4 := Lib.hid (HBL.out.trans (hb4.mono hzr))
              clear hb4 HOV r2 rl
              generalize grow (redrawn wr dq) osq = w4 at *
              obtain ⟨wk1, wk2⟩ := HKW.out
              go_wp2_with fail
              clear wk1 wk2
              go_roundw
              case rel => exact ⟨k + 1, b, by omega, by first | rfl | go_num, rfl, HB1.out, HBL4.out⟩
              case measure => exact meas_lt hlt
            | true =>
              rw [hg] at HOV
              rcases HBST.out with ⟨rfl, hno⟩ | ⟨i, x, rfl, hik, hx, hxg, hmin⟩
              · have HB1 := Lib.hid (BstR.first (k := k) (.inl ⟨rfl, hno⟩) HY.out hg)
                clear r7 hQr hno
                refine wp_region_quiet_below (by kernel_rfl) (by kernel_rfl) ?_
                repeat (go_big_quiet_step (first | (go_at_call 80; go_must (exact HOV.out _ _))))
                refine wpQuiet_nil ?_
                intro _ hw'
                obtain ⟨⟨dq, osq⟩, hw''⟩ := hw'
                subst hw''
                have hb4 := below_regrown wr dq osq
                have HBL4 := Lib.hid (HBL.out.trans (hb4.mono hzr))
                clear hb4 HOV r2 rl
                generalize grow (redrawn wr dq) osq = w4 at *
                obtain ⟨wk1, wk2⟩ := HKW.out
                go_wp2_with fail
                clear wk1 wk2
                go_roundw
                case rel => exact ⟨k + 1, k, by omega, by first | rfl | go_num, by first | rfl | go_num, HB1.out, HBL4.out⟩
                case measure => exact meas_lt hlt
              · have hi0 : (0 : Int) ≤ i := by omega
                have hic : (i : Int) < cur.length := by omega
                have di : decide ((i : Int) < 0) = false := decide_eq_false (by omega)
                have e7i : wr.cell? ⟨g, i * 10 + 7, none⟩ = some (.int .i64 x.vis) := (hQr.ecell hx (j := 7) rfl).1
                have r7i := fun d os => cell_regrown e7i d os
                by_cases hvv : y.vis < x.vis
                · have dv : decide (y.vis < x.vis) = true := decide_eq_true hvv
                  have HB1 := Lib.hid (BstR.turn HBST.out hx HY.out hg hvv)
                  clear hQr hmin hx hvv hik
                  refine wp_region_quiet_below (by kernel_rfl) (by kernel_rfl) ?_
                  repeat (go_big_quiet_step (first | (go_at_call 80; go_must (exact HOV.out _ _))))
                  refine wpQuiet_nil ?_
                  intro _ hw'
                  obtain ⟨⟨dq, osq⟩, hw''⟩ := hw'
                  subst hw''
                  have hb4 := below_regrown wr dq osq
                  have HBL4 := Lib.hid (HBL.out.trans (hb4.mono hzr))
                  clear hb4 HOV r2 rl r7 r7i
                  generalize grow (redrawn wr dq) osq = w4 at *
                  obtain ⟨wk1, wk2⟩ := HKW.out
                  go_wp2_with fail
                  clear wk1 wk2
                  go_roundw
                  case rel => exact ⟨k + 1, k, by omega, by first | rfl | go_num, by first | rfl | go_num, HB1.out, HBL4.out⟩
                  case measure => exact meas_lt hlt
                · have dv : decide (y.vis < x.vis) = false := decide_eq_false hvv
                  have HB1 := Lib.hid (BstR.keep HBST.out hx HY.out hvv)
                  clear hQr hmin hx hvv hik
                  refine wp_region_quiet_below (by kernel_rfl) (by kernel_rfl) ?_
                  repeat (go_big_quiet_step (first | (go_at_call 80; go_must (exact HOV.out _ _))))
                  refine wpQuiet_nil ?_
                  intro _ hw'
                  obtain ⟨⟨dq, osq⟩, hw''⟩ := hw'
                  subst hw''
                  have hb4 := below_regrown wr dq osq
                  have HBL4 := Lib.hid (HBL.out.trans (hb4.mono hzr))
                  clear hb4 HOV r2 rl r7 r7i
                  generalize grow (redrawn wr dq) osq = w4 at *
                  obtain ⟨wk1, wk2⟩ := HKW.out
                  go_wp2_with fail
                  clear wk1 wk2
                  go_roundw
                  case rel => exact ⟨k + 1, i, by omega, by first | rfl | go_num, rfl, HB1.out, HBL4.out⟩
                  case measure => exact meas_lt hlt
          · obtain rfl : k = cur.length := by omega
            rcases HBST.out with ⟨rfl, hno⟩ | ⟨i, x, rfl, hik, hx, hxg, hmin⟩
            · have HD := Lib.hid (HI.out.done (.inl ⟨rfl, hno⟩))
              clear hno hQr
              go_wp2_with fail
              go_ret
              exact .inr ⟨HC.out, rfl, _, HD.out, A2, c2, A3, c3, HQR.out, HCH.out.below HBL.out, HFF.out⟩
            · have HST := Lib.hid (HI.out.step HK.out.ord hx HBST.out)
              obtain ⟨g, hA2, hg2, -, -⟩ := hQr.row.item hx
              subst hA2
              obtain ⟨D, hD⟩ : ∃ D, D = s.d ++ r.map En.ev := ⟨_, rfl⟩
              rw [← hD] at hdl
              have HDE := Lib.hid hD
              have HQ9 := Lib.hid (show RQ wr B q (some ⟨g, 0, none⟩) c2 A3 c3 { s with now := now, l := cur, d := D } by rw [hD]; exact hQr)
              have q3 : wr.cell? ⟨q, 3, none⟩ = some (.slice A3 D.length c3) := HQ9.out.blk.cell 3
              have f3 : wr.frozen? ⟨q, 3, none⟩ = false := HQ9.out.blk.frozen 3
              have hld := HQ9.out.eload' hx Tryz.prog (w' := wr) (fun _ => rfl)
              have hld2 := HQ9.out.eload' hx Tryz.prog (w' := wr.drew) (fun _ => rfl)
              have q3a := cell_al q3 (.cells #[.string x.ev.id, .string x.ev.tn, .string x.ev.src, .string x.ev.key, .int .i64 x.ev.at_, .string x.ev.cause, .slice x.ev.A x.ev.body.length x.ev.cp] 40)
              have q2a := cell_al q2 (.cells #[.string x.ev.id, .string x.ev.tn, .string x.ev.src, .string x.ev.key, .int .i64 x.ev.at_, .string x.ev.cause, .slice x.ev.A x.ev.body.length x.ev.cp] 40)
              have hi0 : (0 : Int) ≤ i := by omega
              have hic : (i : Int) < cur.length := by omega
              have di : decide ((i : Int) < 0) = false := decide_eq_false (by omega)
              have HX := Lib.hid hx
              have HIK := Lib.hid hik
              have HDW := Lib.hid HQ9.out.dead
              have HNQ := Lib.hid HQ9.out.ne.2.1
              have HLQ := Lib.hid hql
              have HEV := Lib.hid (show EvQ wr B x.ev from HQ9.out.bl x (List.mem_of_getElem? hx))
              obtain ⟨j0, jh, jz0, jz1, jz2⟩ := info_partsO info_event
              have HX1 := Lib.hid (show D.length + 1 ≤ maxLen by simp only [maxLen]; omega)
              have HX2 := Lib.hid (show (D.length + 1) * 112 ≤ 140737488355328 by omega)
              have HX3 := Lib.hid (show B ≤ ((wr.drew).alloc (.cells #[.string x.ev.id, .string x.ev.tn, .string x.ev.src, .string x.ev.key, .int .i64 x.ev.at_, .string x.ev.cause, .slice x.ev.A x.ev.body.length x.ev.cp] 40)).heap.size by have := HBW.out; simp; omega)
              have HR9 : Hid (Reads ((wr.drew).alloc (.cells #[.string x.ev.id, .string x.ev.tn, .string x.ev.src, .string x.ev.key, .int .i64 x.ev.at_, .string x.ev.cause, .slice x.ev.A x.ev.body.length x.ev.cp] 40)) (wr.heap.size + 1) 7 (some ⟨wr.heap.size, 0, none⟩) 1 [.string x.ev.id, .string x.ev.tn, .string x.ev.src, .string x.ev.key, .int .i64 x.ev.at_, .string x.ev.cause, .slice x.ev.A x.ev.body.length x.ev.cp]) := ⟨rfl, fun _ => ⟨_, _, rfl, by omega, fun j u hu => by have := cells_new_at (w := wr.drew) (cs := [.string x.ev.id, .string x.ev.tn, .string x.ev.src, .string x.ev.key, .int .i64 x.ev.at_, .string x.ev.cause, .slice x.ev.A x.ev.body.length x.ev.cp]) (e := 40) (g := wr.heap.size) rfl j u hu; rwa [Addr.add_lit] at this⟩⟩
              clear hD hx hmin hik hxg hQr
              go_upto_region 16 with fail
              go_region_law (refine step_append_any _ rfl (.tmp 72) (.tmp 81) 52 rfl B 40 j0 (.agg #[.string ⟨#[]⟩, .string ⟨#[]⟩, .string ⟨#[]⟩, .string ⟨#[]⟩, .int .i64 0, .string ⟨#[]⟩, .slice none 0 0]) 7 112 Tryz.underlying52 jh jz0 jz1 jz2 rfl (by decide) (.slice A3 D.length c3) D.length (D.flatMap Ev.cells) (by simp [Act.eval]) (HDW.out.drew.alloc _) (wr.heap.size + 1) (some ⟨wr.heap.size, 0, none⟩) 1 1 [.string x.ev.id, .string x.ev.tn, .string x.ev.src, .string x.ev.key, .int .i64 x.ev.at_, .string x.ev.cause, .slice x.ev.A x.ev.body.length x.ev.cp] (by simp [Act.eval]) HR9.out (Ev.one x.ev) HX1.out HX2.out HX3.out ?_; intro v' w5 hown hgr hblk; obtain ⟨A4, c4, hv⟩ := own_slice hown; have HG5 := Lib.hid (And.intro hown (And.intro hgr hblk)); have hcg : Chg (fun k => A3.map (·.block) = some k) wr w5 := (((Chg.refl (fun k => A3.map (·.block) = some k) wr).drew).alloc _).grown hgr (fun k hk _ => by rw [own_eq] at hk; exact hk); have q35 : w5.cell? ⟨q, 3, none⟩ = some (.slice A3 D.length c3) := (hcg.cell (p := ⟨q, 3, none⟩) HLQ.out HNQ.out).trans q3; have f35 : w5.frozen? ⟨q, 3, none⟩ = false := (hcg.blk HQ9.out.blk HNQ.out).frozen 3; clear hown hgr hblk hcg; rw [hv])
              all_goals
                have hPM : PushMidR wr (w5.setCell ⟨q, 3, none⟩ (.slice A4 (D.length + 1) c4)) B q (some ⟨g, 0, none⟩) c2 A3 { s with now := now, l := cur, d := D ++ [x.ev] } := by
                  subst hv
                  obtain ⟨A5, c5, e5, h1, h2, h3⟩ := RQ.pushD HQ9.out HEV.out HG5.out.1 HG5.out.2.1 HG5.out.2.2
                  exact ⟨A5, c5, h1, h2, h3⟩
                have HPM := Lib.hid hPM
                clear hPM q3 f3 q3a q2a q2 hld hld2 q35 f35
                generalize w5.setCell ⟨q, 3, none⟩ (.slice A4 (D.length + 1) c4) = w6 at *
                obtain ⟨A5, c5, hq6, hc6, hA5⟩ := HPM.out
                have HQ6 := Lib.hid hq6
                have HC6 := Lib.hid hc6
                have HA5 := Lib.hid hA5
                have hz6 : wr.heap.size ≤ w6.heap.size := hc6.size
                have HRM := Lib.hid (rremove_any hq6 (show cur.length ≤ 300 by omega) (k := i) (show i < cur.length by omega))
                clear hq6 hc6 hA5
                go_wp2_with fail
                refine HRM.out.mono ?_
                intro e w7 hrm
                obtain ⟨rfl, A6, c6, hq7, hc7, hA6⟩ := HQ6.out.removed (by have := HBW.out; omega) hrm
                have HQ7 := Lib.hid hq7
                have HC7 := Lib.hid hc7
                have HA6 := Lib.hid hA6
                have HL7 := Lib.hid hq7.lenAt
                clear hrm hq7 hc7 hA6
                go_wp2_with fail
                go_roundw
                case rel =>
                  refine ⟨cur.eraseIdx i, r ++ [x], A6, c6, A5, c5, HST.out, ?_, ?_, fun j hj => ?_⟩
                  · have h := HQ7.out
                    rw [HDE.out] at h
                    rw [List.map_append, ← List.append_assoc]
                    exact h
                  · have h1 : Chg (ff q A A') w w6 := (HCH.out.below HBL.out).narrow HC6.out (fun j hj => HFF.out j (hj.elim .inl (fun h => .inr (.inr h))))
                    exact h1.trans HC7.out (fun j _ hj => .inl hj)
                  · rcases hj with h | h | h
                    · exact .inl (.inl h)
                    · have := HA6.out j h
                      right; omega
                    · rcases HA5.out j h with h | h
                      · exact HFF.out j (.inr (.inr h))
                      · right; omega
                case measure =>
                  show lenAt w7 q < lenAt wo q
                  rw [HL7.out, HLO.out]
                  show (cur.eraseIdx i).length < cur.length
                  have := HIK.out
                  rw [List.length_eraseIdx_of_lt (by omega)]
                  omega
end
end Go.Proofs.YtbofclohnmojmaaGreatDoor
