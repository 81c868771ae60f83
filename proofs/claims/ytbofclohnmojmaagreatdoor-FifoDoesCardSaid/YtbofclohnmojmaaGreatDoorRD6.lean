/- The reference's find. -/
import Derived.Test.YtbofclohnmojmaaGreatDoorRD2
namespace Go.Proofs.YtbofclohnmojmaaGreatDoor
open Go.RowKit
open Go.Sort (grow)

theorem run_lc10_new (P : Program) (W : World) (t : TypeId) (x0 x1 x2 x3 x4 x5 x6 x7 x8 x9 : Value) : Sem.run P (lc10 ⟨W.heap.size, 0, none⟩) (W.alloc (.cells #[x0, x1, x2, x3, x4, x5, x6, x7, x8, x9] t)) = .ok #[x0, x1, x2, x3, x4, x5, x6, x7, x8, x9] (W.alloc (.cells #[x0, x1, x2, x3, x4, x5, x6, x7, x8, x9] t)) :=
  blk_ld (cs := #[x0, x1, x2, x3, x4, x5, x6, x7, x8, x9]) (Blk.new W t _) rfl P
theorem blk_lc10 {w : World} {g : Nat} {t : TypeId} {x0 x1 x2 x3 x4 x5 x6 x7 x8 x9 : Value} (h : Blk w g t #[x0, x1, x2, x3, x4, x5, x6, x7, x8, x9]) (P : Program) : Sem.run P (lc10 ⟨g, 0, none⟩) w = .ok #[x0, x1, x2, x3, x4, x5, x6, x7, x8, x9] w := blk_ld (cs := #[x0, x1, x2, x3, x4, x5, x6, x7, x8, x9]) h rfl P
section
variable {w : World} {B q c c' : Nat} {A A' : Option Addr} {s : QS}
attribute [local go_sem ↓] run_lc10
attribute [local go_sem] run_lc10_new
set_option maxHeartbeats 16000000 in
set_option maxRecDepth 20000 in
theorem rfind_any (hQ : RQ w B q A c A' c' s) (hok : s.ok) (hid : s.idd) (rc : ByteArray) :
    Calls Tryz.prog 61 #[.pointer (some ⟨q, 0, none⟩), .string rc, .int .i64 s.now] w fun e w' => e = .returned (tup2 (fndS s.now s.l rc)) ∧ Below w.heap.size w w' := by
  have hll : s.l.length ≤ 256 := by have := hok.len; omega
  have HQ := Lib.hid hQ
  have HK := Lib.hid hok
  have HID := Lib.hid hid.one
  clear hQ hok hid
  go_enter Tryz.func61, Tryz.ntmps61
  go_wp2_with fail
  go_loopw [8, 9, 10] (fun v8 _ _ wx => ∃ k : Nat, k ≤ s.l.length ∧ v8 = .int .i64 k ∧ (∀ y ∈ s.l.take k, ∀ n : Int, 1 ≤ n → n ≤ y.rcv → rc ≠ rcpS y.ev.id n) ∧ Below w.heap.size w wx) (fun v8 _ _ _ => s.l.length - (intOf v8).toNat)
  case atStart => exact ⟨0, Nat.zero_le _, rfl, fun y hy => absurd hy (by simp), Below.refl _ _⟩
  case round =>
    obtain ⟨k, hk, rfl, hno, hb⟩ := hrel
    have HNO := Lib.hid hno
    have HB := Lib.hid hb
    have hzr : w.heap.size ≤ wr.heap.size := hb.size
    have hQr := HQ.out.below hb
    have q2 : wr.cell? ⟨q, 2, none⟩ = some (.slice A s.l.length c) := hQr.blk.cell 2
    clear hno hb
    by_cases hlt : k < s.l.length
    · obtain ⟨x, hx⟩ : ∃ t, s.l[k]? = some t := ⟨_, List.getElem?_eq_getElem hlt⟩
      obtain ⟨g, rfl, -, -, -⟩ := hQr.row.item hx
      have hld := hQr.iload hx Tryz.prog (w' := wr) (fun _ => rfl)
      have HXK := Lib.hid hx
      have hrcv := HK.out.rcv x (List.mem_of_getElem? hx)
      have hids : x.ev.id.size ≤ 1048576 := (HK.out.els x (List.mem_of_getElem? hx)).1
      have hki : (k : Int) < s.l.length := by omega
      have hk0 : (0 : Int) ≤ k := by omega
      have HKW := Lib.hid (w64 (x := (k : Int) + 1) (by omega) (by omega))
      clear hQr hx
      go_upto_region 5 with fail
      have hb1 := al_new wr (.cells #[.string x.ev.id, .string x.ev.tn, .string x.ev.src, .string x.ev.key, .int .i64 x.ev.at_, .string x.ev.cause, .slice x.ev.A x.ev.body.length x.ev.cp, .int .i64 x.vis, .int .i64 x.rcv, .bool x.held] 78)
      have b1 := Blk.new wr 78 #[.string x.ev.id, .string x.ev.tn, .string x.ev.src, .string x.ev.key, .int .i64 x.ev.at_, .string x.ev.cause, .slice x.ev.A x.ev.body.length x.ev.cp, .int .i64 x.vis, .int .i64 x.rcv, .bool x.held]
      have HB1 := Lib.hid (HB.out.trans (hb1.mono hzr))
      have hz1 : wr.heap.size < (wr.alloc (.cells #[.string x.ev.id, .string x.ev.tn, .string x.ev.src, .string x.ev.key, .int .i64 x.ev.at_, .string x.ev.cause, .slice x.ev.A x.ev.body.length x.ev.cp, .int .i64 x.vis, .int .i64 x.rcv, .bool x.held] 78)).heap.size := b1.lt
      clear hb1 hld q2
      obtain ⟨wb, rfl⟩ : ∃ wb : World, wb = wr := ⟨_, rfl⟩
      generalize wb.alloc (.cells #[.string x.ev.id, .string x.ev.tn, .string x.ev.src, .string x.ev.key, .int .i64 x.ev.at_, .string x.ev.cause, .slice x.ev.A x.ev.body.length x.ev.cp, .int .i64 x.vis, .int .i64 x.rcv, .bool x.held] 78) = w1 at *
      have hlx : Sem.run Tryz.prog (lc10 ⟨wb.heap.size, 0, none⟩) w1 = .ok #[.string x.ev.id, .string x.ev.tn, .string x.ev.src, .string x.ev.key, .int .i64 x.ev.at_, .string x.ev.cause, .slice x.ev.A x.ev.body.length x.ev.cp, .int .i64 x.vis, .int .i64 x.rcv, .bool x.held] w1 := blk_lc10 b1 Tryz.prog
      have HRC := Lib.hid (rreceipt_any x w1 hrcv.1 (by omega) hids)
      go_wp2_with fail
      refine HRC.out.mono ?_
      rintro e w2 ⟨rfl, hb2⟩
      have b2 := b1.on hb2
      have HBO := Lib.hid (HB1.out.trans (hb2.mono (by omega)))
      have hzo : w.heap.size ≤ w2.heap.size := HBO.out.size
      clear hb2 hlx b1
      have e8 : w2.cell? ⟨wb.heap.size, 8, none⟩ = some (.int .i64 x.rcv) := b2.cell 8
      have e9 : w2.cell? ⟨wb.heap.size, 9, none⟩ = some (.bool x.held) := b2.cell 9
      have e7 : w2.cell? ⟨wb.heap.size, 7, none⟩ = some (.int .i64 x.vis) := b2.cell 7
      have ht := toL_eq (rcpS x.ev.id x.rcv) rc
      cases hq : eqS (rcpS x.ev.id x.rcv) rc with
      | true =>
        rw [hq] at ht
        by_cases hr0 : 0 < x.rcv
        · have dr : decide (0 < x.rcv) = true := decide_eq_true hr0
          have HFN := Lib.hid (show fndS s.now s.l rc = if x.rcv ≠ x.rcv ∨ x.held = false ∨ x.vis ≤ s.now then (0, 18) else ((k : Int), 0) by
            have he : rcpS x.ev.id x.rcv = rc := (eqS_iff _ _).1 hq
            rw [← he]
            exact fnd_hit HID.out HXK.out (by omega) (Int.le_refl _) (by omega))
          cases hh : x.held with
          | false =>
            have HRR := Lib.hid (show fndS s.now s.l rc = (0, 18) by rw [HFN.out, if_pos (.inr (.inl hh))])
            rw [hh] at e9
            clear hq hh
            go_wp2_with fail
            go_ret2
            exact ⟨ret_tup2 HRR.out, HBO.out⟩
          | true =>
            rw [hh] at e9
            by_cases hv : s.now < x.vis
            · have dv : decide (s.now < x.vis) = true := decide_eq_true hv
              have HRR := Lib.hid (show fndS s.now s.l rc = ((k : Int), 0) by rw [HFN.out, if_neg (fun hx => hx.elim (fun h => h rfl) (fun h => h.elim (fun h => by rw [hh] at h; cases h) (fun h => by omega)))])
              clear hq hh hv
              go_wp2_with fail
              go_ret2
              exact ⟨ret_tup2 HRR.out, HBO.out⟩
            · have dv : decide (s.now < x.vis) = false := decide_eq_false hv
              have HRR := Lib.hid (show fndS s.now s.l rc = (0, 18) by rw [HFN.out, if_pos (.inr (.inr (by omega)))])
              clear hq hh hv
              go_wp2_with fail
              go_ret2
              exact ⟨ret_tup2 HRR.out, HBO.out⟩
        · have dr : decide (0 < x.rcv) = false := decide_eq_false hr0
          have HLAST := Lib.hid (show 1 ≤ x.rcv → rc ≠ rcpS x.ev.id x.rcv from fun h => absurd h (by omega))
          clear hq e7 e9
          go_wp2_with fail
          obtain ⟨wo, rfl⟩ : ∃ wo : World, wo = w2 := ⟨_, rfl⟩
          go_loopw [10] (fun v10 wx => ∃ m : Int, 1 ≤ m ∧ (m ≤ x.rcv ∨ m = 1) ∧ v10 = .int .i64 m ∧ (∀ n : Int, 1 ≤ n → n < m → rc ≠ rcpS x.ev.id n) ∧ Below wo.heap.size wo wx) (fun v10 _ => (x.rcv - intOf v10).toNat)
          case atStart => exact ⟨1, Int.le_refl _, .inr rfl, rfl, fun n h1 h2 => absurd h1 (by omega), Below.refl _ _⟩
          case round =>
            obtain ⟨m, hm1, hm2, rfl, hno, hbm⟩ := hrel
            have HNM := Lib.hid hno
            have HBM := Lib.hid hbm
            have bm := b2.on hbm
            have hzm : wo.heap.size ≤ wr.heap.size := hbm.size
            have m8 : wr.cell? ⟨wb.heap.size, 8, none⟩ = some (.int .i64 x.rcv) := bm.cell 8
            have m0 : wr.cell? ⟨wb.heap.size, 0, none⟩ = some (.string x.ev.id) := bm.cell 0
            clear hno hbm bm
            by_cases hlm : m < x.rcv
            · exact absurd hlm (by omega)
            · have dm : decide (m < x.rcv) = false := decide_eq_false hlm
              have HN3 := Lib.hid (show ∀ y ∈ s.l.take (k + 1), ∀ n : Int, 1 ≤ n → n ≤ y.rcv → rc ≠ rcpS y.ev.id n from fun y hy n h1 h2 => by
                rw [take_snocs HXK.out] at hy
                rcases List.mem_append.1 hy with hy | hy
                · exact HNO.out y hy n h1 h2
                · rw [List.mem_singleton.1 hy] at h2 ⊢
                  by_cases hnr : n < x.rcv
                  · exact HNM.out n h1 (by omega)
                  · obtain rfl : n = x.rcv := by omega
                    exact HLAST.out h1)
              obtain ⟨wk1, wk2⟩ := HKW.out
              have HBE := Lib.hid (HBO.out.trans (HBM.out.mono hzo))
              go_wp2_with fail
              clear wk1 wk2
              go_roundw
              case rel => exact ⟨k + 1, hlt, by first | rfl | go_num, HN3.out, HBE.out⟩
              case measure => exact meas_lt hlt
      | false =>
        rw [hq] at ht
        have HLAST := Lib.hid (show 1 ≤ x.rcv → rc ≠ rcpS x.ev.id x.rcv from fun _ e => by
          have := (eqS_iff (rcpS x.ev.id x.rcv) rc).2 e.symm
          rw [hq] at this
          cases this)
        clear hq e7 e9
        go_wp2_with fail
        obtain ⟨wo, rfl⟩ : ∃ wo : World, wo = w2 := ⟨_, rfl⟩
        go_loopw [10] (fun v10 wx => ∃ m : Int, 1 ≤ m ∧ (m ≤ x.rcv ∨ m = 1) ∧ v10 = .int .i64 m ∧ (∀ n : Int, 1 ≤ n → n < m → rc ≠ rcpS x.ev.id n) ∧ Below wo.heap.size wo wx) (fun v10 _ => (x.rcv - intOf v10).toNat)
        case atStart => exact ⟨1, Int.le_refl _, .inr rfl, rfl, fun n h1 h2 => absurd h1 (by omega), Below.refl _ _⟩
        case round =>
          obtain ⟨m, hm1, hm2, rfl, hno, hbm⟩ := hrel
          have HNM := Lib.hid hno
          have HBM := Lib.hid hbm
          have bm := b2.on hbm
          have hzm : wo.heap.size ≤ wr.heap.size := hbm.size
          have m8 : wr.cell? ⟨wb.heap.size, 8, none⟩ = some (.int .i64 x.rcv) := bm.cell 8
          have m0 : wr.cell? ⟨wb.heap.size, 0, none⟩ = some (.string x.ev.id) := bm.cell 0
          clear hno hbm bm
          by_cases hlm : m < x.rcv
          · have dm : decide (m < x.rcv) = true := decide_eq_true hlm
            have hlen := Lib.itoa_length_le m (by omega) (by omega)
            have hszi : (⟨(Lib.itoa m).toArray⟩ : ByteArray).size ≤ 21 := by rw [← size_len]; exact hlen
            have HKM := Lib.hid (w64 (x := m + 1) (by omega) (by omega))
            go_upto_region 12 with fail
            have r0 := fun d os => cell_regrown m0 d os
            have HFM := Lib.hid (fun d os => Calls.regrown_of (rFormat_any m (grow (redrawn wr d) os) (by omega) (by omega)))
            have ht := toL_eq rc (x.ev.id ++ ⟨#[35]⟩ ++ ⟨(Lib.itoa m).toArray⟩)
            cases hq : eqS rc (x.ev.id ++ ⟨#[35]⟩ ++ ⟨(Lib.itoa m).toArray⟩) with
            | true =>
              rw [hq] at ht
              have HRR := Lib.hid (show fndS s.now s.l rc = (0, 18) by
                have he : rc = rcpS x.ev.id m := (eqS_iff _ _).1 hq
                rw [he, fnd_hit HID.out HXK.out hm1 (by omega) (by omega), if_pos (.inl (by omega))])
              clear hq m8
              refine wp_region_quiet_below (by kernel_rfl) (by kernel_rfl) ?_
              repeat (go_big_quiet_step (first | (go_at_call 84; go_must (exact HFM.out _ _))))
              refine wpQuiet_nil ?_
              intro _ hw'
              obtain ⟨⟨dq, osq⟩, hw''⟩ := hw'
              subst hw''
              have hb4 := below_regrown wr dq osq
              have HB4 := Lib.hid (HBO.out.trans ((HBM.out.trans (hb4.mono hzm)).mono hzo))
              clear hb4 r0 HFM
              generalize grow (redrawn wr dq) osq = w4 at *
              go_wp2_with fail
              go_ret2
              exact ⟨ret_tup2 HRR.out, HB4.out⟩
            | false =>
              rw [hq] at ht
              have HNN := Lib.hid (show ∀ n : Int, 1 ≤ n → n < m + 1 → rc ≠ rcpS x.ev.id n from fun n h1 h2 => by
                by_cases hnm : n < m
                · exact HNM.out n h1 hnm
                · obtain rfl : n = m := by omega
                  intro e
                  have := (eqS_iff rc (x.ev.id ++ ⟨#[35]⟩ ++ ⟨(Lib.itoa n).toArray⟩)).2 e
                  rw [hq] at this
                  cases this)
              clear hq m8
              refine wp_region_quiet_below (by kernel_rfl) (by kernel_rfl) ?_
              repeat (go_big_quiet_step (first | (go_at_call 84; go_must (exact HFM.out _ _))))
              refine wpQuiet_nil ?_
              intro _ hw'
              obtain ⟨⟨dq, osq⟩, hw''⟩ := hw'
              subst hw''
              have hb4 := below_regrown wr dq osq
              have HB4 := Lib.hid (HBM.out.trans (hb4.mono hzm))
              clear hb4 r0 HFM
              generalize grow (redrawn wr dq) osq = w4 at *
              obtain ⟨wk1, wk2⟩ := HKM.out
              go_wp2_with fail
              clear wk1 wk2
              go_roundw
              case rel => exact ⟨m + 1, by omega, .inl (by omega), rfl, HNN.out, HB4.out⟩
              case measure => simp [intOf] <;> omega
          · have dm : decide (m < x.rcv) = false := decide_eq_false hlm
            have HN3 := Lib.hid (show ∀ y ∈ s.l.take (k + 1), ∀ n : Int, 1 ≤ n → n ≤ y.rcv → rc ≠ rcpS y.ev.id n from fun y hy n h1 h2 => by
              rw [take_snocs HXK.out] at hy
              rcases List.mem_append.1 hy with hy | hy
              · exact HNO.out y hy n h1 h2
              · rw [List.mem_singleton.1 hy] at h2 ⊢
                by_cases hnr : n < x.rcv
                · exact HNM.out n h1 (by omega)
                · obtain rfl : n = x.rcv := by omega
                  exact HLAST.out h1)
            obtain ⟨wk1, wk2⟩ := HKW.out
            have HBE := Lib.hid (HBO.out.trans (HBM.out.mono hzo))
            go_wp2_with fail
            clear wk1 wk2
            go_roundw
            case rel => exact ⟨k + 1, hlt, by first | rfl | go_num, HN3.out, HBE.out⟩
            case measure => exact meas_lt hlt
    · obtain rfl : k = s.l.length := by omega
      have HRR := Lib.hid (show fndS s.now s.l rc = (0, 5) from fnd_miss (fun y hy => HNO.out y (by rw [List.take_length]; exact hy)))
      clear hQr
      go_wp2_with fail
      go_ret2
      exact ⟨ret_tup2 HRR.out, HB.out⟩
end
end Go.Proofs.YtbofclohnmojmaaGreatDoor
