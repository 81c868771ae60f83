/- The reference's Waiting. -/
import Derived.Test.YtbofclohnmojmaaGreatDoorRC3
namespace Go.Proofs.YtbofclohnmojmaaGreatDoor
open Go.RowKit
open Go.Sort (grow)

section
variable {w : World} {B q c c' : Nat} {A A' : Option Addr} {s : QS}
set_option maxHeartbeats 8000000 in
set_option maxRecDepth 20000 in
theorem rWaiting_any (hQ : RQ w B q A c A' c' s) (hv : 0 < s.v) (hl : s.l.length ≤ 300) (key : ByteArray) : Calls Tryz.prog 16 #[.pointer (some ⟨q, 0, none⟩), .string key] w (WtPost w (waitS s.l key)) := by
  obtain ⟨i0, ih, iz0, iz1, iz2⟩ := info_partsO info_str
  have hb0 : Below w.heap.size w (w.alloc (.cells #[] 9)) := (Below.refl w.heap.size w).alloc (Nat.le_refl _) _
  have HQ := Lib.hid hQ
  have HM := Lib.hid (rmade_any (hQ.below hb0) hv)
  have HB0 := Lib.hid hb0
  have HO0 := Lib.hid (show OwnS (w.alloc (.cells #[] 9)) w.heap.size (.slice (some ⟨w.heap.size, 0, none⟩) 0 0) [] from by
    have h := World.ownsRow_lit (base := w.heap.size) (size := 1) (e := 9) w #[] 0 (Nat.le_refl _) (by decide) rfl
    simpa [OwnS, svals] using h)
  clear hQ hb0
  go_enter Tryz.func16, Tryz.ntmps16
  go_wp2_with fail
  refine HM.out.mono ?_
  rintro e wq ⟨rfl, hq⟩
  obtain rfl := hq.symm
  go_wp2_with fail
  go_loopw [5, 6] (fun v5 v16 wr => ∃ k : Nat, k ≤ s.l.length ∧ v16 = .int .i64 k ∧ OwnS wr w.heap.size v5 (waitS (s.l.take k) key) ∧ Below w.heap.size w wr) (fun _ v16 _ => s.l.length - (intOf v16).toNat)
  case atStart => exact ⟨0, Nat.zero_le _, rfl, HO0.out, HB0.out⟩
  case round =>
    obtain ⟨k, hk, rfl, hown, hb⟩ := hrel
    obtain ⟨v, rfl⟩ : ∃ v : Value, v = u5 := ⟨_, rfl⟩
    have HO := Lib.hid hown
    have HB := Lib.hid hb
    have hzr : w.heap.size ≤ wr.heap.size := hb.size
    have hQr := HQ.out.below hb
    have q2 : wr.cell? ⟨q, 2, none⟩ = some (.slice A s.l.length c) := hQr.blk.cell 2
    clear hown hb
    by_cases hlt : k < s.l.length
    · obtain ⟨x, hx⟩ : ∃ t, s.l[k]? = some t := ⟨_, List.getElem?_eq_getElem hlt⟩
      obtain ⟨g, rfl, -, -, hc⟩ := hQr.row.item hx
      have e0 : wr.cell? ⟨g, k * 10, none⟩ = some (.string x.ev.id) := by have := hc 0 _ rfl; rwa [Nat.add_zero] at this
      have e3 : wr.cell? ⟨g, k * 10 + 3, none⟩ = some (.string x.ev.key) := hc 3 _ rfl
      have hki : (k : Int) < s.l.length := by omega
      have hk0 : (0 : Int) ≤ k := by omega
      have hPL := Nat.le_trans (waitS_len (s.l.take k) key) (show (s.l.take k).length ≤ 300 by rw [List.length_take]; omega)
      have HYS := Lib.hid (waitS_yes (key := key) hx)
      have HNO := Lib.hid (waitS_no (key := key) hx)
      have HK1 := Lib.hid (show k + 1 ≤ s.l.length from hlt)
      have HKW := Lib.hid (w64 (x := (k : Int) + 1) (by omega) (by omega))
      generalize waitS (s.l.take k) key = P at *
      have ht := toL_eq x.ev.key key
      have HA1 := Lib.hid (show P.length + 1 ≤ maxLen by simp only [maxLen]; omega)
      have HA2 := Lib.hid (show (P.length + 1) * 16 ≤ 140737488355328 by omega)
      have HA3 := Lib.hid (show w.heap.size ≤ (wr.alloc (.cells #[.string x.ev.id] 9)).heap.size by simp; omega)
      clear hx hQr hl hPL hc
      cases he : eqS x.ev.key key with
      | false =>
        have HE := Lib.hid (HNO.out he)
        rw [he] at ht
        obtain ⟨wk1, wk2⟩ := HKW.out
        clear he
        go_wp2_with fail
        clear wk1 wk2
        go_roundw
        case rel => exact ⟨k + 1, HK1.out, by first | rfl | go_num, by rw [HE.out]; exact HO.out, HB.out⟩
        case measure => exact meas_lt hlt
      | true =>
        have HE := Lib.hid (HYS.out he)
        rw [he] at ht
        obtain ⟨wk1, wk2⟩ := HKW.out
        clear he
        go_wp2_with (at_builtin; go_loud (refine wpList_append_own _ rfl (.tmp 32) (.tmp 42) 34 rfl w.heap.size 9 i0 (.string ⟨#[]⟩) 1 16 Tryz.underlying34 ih iz0 iz1 iz2 rfl (by decide) _ P.length (svals P) rfl (HO.out.alloc _) ⟨wr.heap.size, 0, none⟩ 1 1 [.string x.ev.id] rfl rfl (cells_new_at rfl) (by intro u hu; simp at hu; subst hu; rfl) HA1.out HA2.out HA3.out ?_); intro v' wn hown1 hgr hiff; clear hiff; have HGR := Lib.hid (And.intro hown1 hgr); clear hown1 hgr)
        have hlow : Below w.heap.size w wn := (HB.out.alloc hzr _).grown HGR.out.2 HA3.out (fun q hq => own_ge HO.out q hq)
        have HF := Lib.hid (And.intro (OwnS.push HGR.out.1) hlow)
        clear hlow HGR wk1 wk2
        go_roundw
        case rel => exact ⟨k + 1, HK1.out, by first | rfl | go_num, by rw [HE.out]; exact HF.out.1, HF.out.2⟩
        case measure => exact meas_lt hlt
    · obtain rfl : k = s.l.length := by omega
      go_wp2_with fail
      go_ret
      have hO := HO.out
      rw [List.take_length] at hO
      exact ⟨_, rfl, hO, HB.out⟩
end
end Go.Proofs.YtbofclohnmojmaaGreatDoor
