/- The reference's Dead. -/
import Derived.Test.YtbofclohnmojmaaGreatDoorRC4
namespace Go.Proofs.YtbofclohnmojmaaGreatDoor
open Go.RowKit
open Go.Sort (grow)

section
variable {w : World} {B q c c' : Nat} {A A' : Option Addr} {s : QS}
attribute [local go_sem ↓] run_lc7
attribute [local go_sem] run_lc7_new
set_option maxHeartbeats 8000000 in
set_option maxRecDepth 20000 in
theorem rDead_any (hQ : RQ w B q A c A' c' s) (hv : 0 < s.v) (hl : s.d.length ≤ 600) (hbd : ∀ e ∈ s.d, e.body.length ≤ 1048576) : Calls Tryz.prog 23 #[.pointer (some ⟨q, 0, none⟩)] w (EvsPost w s.d) := by
  obtain ⟨i0, ih, iz0, iz1, iz2⟩ := info_partsO info_event
  have hb0 : Below w.heap.size w (w.alloc (.cells #[] 40)) := (Below.refl w.heap.size w).alloc (Nat.le_refl _) _
  have HM := Lib.hid (rmade_any (hQ.below hb0) hv)
  have HB0 := Lib.hid hb0
  have HO0 := Lib.hid (show OwnV (w.alloc (.cells #[] 40)) w.heap.size (.slice (some ⟨w.heap.size, 0, none⟩) 0 0) [] from by
    have h := World.ownsRow_lit (base := w.heap.size) (size := 7) (e := 40) w #[] 0 (Nat.le_refl _) (by decide) rfl
    simpa [OwnV] using h)
  have HQ := Lib.hid hQ
  have HBD := Lib.hid hbd
  clear hQ hbd hb0
  go_enter Tryz.func23, Tryz.ntmps23
  go_wp2_with fail
  refine HM.out.mono ?_
  rintro e wq ⟨rfl, hq⟩
  obtain rfl := hq.symm
  go_wp2_with fail
  go_loopw [3, 4] (fun v3 v14 wr => DdRel w s.d v3 v14 wr) (fun _ v14 _ => s.d.length - (intOf v14).toNat)
  case atStart => exact ⟨0, [], Nat.zero_le _, rfl, HO0.out, rfl, fun y hy => absurd hy (by simp), HB0.out⟩
  case round =>
    obtain ⟨k, P, hk, rfl, hown, hPc, hPe, hb⟩ := hrel
    obtain ⟨v, rfl⟩ : ∃ v : Value, v = u3 := ⟨_, rfl⟩
    have HO := Lib.hid hown
    have HB := Lib.hid hb
    have HPC := Lib.hid hPc
    have HPE := Lib.hid hPe
    have hzr : w.heap.size ≤ wr.heap.size := hb.size
    have hQr := HQ.out.below hb
    have q3 : wr.cell? ⟨q, 3, none⟩ = some (.slice A' s.d.length c') := hQr.blk.cell 3
    have hPL : P.length = k := by have := congrArg List.length hPc; simp at this; omega
    clear hown hb hPc hPe
    by_cases hlt : k < s.d.length
    · obtain ⟨x, hx⟩ : ∃ t, s.d[k]? = some t := ⟨_, List.getElem?_eq_getElem hlt⟩
      obtain ⟨g, rfl, -, -, -, hld⟩ := ld_ev hQr.dead hx
      have HW := Lib.hid (rown_any x wr (hQr.bd x (List.mem_of_getElem? hx)).inn (Nat.le_trans (HBD.out x (List.mem_of_getElem? hx)) (by decide)))
      have HTK := Lib.hid (take_snoc2 hx)
      have hki : (k : Int) < s.d.length := by omega
      have hk0 : (0 : Int) ≤ k := by omega
      have HK1 := Lib.hid (show k + 1 ≤ s.d.length from hlt)
      have HKW := Lib.hid (w64 (x := (k : Int) + 1) (by omega) (by omega))
      have HA1 := Lib.hid (show P.length + 1 ≤ maxLen by simp only [maxLen]; omega)
      have HA2 := Lib.hid (show (P.length + 1) * 112 ≤ 140737488355328 by omega)
      clear hx hQr hl hPL
      go_wp2_with fail
      refine HW.out.mono ?_
      rintro e w2 ⟨Ay, cy, rfl, hev, hb⟩
      have hb2 : Below wr.heap.size wr w2 := hb
      have HEV := Lib.hid hev
      have HO2 := Lib.hid (own_below HO.out hb2)
      have HB2 := Lib.hid (HB.out.trans (hb2.mono hzr))
      have hz2 : wr.heap.size ≤ w2.heap.size := hb.size
      have HP2 := Lib.hid (show ∀ y ∈ P, EvQ w2 w.heap.size y from fun y hy => (HPE.out y hy).below hb2)
      have HA3 := Lib.hid (show w.heap.size ≤ (w2.alloc (.cells #[.string x.id, .string x.tn, .string x.src, .string x.key, .int .i64 x.at_, .string x.cause, .slice Ay x.body.length cy] 40)).heap.size by simp; omega)
      simp only [Ev.val]
      obtain ⟨wk1, wk2⟩ := HKW.out
      clear hev hb hb2 hld
      go_wp2_with (at_builtin; go_loud (refine wpList_append_own _ rfl (.tmp 19) (.tmp 28) 52 rfl w.heap.size 40 i0 (.agg #[.string ⟨#[]⟩, .string ⟨#[]⟩, .string ⟨#[]⟩, .string ⟨#[]⟩, .int .i64 0, .string ⟨#[]⟩, .slice none 0 0]) 7 112 Tryz.underlying52 ih iz0 iz1 iz2 rfl (by decide) _ P.length (P.flatMap Ev.cells) rfl (HO2.out.alloc _) ⟨w2.heap.size, 0, none⟩ 1 1 ({ x with A := Ay, cp := cy } : Ev).cells rfl rfl (cells_new_at rfl) (Ev.one _) HA1.out HA2.out HA3.out ?_); intro v' wn hown1 hgr hiff; clear hiff; have HGR := Lib.hid (And.intro hown1 hgr); clear hown1 hgr)
      have hC : Chg (fun k => v.ownBlock = some k) w2 wn := ((Chg.refl _ w2).alloc _).grown HGR.out.2 (fun k hk _ => hk)
      have hlow : Below w.heap.size w wn := (HB2.out.alloc (by omega) _).grown HGR.out.2 HA3.out (fun q hq => own_ge HO2.out q hq)
      have hoff : OffC w2 (fun k => v.ownBlock = some k) := fun k hk cs m e => by
        obtain ⟨cs', hb⟩ := own_blk HO2.out hk
        unfold Blk at hb
        rw [hb] at e
        injection e with e
        injection e with _ e
        exact absurd e (by decide)
      have HF := Lib.hid (And.intro (OwnV.push HGR.out.1) hlow)
      have HE := Lib.hid (show ∀ y ∈ P ++ [({ x with A := Ay, cp := cy } : Ev)], EvQ wn w.heap.size y from fun y hy => by
        rcases List.mem_append.1 hy with hy | hy
        · exact (HP2.out y hy).chg hC hoff
        · rw [List.mem_singleton.1 hy]
          exact (HEV.out.base (by omega)).chg hC hoff)
      clear hlow HGR wk1 wk2 hC hoff
      go_roundw
      case rel => exact ⟨k + 1, _, HK1.out, by first | rfl | go_num, HF.out.1, by rw [HTK.out, List.map_append, List.map_append, HPC.out]; rfl, HE.out, HF.out.2⟩
      case measure => exact meas_lt hlt
    · obtain rfl : k = s.d.length := by omega
      go_wp2_with fail
      go_ret
      have hC := HPC.out
      rw [List.take_length] at hC
      exact ⟨_, P, rfl, HO.out, hC, HPE.out, HB.out⟩
end
end Go.Proofs.YtbofclohnmojmaaGreatDoor
