/- The walk of the law PolicyDecides. -/
import Derived.Test.YtcmlgiilifdnfaaDoorPV
namespace Go.Proofs.YtcmlgiilifdnfaaDoor
open Go.RowKit
open Go.Sort (grow)

set_option maxHeartbeats 4000000 in
theorem PolicyDecides_any (A : Option Addr) (c : Nat) (l : List St) (a r : ByteArray) (m : Int) (w : World) (hl : StsAt w w.heap.size A l) (hn : l.length ≤ 9223372036854775807) (hs : ∀ s ∈ l, SzW s) (ha : a.size ≤ 9223372036854775807) (hr : r.size ≤ 9223372036854775807) (hm : w.cell? ⟨0, 0, none⟩ = some (.int .i64 m)) :
    Calls Tryd.prog 3 #[.slice A l.length c, .string a, .string r] w fun e w' => e = .returned (.bool true) ∧ Below w.heap.size w w' := by
  have HL := Lib.hid hl
  have HS := Lib.hid hs
  have HM := Lib.hid hm
  have hw0 := block_lt_of_cell hm
  clear hl hs hm
  go_enter Tryd.func3, Tryd.ntmps3
  go_wp2_with fail
  refine (small_any A c l w HL.out hn HS.out).mono ?_
  rintro e wq ⟨rfl, rfl⟩
  cases hsm : smB l
  · clear hsm
    go_wp2_with fail
    refine (awake_any m w HM.out).mono ?_
    rintro e w1 ⟨rfl, hb⟩
    have HB := Lib.hid hb
    clear hb
    go_wp2_with fail
    go_ret
    exact ⟨rfl, HB.out⟩
  · have HZ := Lib.hid (smB_SzL hsm)
    clear hsm
    by_cases h1 : a.size ≤ 100
    · have d1 : decide ((100 : Int) < a.size) = false := decide_eq_false (by omega)
      by_cases h2 : r.size ≤ 100
      · have d2 : decide ((100 : Int) < r.size) = false := decide_eq_false (by omega)
        go_wp2_with fail
        refine (Decide_any A c l a r w HL.out HZ.out ha hr).mono ?_
        rintro e w1 ⟨rfl, hb⟩
        have HB1 := Lib.hid hb
        clear hb
        obtain ⟨q, hq⟩ : ∃ q, decS l a r = q := ⟨_, rfl⟩
        obtain ⟨x, n⟩ := q
        have HQ := Lib.hid hq
        rw [hq]
        clear hq
        unfold aggD
        go_wp2_with fail
        refine (rDecide_any A c l a r w1 (HL.out.on HB1.out) HZ.out ha hr).mono ?_
        rintro e w2 ⟨rfl, hb⟩
        have HB2 := Lib.hid (HB1.out.trans (hb.mono HB1.out.size))
        clear hb
        rw [HQ.out]
        unfold aggD
        go_wp2_with fail
        refine (awake_any m w2 ((HB2.out.cell (p := ⟨0, 0, none⟩) hw0).trans HM.out)).mono ?_
        rintro e w3 ⟨rfl, hb⟩
        have HB3 := Lib.hid (HB2.out.trans (hb.mono HB2.out.size))
        clear hb
        go_wp2_with fail
        go_ret
        exact ⟨rfl, HB3.out⟩
      · have d2 : decide ((100 : Int) < r.size) = true := decide_eq_true (by omega)
        clear h2
        go_wp2_with fail
        refine (awake_any m w HM.out).mono ?_
        rintro e w1 ⟨rfl, hb⟩
        have HB := Lib.hid hb
        clear hb
        go_wp2_with fail
        go_ret
        exact ⟨rfl, HB.out⟩
    · have d1 : decide ((100 : Int) < a.size) = true := decide_eq_true (by omega)
      clear h1
      go_wp2_with fail
      refine (awake_any m w HM.out).mono ?_
      rintro e w1 ⟨rfl, hb⟩
      have HB := Lib.hid hb
      clear hb
      go_wp2_with fail
      go_ret
      exact ⟨rfl, HB.out⟩
end Go.Proofs.YtcmlgiilifdnfaaDoor
