/- The examples of the chapter. -/
import Derived.Test.YtkfoimjnkinkpaaDoorC
namespace Go.Proofs.YtkfoimjnkinkpaaDoor
open Go.RowKit

set_option maxHeartbeats 1000000 in
theorem awake_any (w : World) (htab : Lib.TabIs Tryd.prog w "internal/strconv.uint64pow10" .u64 Lib.pow10Tab) : Calls Tryd.prog 10 #[] w fun e w' => e = .returned (.bool true) ∧ Below w.heap.size w w' := by
  have HT := Lib.hid (Lib.tabBelow_of_tabIs htab)
  clear htab
  go_enter Tryd.func10, Tryd.ntmps10
  go_wp2_with fail
  refine (DivMod_any (-7) 2 _).mono ?_
  rintro e w1 ⟨rfl, hb1⟩
  rw [show tup3 (dmI (-7) 2) = .tuple #[.int .i64 (-4), .int .i64 1, .int .i64 0] from rfl]
  go_wp2_with fail
  refine (MulDiv_1 _).mono ?_
  rintro e w2 ⟨rfl, hb2⟩
  have h2 := hb1.trans (hb2.mono hb1.size)
  clear hb2
  go_wp2_with fail
  refine (MulDiv_2 _).mono ?_
  rintro e w3 ⟨rfl, hb3⟩
  have h3 := h2.trans (hb3.mono h2.size)
  clear hb3
  go_wp2_with fail
  refine (Parse_007 _).mono ?_
  rintro e w4 ⟨rfl, hb4⟩
  have h4 := h3.trans (hb4.mono h3.size)
  clear hb4
  go_wp2_with fail
  refine (CeilDiv_any (-7) 2 _).mono ?_
  rintro e w5 ⟨rfl, hb5⟩
  rw [show tup2 (cdI (-7) 2) = .tuple #[.int .i64 (-3), .int .i64 0] from rfl]
  have h5 := h4.trans (hb5.mono h4.size)
  clear hb5
  go_wp2_with fail
  refine (Format_any (-40) (by decide) (by decide) _ (HT.out _ h5)).mono ?_
  rintro e w6 ⟨rfl, hb6⟩
  have h6 := h5.trans (hb6.mono h5.size)
  rw [show Lib.itoa (-40) = [45, 52, 48] from by first | kernel_rfl | decide +kernel]
  go_wp2
  go_ret
  exact ⟨rfl, h6⟩
end Go.Proofs.YtkfoimjnkinkpaaDoor
