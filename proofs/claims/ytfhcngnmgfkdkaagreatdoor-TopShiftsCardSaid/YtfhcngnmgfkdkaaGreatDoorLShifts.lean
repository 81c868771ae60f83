/- TopShifts returns true whatever its arguments, and its arguments read behind the call as they did. The listed variables are tied to the text. -/
import Derived.Test.YtfhcngnmgfkdkaaGreatDoorTV
import Derived.Test.YtfhcngnmgfkdkaaGreatDoorTie
import Derived.Test.YtfhcngnmgfkdkaaGreatDoorCards
import Derived.SevenTiedAt
namespace Go.Proofs.YtfhcngnmgfkdkaaGreatDoor
open Go.ChangeShapes Go.WideShapes Go.ChangeAt Go.WideMaps Go.WideElems Go.RowKit
open Go.ChangeMaps (open_string shut_string)

set_option maxRecDepth 100000
theorem card_wf : Rows.topShiftsRow.wfByText (OpenSpec.ofChange Rows.topShiftsSpec) = true := by kernel_rfl
theorem card_main : Tryz.prog.mainIs = some (true, "b3d18312d8804349ede0ac3ef1c38a6badc16b7d98ac91753b890654a66526e4".toList) := by kernel_rfl
theorem card_looks : true = Tryz.prog.looks [] := by kernel_rfl
theorem card_in : ([23, 5, 9, 24].all fun u => !Tryz.prog.wantsStandIn u) = true := by kernel_rfl
theorem card_goes : false = Rows.topShiftsRow.goesBy Tryz.prog := by kernel_rfl

theorem topShifts_holds : Rows.TopShiftsCardSaid :=
  Claim7.holds_tied_plain_at .later [] [.data, .data, .data, .sentinel, .sentinel, .data] true (true, "b3d18312d8804349ede0ac3ef1c38a6badc16b7d98ac91753b890654a66526e4") true
    topShifts_row_holds (fun _ h => by cases h) card_wf (fun _ h => by cases h) topShifts_row_tie rfl ⟨rfl, rfl⟩ card_main rfl
    (fun f fn hf hfn => by
      obtain rfl : f = 3 := Option.some.inj (row_fn.symm.trans hf) |>.symm
      obtain rfl : fn = Tryz.f3 := (Option.some.inj (Tryz.func3.symm.trans hfn)).symm
      exact ⟨card_looks, fun j t ht => by
        rw [Tryz.params3] at ht
        have hm : t ∈ [23, 5, 9, 24] := by simpa using Array.mem_of_getElem? ht
        exact (show Tryz.prog.wantsStandIn t = false by simpa using List.all_eq_true.1 card_in t hm)⟩)
    card_goes
#print axioms topShifts_holds
end Go.Proofs.YtfhcngnmgfkdkaaGreatDoor
