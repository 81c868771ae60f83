/- TopShifts: the row; its closed facts, each in a declaration of its own. -/
import Derived.Test.YtfhcngnmgfkdkaaGreatDoorTU
namespace Go.Proofs.YtfhcngnmgfkdkaaGreatDoor
open Go.ChangeShapes Go.WideShapes Go.ChangeAt Go.WideMaps Go.WideElems Go.RowKit
open Go.ChangeMaps (open_string shut_string)

set_option maxRecDepth 100000
theorem row_fn : Tryz.prog.funcNamed "faas/faastop.TopShifts" = some 3 := by kernel_rfl
theorem row_lo : laidOutB Tryz.prog = true := by kernel_rfl
theorem row_mr : mapsRowed Tryz.prog = true := by kernel_rfl
theorem row_ip : (Rows.topShiftsRow.inPlace == Tryz.prog.inPlace 3) = true := by kernel_rfl
theorem row_uf : (Rows.topShiftsRow.unfollowed == Tryz.prog.unfollowed 3) = true := by kernel_rfl
theorem row_rc : (Rows.topShiftsRow.recurses == Tryz.prog.recurses 3) = true := by kernel_rfl
theorem row_vn : (Rows.topShiftsRow.named == Tryz.prog.varsNamed 3) = true := by kernel_rfl
theorem row_pk : (Rows.topShiftsRow.plainKeys == Tryz.prog.plainKeys) = true := by kernel_rfl
theorem row_sh : Tryz.prog.stopsHeard = true := by kernel_rfl
theorem row_me : Tryz.prog.mayEnter = true := by kernel_rfl
theorem row_joined : joinedFacts Tryz.prog 3 Tryz.f3 Rows.topShiftsSpec Rows.topShiftsRow = true := by
  unfold joinedFacts
  rw [row_lo, row_mr, row_ip, row_uf, row_rc, row_vn, row_pk, row_sh, row_me]
  kernel_rfl

theorem topShifts_row_holds : Rows.TopShiftsSaid :=
  OpenClaim.holds_of_wide 3 Tryz.f3 rfl rfl rfl rfl rfl rfl rfl ⟨rfl, rfl, rfl, rfl, rfl⟩ rfl rfl rfl rfl rfl row_fn Tryz.func3 row_joined
    (of_decide_eq_true (by kernel_rfl)) (by unfold Func.isWrapper; first | (rw [if_pos (by decide +kernel)]; kernel_rfl) | (rw [if_neg (by decide +kernel)]; exact ⟨rfl, rfl⟩))
    (fun os started H enc _ => topShifts_lifted os started H enc)
end Go.Proofs.YtfhcngnmgfkdkaaGreatDoor
