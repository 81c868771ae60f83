/- Words for the joins of the Upto statements. -/
import Derived.Test.YtbofclohnmojmaaGreatDoorYO
import Derived.Deep.DeepHandedRow
import Derived.Shelf.Vars
import Derived.Lay
import Derived.JoinedCond
namespace Go.Proofs.YtbofclohnmojmaaGreatDoor
open Go.ChangeShapes Go.WideShapes Go.ChangeAt Go.RowKit

theorem door_metA (os : Os) (args : Array Value) : laidMetH Tryz.prog laidL ((World.laidAll Tryz.prog os laidL).forCall (fun _ _ => 0) ⟨#[], args, []⟩).memory := by
  rw [MakeChecks.laidMetH_plain _ _ _ (by kernel_rfl)]; exact laidMet_laidAll _ (by kernel_rfl) (by kernel_rfl)
theorem of_laidA {W : World} (h : laidMetH Tryz.prog laidL W) (_hs : W.ShapedOpen Tryz.prog) : LaidW W ∧ ErrV W := of_laid h
end Go.Proofs.YtbofclohnmojmaaGreatDoor
