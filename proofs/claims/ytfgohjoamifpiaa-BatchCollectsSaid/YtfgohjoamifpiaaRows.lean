/-
  No cell of these rows narrows 'for every input' (looked for: loops, veiled, ifaces, maps, wideKeys, modest, calm, conditions, laid).
  DERIVED. THE GIVEN ROWS OF THIS SEAT. 5 by the template 'for every input the law returns true; each argument reads behind the call as it read before'; 0 by the template 'total and deterministic' (their statements: YtfgohjoamifpiaaTotals.lean).
  GIVEN WITH THE SEED: the statements are not yours to turn. If you find one false, say at which input.
  Laid BY PROGRAM, IN A SANDBOX (cutbox-rows.mjs): the forced cells as the released guide's own fill.sh prints them over the translation c6e3bf1308edbe5c… (all of the seat's roots in one cut). By AI agents, Wed Nov 11 2026. No macro, syntax, notation, axiom, sorry.
-/
import Derived.Test.YtfgohjoamifpiaaChecked
import GoSem.Claim
import GoSem.ClaimJoined
import GoSem.ClaimMapViews
import Derived.JoinedTies
import Derived.KernelRfl
namespace Go.Proofs.Ytfgohjoamifpiaa
/- THE CELL 'sum', in the pinned program and in every row, IS THE sha256 OF THE DUMP (.gsa) THAT YtfgohjoamifpiaaProg.lean LOADS. Nothing in Lean hashes anything: it is a label: what it is worth is what the hold of that sum in a sandbox is worth. -/
noncomputable def Try.pinned : Pinned := { name := "ytfgohjoamifpiaa", sum := "c6e3bf1308edbe5ccee6d3c3a996417ba4131616652822ef82c3f52c691dbff0", checked := Try.checked }
namespace Rows
def none {H : Type} : Left H := { results := [], args := [] }

/-- 'faaslaw31.BatchCut': WHATEVER THE INPUT: true; the input reads as it did. -/
def batchCutSpec : ChangeSpec := { name := "batchCut", fn := fun _ => fun
  | [d1, d2] => { results := [.lit (.bool true)], args := [d1, d2] }
  | _ => none }
def batchCutRow : OpenClaim := { program := "ytfgohjoamifpiaa", sum := "c6e3bf1308edbe5ccee6d3c3a996417ba4131616652822ef82c3f52c691dbff0", func := "faas/faaslaw31.BatchCut", spec := "batchCut", unfollowed := true, recurses := true, apart := false }
def BatchCutSaid : Prop := batchCutRow.holds Try.pinned (OpenSpec.ofChange batchCutSpec)

/-- ITS FALSE NEIGHBOUR: 'it returns false'. Refute it at one input. -/
def batchCutWrong : ChangeSpec := { name := "batchCut", fn := fun _ => fun
  | [d1, d2] => { results := [.lit (.bool false)], args := [d1, d2] }
  | _ => none }
def BatchCutWrongFalsely : Prop := batchCutRow.holds Try.pinned (OpenSpec.ofChange batchCutWrong)

/-- 'faaslaw31.BatchCuts': WHATEVER THE INPUT: true; the input reads as it did. -/
def batchCutsSpec : ChangeSpec := { name := "batchCuts", fn := fun _ => fun
  | [d1, d2] => { results := [.lit (.bool true)], args := [d1, d2] }
  | _ => none }
def batchCutsRow : OpenClaim := { program := "ytfgohjoamifpiaa", sum := "c6e3bf1308edbe5ccee6d3c3a996417ba4131616652822ef82c3f52c691dbff0", func := "faas/faaslaw31.BatchCuts", spec := "batchCuts", unfollowed := true, recurses := true, apart := false }
def BatchCutsSaid : Prop := batchCutsRow.holds Try.pinned (OpenSpec.ofChange batchCutsSpec)

/-- ITS FALSE NEIGHBOUR: 'it returns false'. Refute it at one input. -/
def batchCutsWrong : ChangeSpec := { name := "batchCuts", fn := fun _ => fun
  | [d1, d2] => { results := [.lit (.bool false)], args := [d1, d2] }
  | _ => none }
def BatchCutsWrongFalsely : Prop := batchCutsRow.holds Try.pinned (OpenSpec.ofChange batchCutsWrong)

/-- 'faaslaw31.BatchCollects': WHATEVER THE INPUT: true; the input reads as it did. -/
def batchCollectsSpec : ChangeSpec := { name := "batchCollects", fn := fun _ => fun
  | [d1, d2] => { results := [.lit (.bool true)], args := [d1, d2] }
  | _ => none }
def batchCollectsRow : OpenClaim := { program := "ytfgohjoamifpiaa", sum := "c6e3bf1308edbe5ccee6d3c3a996417ba4131616652822ef82c3f52c691dbff0", func := "faas/faaslaw31.BatchCollects", spec := "batchCollects", unfollowed := true, recurses := true, apart := false }
def BatchCollectsSaid : Prop := batchCollectsRow.holds Try.pinned (OpenSpec.ofChange batchCollectsSpec)

/-- ITS FALSE NEIGHBOUR: 'it returns false'. Refute it at one input. -/
def batchCollectsWrong : ChangeSpec := { name := "batchCollects", fn := fun _ => fun
  | [d1, d2] => { results := [.lit (.bool false)], args := [d1, d2] }
  | _ => none }
def BatchCollectsWrongFalsely : Prop := batchCollectsRow.holds Try.pinned (OpenSpec.ofChange batchCollectsWrong)

/-- 'faaslaw31.BatchGathers': WHATEVER THE INPUT: true; the input reads as it did. -/
def batchGathersSpec : ChangeSpec := { name := "batchGathers", fn := fun _ => fun
  | [d1, d2, d3] => { results := [.lit (.bool true)], args := [d1, d2, d3] }
  | _ => none }
def batchGathersRow : OpenClaim := { program := "ytfgohjoamifpiaa", sum := "c6e3bf1308edbe5ccee6d3c3a996417ba4131616652822ef82c3f52c691dbff0", func := "faas/faaslaw31.BatchGathers", spec := "batchGathers", unfollowed := true, recurses := true, apart := false }
def BatchGathersSaid : Prop := batchGathersRow.holds Try.pinned (OpenSpec.ofChange batchGathersSpec)

/-- ITS FALSE NEIGHBOUR: 'it returns false'. Refute it at one input. -/
def batchGathersWrong : ChangeSpec := { name := "batchGathers", fn := fun _ => fun
  | [d1, d2, d3] => { results := [.lit (.bool false)], args := [d1, d2, d3] }
  | _ => none }
def BatchGathersWrongFalsely : Prop := batchGathersRow.holds Try.pinned (OpenSpec.ofChange batchGathersWrong)

/-- 'faaslaw31.BatchNil': WHATEVER THE INPUT: true; the input reads as it did. -/
def batchNilSpec : ChangeSpec := { name := "batchNil", fn := fun _ => fun
  | [d1, d2] => { results := [.lit (.bool true)], args := [d1, d2] }
  | _ => none }
def batchNilRow : OpenClaim := { program := "ytfgohjoamifpiaa", sum := "c6e3bf1308edbe5ccee6d3c3a996417ba4131616652822ef82c3f52c691dbff0", func := "faas/faaslaw31.BatchNil", spec := "batchNil", unfollowed := true, recurses := true, apart := false }
def BatchNilSaid : Prop := batchNilRow.holds Try.pinned (OpenSpec.ofChange batchNilSpec)

/-- ITS FALSE NEIGHBOUR: 'it returns false'. Refute it at one input. -/
def batchNilWrong : ChangeSpec := { name := "batchNil", fn := fun _ => fun
  | [d1, d2] => { results := [.lit (.bool false)], args := [d1, d2] }
  | _ => none }
def BatchNilWrongFalsely : Prop := batchNilRow.holds Try.pinned (OpenSpec.ofChange batchNilWrong)

/- THE SECOND FORM. 'bulk': how many values and letters a reading holds, each counted each time it is reached (what is shared counts as often as it is met; a slice's spare places count too). A statement '..UptoSaid' is the law's where the arguments, and the package variables that the reading takes, are together of bulk at most 1048576: NARROWER than '..Said'. Prove '..Said' where nothing that the law and all that it calls make is longer than what came in: it says more and counts as full. Else prove '..UptoSaid'. A law counts once. -/
mutual
def uptoBulk {H : Type} : DataW H → Nat
  | .lit (.string bytes) => bytes.length + 1
  | .lit _ => 1
  | .nil => 1
  | .ptr d => uptoBulk d + 1
  | .slice elems spare => uptoBulkAll elems + uptoBulkAll spare + 1
  | .agg parts => uptoBulkAll parts + 1
  | .iface _ d => uptoBulk d + 1
  | .map entries => uptoBulkEntries entries + 1
  | .held _ => 1
def uptoBulkAll {H : Type} : List (DataW H) → Nat
  | [] => 0
  | d :: r => uptoBulk d + uptoBulkAll r
def uptoBulkEntries {H : Type} : List (Lit × DataW H) → Nat
  | [] => 0
  | x :: r => uptoBulkEntry x + uptoBulkEntries r
def uptoBulkEntry {H : Type} : Lit × DataW H → Nat
  | (.string bytes, d) => bytes.length + uptoBulk d + 1
  | (_, d) => uptoBulk d + 1
 end
def uptoSmall : (H : Type) → List (DataW H) → Bool := fun _ ds => decide (uptoBulkAll ds ≤ 1048576)
def OpenSpec.upto (s : _root_.Go.ChangeSpec) : _root_.Go.OpenSpec := { _root_.Go.OpenSpec.ofChange s with cond := some uptoSmall }

/-- 'faaslaw31.BatchCut', WHERE WHAT IT READS IS OF BULK AT MOST 1048576: true; the input reads as it did. -/
def batchCutUptoRow : OpenClaim := { program := "ytfgohjoamifpiaa", sum := "c6e3bf1308edbe5ccee6d3c3a996417ba4131616652822ef82c3f52c691dbff0", func := "faas/faaslaw31.BatchCut", spec := "batchCut", unfollowed := true, recurses := true, apart := false, narrowed := true }
def BatchCutUptoSaid : Prop := batchCutUptoRow.holds Try.pinned (OpenSpec.upto batchCutSpec)

/-- 'faaslaw31.BatchCuts', WHERE WHAT IT READS IS OF BULK AT MOST 1048576: true; the input reads as it did. -/
def batchCutsUptoRow : OpenClaim := { program := "ytfgohjoamifpiaa", sum := "c6e3bf1308edbe5ccee6d3c3a996417ba4131616652822ef82c3f52c691dbff0", func := "faas/faaslaw31.BatchCuts", spec := "batchCuts", unfollowed := true, recurses := true, apart := false, narrowed := true }
def BatchCutsUptoSaid : Prop := batchCutsUptoRow.holds Try.pinned (OpenSpec.upto batchCutsSpec)

/-- 'faaslaw31.BatchCollects', WHERE WHAT IT READS IS OF BULK AT MOST 1048576: true; the input reads as it did. -/
def batchCollectsUptoRow : OpenClaim := { program := "ytfgohjoamifpiaa", sum := "c6e3bf1308edbe5ccee6d3c3a996417ba4131616652822ef82c3f52c691dbff0", func := "faas/faaslaw31.BatchCollects", spec := "batchCollects", unfollowed := true, recurses := true, apart := false, narrowed := true }
def BatchCollectsUptoSaid : Prop := batchCollectsUptoRow.holds Try.pinned (OpenSpec.upto batchCollectsSpec)

/-- 'faaslaw31.BatchGathers', WHERE WHAT IT READS IS OF BULK AT MOST 1048576: true; the input reads as it did. -/
def batchGathersUptoRow : OpenClaim := { program := "ytfgohjoamifpiaa", sum := "c6e3bf1308edbe5ccee6d3c3a996417ba4131616652822ef82c3f52c691dbff0", func := "faas/faaslaw31.BatchGathers", spec := "batchGathers", unfollowed := true, recurses := true, apart := false, narrowed := true }
def BatchGathersUptoSaid : Prop := batchGathersUptoRow.holds Try.pinned (OpenSpec.upto batchGathersSpec)

/-- 'faaslaw31.BatchNil', WHERE WHAT IT READS IS OF BULK AT MOST 1048576: true; the input reads as it did. -/
def batchNilUptoRow : OpenClaim := { program := "ytfgohjoamifpiaa", sum := "c6e3bf1308edbe5ccee6d3c3a996417ba4131616652822ef82c3f52c691dbff0", func := "faas/faaslaw31.BatchNil", spec := "batchNil", unfollowed := true, recurses := true, apart := false, narrowed := true }
def BatchNilUptoSaid : Prop := batchNilUptoRow.holds Try.pinned (OpenSpec.upto batchNilSpec)

end Rows
end Go.Proofs.Ytfgohjoamifpiaa
