/-
  No cell of these rows narrows 'for every input' (looked for: loops, veiled, ifaces, maps, wideKeys, modest, calm, conditions, laid).
  DERIVED. THE GIVEN ROWS OF THIS SEAT. 4 by the template 'for every input the law returns true; each argument reads behind the call as it read before'; 0 by the template 'total and deterministic' (their statements: YtojghgeemdpmpaaTotals.lean).
  GIVEN WITH THE SEED: the statements are not yours to turn. If you find one false, say at which input.
  Laid BY PROGRAM, IN A SANDBOX (cutbox-rows.mjs): the forced cells as the released guide's own fill.sh prints them over the translation a6298d0d682b7788… (all of the seat's roots in one cut). By AI agents, Wed Nov 11 2026. No macro, syntax, notation, axiom, sorry.
-/
import Derived.Test.YtojghgeemdpmpaaChecked
import GoSem.Claim
import GoSem.ClaimJoined
import GoSem.ClaimMapViews
import Derived.JoinedTies
import Derived.KernelRfl
namespace Go.Proofs.Ytojghgeemdpmpaa
/- THE CELL 'sum', in the pinned program and in every row, IS THE sha256 OF THE DUMP (.gsa) THAT YtojghgeemdpmpaaProg.lean LOADS. Nothing in Lean hashes anything: it is a label: what it is worth is what the hold of that sum in a sandbox is worth. -/
noncomputable def Try.pinned : Pinned := { name := "ytojghgeemdpmpaa", sum := "a6298d0d682b778885bd1f19db3cd4a0916056ebed120c9ea1b3237081ac53d9", checked := Try.checked }
namespace Rows
def none {H : Type} : Left H := { results := [], args := [] }

/-- 'faaslaw32.MappingPolls': WHATEVER THE INPUT: true; the input reads as it did. -/
def mappingPollsSpec : ChangeSpec := { name := "mappingPolls", fn := fun _ => fun
  | [d] => { results := [.lit (.bool true)], args := [d] }
  | _ => none }
def mappingPollsRow : OpenClaim := { program := "ytojghgeemdpmpaa", sum := "a6298d0d682b778885bd1f19db3cd4a0916056ebed120c9ea1b3237081ac53d9", func := "faas/faaslaw32.MappingPolls", spec := "mappingPolls", unfollowed := true, recurses := true, apart := false }
def MappingPollsSaid : Prop := mappingPollsRow.holds Try.pinned (OpenSpec.ofChange mappingPollsSpec)

/-- ITS FALSE NEIGHBOUR: 'it returns false'. Refute it at one input. -/
def mappingPollsWrong : ChangeSpec := { name := "mappingPolls", fn := fun _ => fun
  | [d] => { results := [.lit (.bool false)], args := [d] }
  | _ => none }
def MappingPollsWrongFalsely : Prop := mappingPollsRow.holds Try.pinned (OpenSpec.ofChange mappingPollsWrong)

/-- 'faaslaw32.MappingEnds': WHATEVER THE INPUT: true; the input reads as it did. -/
def mappingEndsSpec : ChangeSpec := { name := "mappingEnds", fn := fun _ => fun
  | [d] => { results := [.lit (.bool true)], args := [d] }
  | _ => none }
def mappingEndsRow : OpenClaim := { program := "ytojghgeemdpmpaa", sum := "a6298d0d682b778885bd1f19db3cd4a0916056ebed120c9ea1b3237081ac53d9", func := "faas/faaslaw32.MappingEnds", spec := "mappingEnds", unfollowed := true, recurses := true, apart := false }
def MappingEndsSaid : Prop := mappingEndsRow.holds Try.pinned (OpenSpec.ofChange mappingEndsSpec)

/-- ITS FALSE NEIGHBOUR: 'it returns false'. Refute it at one input. -/
def mappingEndsWrong : ChangeSpec := { name := "mappingEnds", fn := fun _ => fun
  | [d] => { results := [.lit (.bool false)], args := [d] }
  | _ => none }
def MappingEndsWrongFalsely : Prop := mappingEndsRow.holds Try.pinned (OpenSpec.ofChange mappingEndsWrong)

/-- 'faaslaw32.MappingInOrder': WHATEVER THE INPUT: true; the input reads as it did. -/
def mappingInOrderSpec : ChangeSpec := { name := "mappingInOrder", fn := fun _ => fun
  | [d] => { results := [.lit (.bool true)], args := [d] }
  | _ => none }
def mappingInOrderRow : OpenClaim := { program := "ytojghgeemdpmpaa", sum := "a6298d0d682b778885bd1f19db3cd4a0916056ebed120c9ea1b3237081ac53d9", func := "faas/faaslaw32.MappingInOrder", spec := "mappingInOrder", unfollowed := true, recurses := true, apart := false }
def MappingInOrderSaid : Prop := mappingInOrderRow.holds Try.pinned (OpenSpec.ofChange mappingInOrderSpec)

/-- ITS FALSE NEIGHBOUR: 'it returns false'. Refute it at one input. -/
def mappingInOrderWrong : ChangeSpec := { name := "mappingInOrder", fn := fun _ => fun
  | [d] => { results := [.lit (.bool false)], args := [d] }
  | _ => none }
def MappingInOrderWrongFalsely : Prop := mappingInOrderRow.holds Try.pinned (OpenSpec.ofChange mappingInOrderWrong)

/-- 'faaslaw32.MappingStaysValid': WHATEVER THE INPUT: true; the input reads as it did. -/
def mappingStaysValidSpec : ChangeSpec := { name := "mappingStaysValid", fn := fun _ => fun
  | [d] => { results := [.lit (.bool true)], args := [d] }
  | _ => none }
def mappingStaysValidRow : OpenClaim := { program := "ytojghgeemdpmpaa", sum := "a6298d0d682b778885bd1f19db3cd4a0916056ebed120c9ea1b3237081ac53d9", func := "faas/faaslaw32.MappingStaysValid", spec := "mappingStaysValid", unfollowed := true, recurses := true, apart := false }
def MappingStaysValidSaid : Prop := mappingStaysValidRow.holds Try.pinned (OpenSpec.ofChange mappingStaysValidSpec)

/-- ITS FALSE NEIGHBOUR: 'it returns false'. Refute it at one input. -/
def mappingStaysValidWrong : ChangeSpec := { name := "mappingStaysValid", fn := fun _ => fun
  | [d] => { results := [.lit (.bool false)], args := [d] }
  | _ => none }
def MappingStaysValidWrongFalsely : Prop := mappingStaysValidRow.holds Try.pinned (OpenSpec.ofChange mappingStaysValidWrong)

/- THE SECOND FORM. 'bulk': how many values and letters a reading holds, each counted each time it is reached (what is shared counts as often as it is met; a slice's spare places count too). A statement '..UptoSaid' is the law's where the arguments, and the package variables that the reading takes, are together of bulk at most 1048576: NARROWER than '..Said'. Prove '..Said' where nothing that the law and all that it calls make is longer than what came in: it says more and counts as full. Else prove '..UptoSaid'. A law counts once. -/
mutual
def uptoBulk {H : Type} : DataW H → Nat
  | .lit (.string bytes) => bytes.length + 1
  | .lit _ => 1
  | .nil => 1
  | .ptr d => uptoBulk d + 1
  | .slice elems spare => uptoBulkAll elems + uptoBulkAll spare + 1
  | .agg parts => uptoBulkAll parts + 1
  | .iface _ d => uptoBulk d + 1
  | .map entries => uptoBulkEntries entries + 1
  | .held _ => 1
def uptoBulkAll {H : Type} : List (DataW H) → Nat
  | [] => 0
  | d :: r => uptoBulk d + uptoBulkAll r
def uptoBulkEntries {H : Type} : List (Lit × DataW H) → Nat
  | [] => 0
  | x :: r => uptoBulkEntry x + uptoBulkEntries r
def uptoBulkEntry {H : Type} : Lit × DataW H → Nat
  | (.string bytes, d) => bytes.length + uptoBulk d + 1
  | (_, d) => uptoBulk d + 1
 end
def uptoSmall : (H : Type) → List (DataW H) → Bool := fun _ ds => decide (uptoBulkAll ds ≤ 1048576)
def OpenSpec.upto (s : _root_.Go.ChangeSpec) : _root_.Go.OpenSpec := { _root_.Go.OpenSpec.ofChange s with cond := some uptoSmall }

/-- 'faaslaw32.MappingPolls', WHERE WHAT IT READS IS OF BULK AT MOST 1048576: true; the input reads as it did. -/
def mappingPollsUptoRow : OpenClaim := { program := "ytojghgeemdpmpaa", sum := "a6298d0d682b778885bd1f19db3cd4a0916056ebed120c9ea1b3237081ac53d9", func := "faas/faaslaw32.MappingPolls", spec := "mappingPolls", unfollowed := true, recurses := true, apart := false, narrowed := true }
def MappingPollsUptoSaid : Prop := mappingPollsUptoRow.holds Try.pinned (OpenSpec.upto mappingPollsSpec)

/-- 'faaslaw32.MappingEnds', WHERE WHAT IT READS IS OF BULK AT MOST 1048576: true; the input reads as it did. -/
def mappingEndsUptoRow : OpenClaim := { program := "ytojghgeemdpmpaa", sum := "a6298d0d682b778885bd1f19db3cd4a0916056ebed120c9ea1b3237081ac53d9", func := "faas/faaslaw32.MappingEnds", spec := "mappingEnds", unfollowed := true, recurses := true, apart := false, narrowed := true }
def MappingEndsUptoSaid : Prop := mappingEndsUptoRow.holds Try.pinned (OpenSpec.upto mappingEndsSpec)

/-- 'faaslaw32.MappingInOrder', WHERE WHAT IT READS IS OF BULK AT MOST 1048576: true; the input reads as it did. -/
def mappingInOrderUptoRow : OpenClaim := { program := "ytojghgeemdpmpaa", sum := "a6298d0d682b778885bd1f19db3cd4a0916056ebed120c9ea1b3237081ac53d9", func := "faas/faaslaw32.MappingInOrder", spec := "mappingInOrder", unfollowed := true, recurses := true, apart := false, narrowed := true }
def MappingInOrderUptoSaid : Prop := mappingInOrderUptoRow.holds Try.pinned (OpenSpec.upto mappingInOrderSpec)

/-- 'faaslaw32.MappingStaysValid', WHERE WHAT IT READS IS OF BULK AT MOST 1048576: true; the input reads as it did. -/
def mappingStaysValidUptoRow : OpenClaim := { program := "ytojghgeemdpmpaa", sum := "a6298d0d682b778885bd1f19db3cd4a0916056ebed120c9ea1b3237081ac53d9", func := "faas/faaslaw32.MappingStaysValid", spec := "mappingStaysValid", unfollowed := true, recurses := true, apart := false, narrowed := true }
def MappingStaysValidUptoSaid : Prop := mappingStaysValidUptoRow.holds Try.pinned (OpenSpec.upto mappingStaysValidSpec)

end Rows
end Go.Proofs.Ytojghgeemdpmpaa
