/- Stores into known blocks. -/
import Derived.Test.YtjjmdgiaohmjkaaDoorU
namespace Go.Proofs.YtjjmdgiaohmjkaaDoor
open Go.RowKit
theorem Blk.set2 {w : World} {g : Nat} {t : TypeId} {a b : Value} (h : Blk w g t #[a, b]) (x y : Value) : Blk ((w.setCell ⟨g, 0, none⟩ x).setCell ⟨g, 1, none⟩ y) g t #[x, y] := by
  simpa using (h.set_ 0 x).set_ 1 y
theorem Blk.far2 {w : World} {g g' : Nat} {t : TypeId} {cs : Array Value} (h : Blk w g t cs) (hne : g ≠ g') (x y : Value) : Blk ((w.setCell ⟨g', 0, none⟩ x).setCell ⟨g', 1, none⟩ y) g t cs :=
  (h.far (p := ⟨g', 0, none⟩) hne x).far (p := ⟨g', 1, none⟩) hne y
end Go.Proofs.YtjjmdgiaohmjkaaDoor
