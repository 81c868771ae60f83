/- What the join of HashMovesOnlyOwn stands on. -/
import Derived.Test.YtjjmdgiaohmjkaaDoorHN
import Derived.Test.YtjjmdgiaohmjkaaDoorSN
namespace Go.Proofs.YtjjmdgiaohmjkaaDoor
open Go.ChangeShapes Go.WideShapes Go.ChangeAt Go.RowKit Go.Deep Go.Joins
section
variable {H : Type} {enc : TypeId × Value → H} {w : World} {spare : Nat → Bool} {held : Bool}
/-- A list of strings, opened, with its capacity's bounds. -/
theorem open_strc {v : Value} {d : DataW H} {p : List MemPlace} (hv : ∃ a n c, v = .slice a n c) (h : DataW.Trod enc Tryd.prog w 0 spare held 32 v d p) :
    ∃ (A : Option Addr) (c : Nat) (l : List ByteArray), v = .slice A l.length c ∧ StrL w w.heap.size A l ∧ l.length ≤ maxLen ∧ (∀ t ∈ l, t.size ≤ maxLen) ∧ l.length ≤ c ∧ c ≤ maxLen := by
  obtain ⟨A, c, l, rfl, h1, h2, h3⟩ := open_strl hv h
  refine ⟨A, c, l, rfl, h1, h2, h3, ?_⟩
  obtain ⟨fuel, hf⟩ := h
  rcases open_strings Tryd.underlying32 Tryd.underlying9 cellsS hf with ⟨e, _⟩ | ⟨a, len, cap, ss, e, _, hl, hm, _⟩
  · have e : Value.slice A l.length c = .slice none 0 0 := by simpa [Value.cells] using e
    injection e with _ e1 e2
    omega
  · have e : Value.slice A l.length c = .slice (some a) len cap := by simpa [Value.cells] using e
    injection e with _ e1 e2
    omega
end
end Go.Proofs.YtjjmdgiaohmjkaaDoor
