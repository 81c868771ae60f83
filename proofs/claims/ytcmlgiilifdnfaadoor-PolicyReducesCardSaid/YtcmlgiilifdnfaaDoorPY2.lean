/- A statement by value, opened; the word of PolicyFormats. -/
import Derived.Test.YtcmlgiilifdnfaaDoorPY
import Derived.Test.YtcmlgiilifdnfaaDoorPF3
namespace Go.Proofs.YtcmlgiilifdnfaaDoor
open Go.ChangeShapes Go.WideShapes Go.ChangeAt Go.RowKit Go.Deep Go.Joins

section
variable {H : Type} {enc : TypeId × Value → H} {w : World} {spare : Nat → Bool} {held : Bool}
theorem open_S {r : Reach} {b0 : Nat} {v : Value} {d : DataW H} {p : List MemPlace} (hv : Value.okWide Tryd.prog w r b0 31 v) (h : DataW.Trod enc Tryd.prog w 0 spare held 31 v d p) :
    ∃ (s : St) (A : Option Addr) (c : Nat) (A2 : Option Addr) (c2 : Nat), v = .agg #[.bool s.al, .slice A s.ac.length c, .slice A2 s.re.length c2] ∧ StrL w w.heap.size A s.ac ∧ StrL w w.heap.size A2 s.re ∧ s.ac.length ≤ c ∧ s.re.length ≤ c2 ∧ SzW s := by
  obtain ⟨cs, rfl, hsz⟩ := okWide_struct Tryd.underlying31 hv
  obtain ⟨l⟩ := cs
  rw [cellsT] at hsz
  obtain ⟨fuel, hf⟩ := h
  obtain ⟨s, P, c, P2, c2, e, h1, h2, h3, h4, h5⟩ := st_trod (cs' := l) (by simpa using hsz) (by simpa [Value.cells] using hf)
  subst e
  exact ⟨s, P, c, P2, c2, rfl, h1, h2, h3, h4, h5⟩
end
theorem law_pf (s : St) (A : Option Addr) (c : Nat) (A2 : Option Addr) (c2 : Nat) (text : ByteArray) (w : World) (hX : LaidP w) (hl1 : StrL w w.heap.size A s.ac) (hl2 : StrL w w.heap.size A2 s.re) (hc1 : s.ac.length ≤ c) (hc2 : s.re.length ≤ c2) (hw : SzW s) (ht : text.size ≤ 9223372036854775807) :
    Calls Tryd.prog 4 #[.agg #[.bool s.al, .slice A s.ac.length c, .slice A2 s.re.length c2], .string text] w fun e w' => e = .returned (.bool true) ∧ Below w.heap.size w w' := by
  obtain ⟨m, hm⟩ := hX
  exact PolicyFormats_any s A c A2 c2 text m w hl1 hl2 hc1 hc2 hw ht hm
end Go.Proofs.YtcmlgiilifdnfaaDoor
