/- Words for the joins of PolicyReduces, DenyWins, Keeps, Back. -/
import Derived.Test.YtcmlgiilifdnfaaDoorPY2
import Derived.Test.YtcmlgiilifdnfaaDoorQE
namespace Go.Proofs.YtcmlgiilifdnfaaDoor
open Go.ChangeShapes Go.WideShapes Go.ChangeAt Go.RowKit Go.Deep Go.Joins

theorem bounds_u8' {z : Int} (h : (Lit.int .u8 z).wf = true) : 0 ≤ z ∧ z < 256 := by
  simp [Lit.wf, IntKind.min, IntKind.max, IntKind.signed, IntKind.bits] at h
  omega
theorem law_pb (s : St) (A : Option Addr) (c : Nat) (A2 : Option Addr) (c2 : Nat) (text : ByteArray) (w : World) (hX : LaidP w) (hl1 : StrL w w.heap.size A s.ac) (hl2 : StrL w w.heap.size A2 s.re) (hc1 : s.ac.length ≤ c) (hc2 : s.re.length ≤ c2) (hw : SzW s) (ht : text.size ≤ 9223372036854775807) :
    Calls Tryd.prog 8 #[.agg #[.bool s.al, .slice A s.ac.length c, .slice A2 s.re.length c2], .string text] w fun e w' => e = .returned (.bool true) ∧ Below w.heap.size w w' := by
  obtain ⟨m, hm⟩ := hX
  exact PolicyBack_any s A c A2 c2 text m w hl1 hl2 hc1 hc2 hw ht hm
theorem law_pk (A : Option Addr) (c : Nat) (l : List St) (a r : ByteArray) (w : World) (hX : LaidP w) (hl : StsAt w w.heap.size A l) (hc : l.length ≤ c) (hn : l.length ≤ maxLen) (hs : ∀ s ∈ l, SzW s) (ha : a.size ≤ 9223372036854775807) (hr : r.size ≤ 9223372036854775807) :
    Calls Tryd.prog 7 #[.slice A l.length c, .string a, .string r] w fun e w' => e = .returned (.bool true) ∧ Below w.heap.size w w' := by
  obtain ⟨m, hm⟩ := hX
  exact PolicyKeeps_any A c l a r m w hl hc (by unfold maxLen at hn; omega) hs ha hr hm
theorem law_pr (A : Option Addr) (c : Nat) (l : List St) (s1 s2 : St) (A1 : Option Addr) (c1 : Nat) (B1 : Option Addr) (d1 : Nat) (A2 : Option Addr) (c2 : Nat) (B2 : Option Addr) (d2 : Nat) (w : World) (hX : LaidP w) (hl : StsAt w w.heap.size A l) (hn : l.length ≤ maxLen) (hs : ∀ s ∈ l, SzW s)
    (a1 : StrL w w.heap.size A1 s1.ac) (b1 : StrL w w.heap.size B1 s1.re) (a2 : StrL w w.heap.size A2 s2.ac) (b2 : StrL w w.heap.size B2 s2.re) (z1 : SzW s1) (z2 : SzW s2) :
    Calls Tryd.prog 5 #[.slice A l.length c, .agg #[.bool s1.al, .slice A1 s1.ac.length c1, .slice B1 s1.re.length d1], .agg #[.bool s2.al, .slice A2 s2.ac.length c2, .slice B2 s2.re.length d2]] w fun e w' => e = .returned (.bool true) ∧ Below w.heap.size w w' := by
  obtain ⟨m, hm⟩ := hX
  exact PolicyReduces_any A c l s1 s2 A1 c1 B1 d1 A2 c2 B2 d2 m w hl (by unfold maxLen at hn; omega) hs a1 b1 a2 b2 z1 z2 hm
theorem law_pw (A : Option Addr) (c : Nat) (l : List St) (s : St) (A1 : Option Addr) (c1 : Nat) (B1 : Option Addr) (d1 : Nat) (z : Int) (a r : ByteArray) (w : World) (hX : LaidP w) (hl : StsAt w w.heap.size A l) (hc : l.length ≤ c) (hn : l.length ≤ maxLen) (hs : ∀ s ∈ l, SzW s)
    (a1 : StrL w w.heap.size A1 s.ac) (b1 : StrL w w.heap.size B1 s.re) (z1 : SzW s) (hz : (Lit.int .u8 z).wf = true) (ha : a.size ≤ 9223372036854775807) (hr : r.size ≤ 9223372036854775807) :
    Calls Tryd.prog 6 #[.slice A l.length c, .agg #[.bool s.al, .slice A1 s.ac.length c1, .slice B1 s.re.length d1], .int .u8 z, .string a, .string r] w fun e w' => e = .returned (.bool true) ∧ Below w.heap.size w w' := by
  obtain ⟨m, hm⟩ := hX
  have hb := bounds_u8' hz
  obtain ⟨v, rfl⟩ : ∃ v : Nat, z = (v : Int) := ⟨z.toNat, by omega⟩
  exact PolicyDenyWins_any A c l s A1 c1 B1 d1 v a r m w hl hc (by unfold maxLen at hn; omega) hs a1 b1 z1 (by omega) ha hr hm
end Go.Proofs.YtcmlgiilifdnfaaDoor
