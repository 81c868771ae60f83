/- Arguments opened: a list of statements. -/
import Derived.Test.YtcmlgiilifdnfaaDoorPW
import Derived.Test.YtcmlgiilifdnfaaDoorRows
import Derived.ProofKit
import Derived.LaidMore
import Derived.OpenShut
import Derived.Deep.Slices
import Derived.SliceStrings
namespace Go.Proofs.YtcmlgiilifdnfaaDoor
open Go.ChangeShapes Go.WideShapes Go.ChangeAt Go.RowKit Go.Deep

theorem cellsS : Tryd.prog.cellsOf 9 = 1 := by kernel_rfl
theorem cellsT : Tryd.prog.cellsOf 31 = 3 := by kernel_rfl
theorem cellsL : Tryd.prog.cellsOf 29 = 1 := by kernel_rfl
theorem cellsB : Tryd.prog.cellsOf 4 = 1 := by kernel_rfl
theorem build_list {α : Type} {Q : Nat → α → Prop} : ∀ n : Nat, (∀ i, i < n → ∃ x, Q i x) → ∃ l : List α, l.length = n ∧ ∀ i x, l[i]? = some x → Q i x
  | 0, _ => ⟨[], rfl, by simp⟩
  | n + 1, h => by
    obtain ⟨l, hl, hq⟩ := build_list n fun i hi => h i (by omega)
    obtain ⟨x, hx⟩ := h n (by omega)
    refine ⟨l ++ [x], by simp [hl], fun i y hy => ?_⟩
    rw [List.getElem?_append] at hy
    split at hy
    · exact hq i y hy
    · have : i - l.length = 0 := by
        rcases Nat.eq_zero_or_pos (i - l.length) with h0 | h0
        · exact h0
        · rw [List.getElem?_eq_none (by simp; omega)] at hy; cases hy
      rw [this] at hy
      simp at hy
      subst hy
      rw [show i = n from by omega]
      exact hx

section
variable {H : Type} {enc : TypeId × Value → H} {w : World} {spare : Nat → Bool} {held : Bool}
theorem cells_split {b : Addr} {n : Nat} {cs : List Value} (h : w.cells? 0 b n = some cs) : cs.length = n ∧ ∀ j, j < n → w.cell? (b.add j) = cs[j]? := by
  obtain ⟨_, h1, h2⟩ := World.cells?_some h
  exact ⟨h1, h2⟩

theorem reads_of {a : Addr} {n size : Nat} {xs : List Value} (hs : 0 < size) (hl : xs.length = n * size) (h : ∀ j u, xs[j]? = some u → w.cell? (a.add j) = some u) : Reads w w.heap.size size (some a) n xs := by
  refine ⟨hl, fun hn => ?_⟩
  have h0 : 0 < xs.length := by rw [hl]; exact Nat.mul_pos hn hs
  have hc := h 0 _ (List.getElem?_eq_getElem h0)
  rw [show a.add 0 = a from by simp [Addr.add]] at hc
  obtain ⟨b, o, s⟩ := a
  have hsp : s = none := World.cell?_spot hc
  subst hsp
  refine ⟨b, o, rfl, block_lt_of_cell hc, fun j u hu => ?_⟩
  have := h j u hu
  rwa [Addr.add_lit] at this
/-- A list of strings, opened. -/
theorem strl_trod {v : Value} {fuel : Nat} {x : DataW H × List MemPlace} (h : DataW.trod enc Tryd.prog w 0 spare held fuel 29 [v] = some x) :
    ∃ (A : Option Addr) (c : Nat) (l : List ByteArray), v = .slice A l.length c ∧ StrL w w.heap.size A l ∧ l.length ≤ c ∧ l.length ≤ maxLen ∧ ∀ t ∈ l, t.size ≤ maxLen := by
  rcases open_strings Tryd.underlying29 Tryd.underlying9 cellsS h with ⟨e, _⟩ | ⟨a, len, cap, ss, e, _, hl, hm, hss, _, hi, hz⟩
  · injection e with e _
    subst e
    exact ⟨none, 0, [], rfl, Reads.none_, Nat.zero_le _, Nat.zero_le _, by simp⟩
  · injection e with e _
    subst e
    have hlm : len ≤ ss.length := by rw [hss]; split <;> omega
    have hlt : (ss.take len).length = len := by rw [List.length_take]; omega
    refine ⟨some a, cap, ss.take len, by rw [hlt], ?_, by omega, by omega, fun t ht => hz t (List.mem_of_mem_take ht)⟩
    refine reads_of (by omega) (by simp [svals]) fun j u hu => ?_
    have hj : j < len := by
      have := (List.getElem?_eq_some_iff.1 hu).1
      simp [svals] at this; omega
    unfold svals at hu
    rw [List.getElem?_map, List.getElem?_take_of_lt hj] at hu
    rw [hi j (by omega), ← hu, List.getElem?_eq_getElem (by omega : j < ss.length), List.getD_eq_getElem?_getD, List.getElem?_eq_getElem (by omega : j < ss.length)]
    rfl
theorem field_of {fs : Array Field} {cs : List Value} {xs : List (DataW H × List MemPlace)} {n k : Nat} (hf : ∀ (i : Nat) (f : Field), fs[i]? = some f → DataW.trod enc Tryd.prog w 0 spare held n f.type ((cs.drop f.offset).take (Tryd.prog.cellsOf f.type)) = xs[i]?)
    (hl : xs.length = fs.size) (i : Nat) (f : Field) (hi : fs[i]? = some f) (hk : Tryd.prog.cellsOf f.type = k) : ∃ y, DataW.trod enc Tryd.prog w 0 spare held n f.type ((cs.drop f.offset).take k) = some y := by
  have h := hf i f hi
  have hlt : i < xs.length := by rw [hl]; exact (Array.getElem?_eq_some_iff.1 hi).1
  rw [hk, List.getElem?_eq_getElem hlt] at h
  exact ⟨_, h⟩
theorem bool_field {t : TypeId} {n : Nat} {v : Value} {y : DataW H × List MemPlace} (ht : Tryd.prog.underlying t = some .bool) (h : DataW.trod enc Tryd.prog w 0 spare held n t [v] = some y) : ∃ k : Bool, v = .bool k := by
  obtain ⟨k, e, _⟩ := DataW.trod_bool ht h
  injection e with e
  exact ⟨k, e⟩
/-- The three cells of a statement, opened. -/
theorem st_trod {cs' : List Value} {n : Nat} {y : DataW H × List MemPlace} (h3 : cs'.length = 3) (ht : DataW.trod enc Tryd.prog w 0 spare held n 31 cs' = some y) :
    ∃ (s : St) (P : Option Addr) (c : Nat) (P2 : Option Addr) (c2 : Nat), cs' = [.bool s.al, .slice P s.ac.length c, .slice P2 s.re.length c2] ∧ StrL w w.heap.size P s.ac ∧ StrL w w.heap.size P2 s.re ∧ s.ac.length ≤ c ∧ s.re.length ≤ c2 ∧ SzW s := by
  match cs', h3 with
  | [c0, c1, c2], _ =>
    obtain ⟨xs, n', _, _, _, hxl, hf⟩ := DataW.trod_struct Tryd.underlying31 ht
    obtain ⟨y0, g0⟩ := field_of hf hxl 0 _ rfl cellsB
    obtain ⟨y1, g1⟩ := field_of hf hxl 1 _ rfl cellsL
    obtain ⟨y2, g2⟩ := field_of hf hxl 2 _ rfl cellsL
    obtain ⟨k0, rfl⟩ := bool_field Tryd.underlying4 g0
    obtain ⟨P, c, l, rfl, hl, hc, hm, hz⟩ := strl_trod g1
    obtain ⟨P2, c2, l2, rfl, hl2, hc2, hm2, hz2⟩ := strl_trod g2
    unfold maxLen at hm hm2 hz hz2
    exact ⟨⟨k0, l, l2⟩, P, c, P2, c2, rfl, hl, hl2, hc, hc2, by omega, by omega, fun t ht => by have := hz t ht; omega, fun t ht => by have := hz2 t ht; omega⟩
set_option maxRecDepth 100000 in
theorem open_sts {v : Value} {d : DataW H} {p : List MemPlace} (hv : ∃ a n c, v = .slice a n c) (h : DataW.Trod enc Tryd.prog w 0 spare held 22 v d p) :
    ∃ (A : Option Addr) (c : Nat) (l : List St), v = .slice A l.length c ∧ StsAt w w.heap.size A l ∧ l.length ≤ c ∧ l.length ≤ maxLen ∧ ∀ s ∈ l, SzW s := by
  obtain ⟨a0, n0, c0, rfl⟩ := hv
  obtain ⟨fuel, hf⟩ := h
  rcases open_slice Tryd.underlying22 hf with ⟨e, _⟩ | ⟨a, len, cap, m, n, D, Pl, e, _, hl, hm, hmm, _, hi⟩
  · have e : Value.slice a0 n0 c0 = .slice none 0 0 := by simpa [Value.cells] using e
    rw [e]
    exact ⟨none, 0, [], rfl, fun k s h => by simp at h, Nat.zero_le _, Nat.zero_le _, by simp⟩
  · have e : Value.slice a0 n0 c0 = .slice (some a) len cap := by simpa [Value.cells] using e
    rw [e]
    have hlm : len ≤ m := by rw [hmm]; split <;> omega
    obtain ⟨l, hll, hq⟩ := build_list (Q := fun i (s : St) => SzW s ∧ ∃ P c P2 c2, w.cell? (a.add (i * 3)) = some (.bool s.al) ∧ w.cell? (a.add (i * 3 + 1)) = some (.slice P s.ac.length c) ∧ w.cell? (a.add (i * 3 + 2)) = some (.slice P2 s.re.length c2) ∧ StrL w w.heap.size P s.ac ∧ StrL w w.heap.size P2 s.re) len fun i hil => by
      obtain ⟨cs', hc, ht⟩ := hi i (by omega)
      rw [cellsT] at hc
      obtain ⟨h4, hcell⟩ := cells_split hc
      obtain ⟨s, P, c, P2, c2, rfl, h1, h2, _, _, hz⟩ := st_trod h4 ht
      have e0 := hcell 0 (by omega)
      have e1 := hcell 1 (by omega)
      have e2 := hcell 2 (by omega)
      rw [add_of_add] at e0 e1 e2
      exact ⟨s, hz, P, c, P2, c2, e0, e1, e2, h1, h2⟩
    refine ⟨some a, cap, l, by rw [hll], ?_, by omega, by omega, fun s hs => ?_⟩
    · intro k s hk
      obtain ⟨_, P, c, P2, c2, e0, e1, e2, h1, h2⟩ := hq k s hk
      obtain ⟨b, o, sp⟩ := a
      have hsp : sp = none := by
        have hlt : 0 < l.length := by have := (List.getElem?_eq_some_iff.1 hk).1; omega
        obtain ⟨_, _, _, _, _, f0, -⟩ := hq 0 _ (List.getElem?_eq_getElem hlt)
        rw [Nat.zero_mul, show (⟨b, o, sp⟩ : Addr).add 0 = ⟨b, o, sp⟩ from by simp [Addr.add]] at f0
        exact World.cell?_spot f0
      subst hsp
      rw [Addr.add_lit] at e0 e1 e2
      exact ⟨b, o, P, c, P2, c2, rfl, block_lt_of_cell e0, e0, e1, e2, h1, h2⟩
    · obtain ⟨k, hk⟩ := List.getElem?_of_mem hs
      exact (hq k s hk).1
end
end Go.Proofs.YtcmlgiilifdnfaaDoor
