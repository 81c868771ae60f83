/- A list of rules, opened. -/
import Derived.Test.YtpkekfhnpcjgkaaDoorN2
namespace Go.Proofs.YtpkekfhnpcjgkaaDoor
open Go.ChangeShapes Go.WideShapes Go.ChangeAt Go.RowKit Go.Deep Go.Joins
open Nw

theorem build_list {α : Type} {Q : Nat → α → Prop} : ∀ n : Nat, (∀ i, i < n → ∃ x, Q i x) → ∃ l : List α, l.length = n ∧ ∀ i x, l[i]? = some x → Q i x
  | 0, _ => ⟨[], rfl, by simp⟩
  | n + 1, h => by
    obtain ⟨l, hl, hq⟩ := build_list n fun i hi => h i (by omega)
    obtain ⟨x, hx⟩ := h n (by omega)
    refine ⟨l ++ [x], by simp [hl], fun i y hy => ?_⟩
    rw [List.getElem?_append] at hy
    split at hy
    · exact hq i y hy
    · have : i - l.length = 0 := by
        rcases Nat.eq_zero_or_pos (i - l.length) with h0 | h0
        · exact h0
        · rw [List.getElem?_eq_none (by simp; omega)] at hy; cases hy
      rw [this] at hy
      simp at hy
      subst hy
      rw [show i = n from by omega]
      exact hx

section
variable {H : Type} {enc : TypeId × Value → H} {w : World} {spare : Nat → Bool} {held : Bool}
theorem cells_split {b : Addr} {n : Nat} {cs : List Value} (h : w.cells? 0 b n = some cs) : cs.length = n ∧ ∀ j, j < n → w.cell? (b.add j) = cs[j]? := by
  obtain ⟨_, h1, h2⟩ := World.cells?_some h
  exact ⟨h1, h2⟩

theorem reads_of {a : Addr} {n size : Nat} {xs : List Value} (hs : 0 < size) (hl : xs.length = n * size) (h : ∀ j u, xs[j]? = some u → w.cell? (a.add j) = some u) : Reads w w.heap.size size (some a) n xs := by
  refine ⟨hl, fun hn => ?_⟩
  have h0 : 0 < xs.length := by rw [hl]; exact Nat.mul_pos hn hs
  have hc := h 0 _ (List.getElem?_eq_getElem h0)
  rw [show a.add 0 = a from by simp [Addr.add]] at hc
  obtain ⟨b, o, s⟩ := a
  have hsp : s = none := World.cell?_spot hc
  subst hsp
  refine ⟨b, o, rfl, block_lt_of_cell hc, fun j u hu => ?_⟩
  have := h j u hu
  rwa [Addr.add_lit] at this

theorem field_of {fs : Array Field} {cs : List Value} {xs : List (DataW H × List MemPlace)} {n k : Nat} (hf : ∀ (i : Nat) (f : Field), fs[i]? = some f → DataW.trod enc Tryd.prog w 0 spare held n f.type ((cs.drop f.offset).take (Tryd.prog.cellsOf f.type)) = xs[i]?)
    (hl : xs.length = fs.size) (i : Nat) (f : Field) (hi : fs[i]? = some f) (hk : Tryd.prog.cellsOf f.type = k) : ∃ y, DataW.trod enc Tryd.prog w 0 spare held n f.type ((cs.drop f.offset).take k) = some y := by
  have h := hf i f hi
  have hlt : i < xs.length := by rw [hl]; exact (Array.getElem?_eq_some_iff.1 hi).1
  rw [hk, List.getElem?_eq_getElem hlt] at h
  exact ⟨_, h⟩
theorem int_field {t : TypeId} {n : Nat} {v : Value} {y : DataW H × List MemPlace} (ht : Tryd.prog.underlying t = some (.int .i64)) (h : DataW.trod enc Tryd.prog w 0 spare held n t [v] = some y) : ∃ k : Int, v = .int .i64 k := by
  obtain ⟨k, e, _, _⟩ := DataW.trod_int ht h
  injection e with e
  exact ⟨k, e⟩
theorem bool_field {t : TypeId} {n : Nat} {v : Value} {y : DataW H × List MemPlace} (ht : Tryd.prog.underlying t = some .bool) (h : DataW.trod enc Tryd.prog w 0 spare held n t [v] = some y) : ∃ k : Bool, v = .bool k := by
  obtain ⟨k, e, _⟩ := DataW.trod_bool ht h
  injection e with e
  exact ⟨k, e⟩
theorem cellsN : Tryd.prog.cellsOf 42 = 5 := by kernel_rfl
theorem cellsI : Tryd.prog.cellsOf 3 = 1 := by kernel_rfl
theorem cellsB : Tryd.prog.cellsOf 4 = 1 := by kernel_rfl
set_option maxRecDepth 100000 in
theorem open_rules {v : Value} {d : DataW H} {p : List MemPlace} (hv : ∃ a n c, v = .slice a n c) (h : DataW.Trod enc Tryd.prog w 0 spare held 51 v d p) :
    ∃ (A : Option Addr) (c : Nat) (l : List Rule), v = .slice A l.length c ∧ RulesAt w w.heap.size A l ∧ l.length ≤ c ∧ l.length ≤ maxLen := by
  obtain ⟨a0, n0, c0, rfl⟩ := hv
  obtain ⟨fuel, hf⟩ := h
  rcases open_slice Tryd.underlying51 hf with ⟨e, _⟩ | ⟨a, len, cap, m, n, D, Pl, e, _, hl, hm, hmm, _, hi⟩
  · have e : Value.slice a0 n0 c0 = .slice none 0 0 := by simpa [Value.cells] using e
    rw [e]
    exact ⟨none, 0, [], rfl, Reads.none_, Nat.zero_le _, Nat.zero_le _⟩
  · have e : Value.slice a0 n0 c0 = .slice (some a) len cap := by simpa [Value.cells] using e
    rw [e]
    have hlm : len ≤ m := by rw [hmm]; split <;> omega
    obtain ⟨l, hll, hq⟩ := build_list (Q := fun i (x : Rule) => ∀ j u, (rcells x)[j]? = some u → w.cell? (a.add (i * 5 + j)) = some u) len fun i hil => by
      obtain ⟨cs', hc, ht⟩ := hi i (by omega)
      rw [cellsN] at hc
      obtain ⟨h4, hcell⟩ := cells_split hc
      match cs', h4 with
      | [c0, c1, c2, c3, c4], _ =>
        obtain ⟨xs, n', _, _, _, hxl, hf⟩ := DataW.trod_struct Tryd.underlying42 ht
        obtain ⟨y0, g0⟩ := field_of hf hxl 0 _ rfl cellsB
        obtain ⟨y1, g1⟩ := field_of hf hxl 1 _ rfl cellsI
        obtain ⟨y2, g2⟩ := field_of hf hxl 2 _ rfl cellsI
        obtain ⟨y3, g3⟩ := field_of hf hxl 3 _ rfl cellsI
        obtain ⟨y4, g4⟩ := field_of hf hxl 4 _ rfl cellsI
        obtain ⟨k0, rfl⟩ := bool_field Tryd.underlying4 g0
        obtain ⟨k1, rfl⟩ := int_field Tryd.underlying3 g1
        obtain ⟨k2, rfl⟩ := int_field Tryd.underlying3 g2
        obtain ⟨k3, rfl⟩ := int_field Tryd.underlying3 g3
        obtain ⟨k4, rfl⟩ := int_field Tryd.underlying3 g4
        refine ⟨⟨k0, k1, k2, k3, k4⟩, fun j u hu => ?_⟩
        have hj : j < 5 := (List.getElem?_eq_some_iff.1 hu).1
        rw [← add_of_add, hcell j hj]
        exact hu
    refine ⟨some a, cap, l, by rw [hll], ?_, by omega, by omega⟩
    refine reads_of (by omega) (flat_length (k := 5) (fun _ => rfl) l) fun j u hu => ?_
    have hjl : j < l.length * 5 := by
      have := (List.getElem?_eq_some_iff.1 hu).1
      rwa [flat_length (k := 5) (fun _ => rfl) l] at this
    have hk : j / 5 < l.length := by omega
    have hx := List.getElem?_eq_getElem hk
    rw [show j = j / 5 * 5 + j % 5 from by omega] at hu ⊢
    rw [flat_get (k := 5) (fun _ => rfl) l (j / 5) (j % 5) _ hx (by omega)] at hu
    exact hq _ _ hx _ _ hu
end
end Go.Proofs.YtpkekfhnpcjgkaaDoor
