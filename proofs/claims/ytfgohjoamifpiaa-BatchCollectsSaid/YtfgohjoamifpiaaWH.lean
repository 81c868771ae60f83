/- A law's arguments, opened. -/
import Derived.Test.YtfgohjoamifpiaaWG
import Derived.ProofKit
import Derived.Deep.Slices
import Derived.Lib.SmallJoins
import Derived.SizedLaws
namespace Go.Proofs.Ytfgohjoamifpiaa
open Go.ChangeShapes Go.WideShapes Go.ChangeAt Go.RowKit Go.Deep Go.Joins

theorem Try.own : ownKnob Try.prog.godebug = none := by kernel_rfl
theorem Try.laidOut : laidOutB Try.prog = true := by kernel_rfl
theorem Try.cells39 : Try.prog.cellsOf 39 = 10 := by kernel_rfl
theorem Try.cells37 : Try.prog.cellsOf 37 = 7 := by kernel_rfl
theorem Try.cells79 : Try.prog.cellsOf 79 = 4 := by kernel_rfl
theorem Try.cells3 : Try.prog.cellsOf 3 = 1 := by kernel_rfl
theorem Try.cells9 : Try.prog.cellsOf 9 = 1 := by kernel_rfl
theorem Try.cells35 : Try.prog.cellsOf 35 = 1 := by kernel_rfl
theorem Try.cells77 : Try.prog.cellsOf 77 = 1 := by kernel_rfl

theorem build_list {α : Type} {Q : Nat → α → Prop} : ∀ n : Nat, (∀ i, i < n → ∃ x, Q i x) → ∃ l : List α, l.length = n ∧ ∀ i x, l[i]? = some x → Q i x
  | 0, _ => ⟨[], rfl, by simp⟩
  | n + 1, h => by
    obtain ⟨l, hl, hq⟩ := build_list n fun i hi => h i (by omega)
    obtain ⟨x, hx⟩ := h n (by omega)
    refine ⟨l ++ [x], by simp [hl], fun i y hy => ?_⟩
    rw [List.getElem?_append] at hy
    split at hy
    · exact hq i y hy
    · have : i - l.length = 0 := by
        rcases Nat.eq_zero_or_pos (i - l.length) with h0 | h0
        · exact h0
        · rw [List.getElem?_eq_none (by simp; omega)] at hy; cases hy
      rw [this] at hy
      simp at hy
      subst hy
      rw [show i = n from by omega]
      exact hx

section
variable {H : Type} {enc : TypeId × Value → H} {w : World} {spare : Nat → Bool} {held : Bool}

theorem cells_split {b : Addr} {n : Nat} {cs : List Value} (h : w.cells? 0 b n = some cs) : cs.length = n ∧ ∀ j, j < n → w.cell? (b.add j) = cs[j]? := by
  obtain ⟨_, h1, h2⟩ := World.cells?_some h
  exact ⟨h1, h2⟩

theorem reads_of {a : Addr} {n size : Nat} {xs : List Value} (hs : 0 < size) (hl : xs.length = n * size) (h : ∀ j u, xs[j]? = some u → w.cell? (a.add j) = some u) : Reads w w.heap.size size (some a) n xs := by
  refine ⟨hl, fun hn => ?_⟩
  have h0 : 0 < xs.length := by rw [hl]; exact Nat.mul_pos hn hs
  have hc := h 0 _ (List.getElem?_eq_getElem h0)
  rw [show a.add 0 = a from by simp [Addr.add]] at hc
  obtain ⟨b, o, s⟩ := a
  have hsp : s = none := World.cell?_spot hc
  subst hsp
  refine ⟨b, o, rfl, block_lt_of_cell hc, fun j u hu => ?_⟩
  have := h j u hu
  rwa [Addr.add_lit] at this

theorem field_of {fs : Array Field} {cs : List Value} {xs : List (DataW H × List MemPlace)} {n k : Nat} (hf : ∀ (i : Nat) (f : Field), fs[i]? = some f → DataW.trod enc Try.prog w 0 spare held n f.type ((cs.drop f.offset).take (Try.prog.cellsOf f.type)) = xs[i]?)
    (hl : xs.length = fs.size) (i : Nat) (f : Field) (hi : fs[i]? = some f) (hk : Try.prog.cellsOf f.type = k) : ∃ y, DataW.trod enc Try.prog w 0 spare held n f.type ((cs.drop f.offset).take k) = some y := by
  have h := hf i f hi
  have hlt : i < xs.length := by rw [hl]; exact (Array.getElem?_eq_some_iff.1 hi).1
  rw [hk, List.getElem?_eq_getElem hlt] at h
  exact ⟨_, h⟩
theorem int_field {t : TypeId} {n : Nat} {v : Value} {y : DataW H × List MemPlace} (ht : Try.prog.underlying t = some (.int .i64)) (h : DataW.trod enc Try.prog w 0 spare held n t [v] = some y) : ∃ k : Int, v = .int .i64 k := by
  obtain ⟨k, e, _, _⟩ := DataW.trod_int ht h
  injection e with e
  exact ⟨k, e⟩
theorem str_field {t : TypeId} {n : Nat} {v : Value} {y : DataW H × List MemPlace} (ht : Try.prog.underlying t = some .string) (h : DataW.trod enc Try.prog w 0 spare held n t [v] = some y) : ∃ k : ByteArray, v = .string k := by
  obtain ⟨k, e, _, _⟩ := DataW.trod_string ht h
  injection e with e
  exact ⟨k, e⟩
theorem open_bodies {fuel : Nat} {cs : List Value} {x : DataW H × List MemPlace} (h : DataW.trod enc Try.prog w 0 spare held fuel 35 cs = some x) :
    ∃ (A : Option Addr) (c : Nat) (l : List CellV), cs = [.slice A l.length c] ∧ Reads w w.heap.size 4 A l.length (l.flatMap CellV.cells) ∧ l.length ≤ maxLen := by
  rcases open_slice Try.underlying35 h with ⟨rfl, _⟩ | ⟨a, len, cap, m, n, D, Pl, rfl, _, hl, hm, hmm, _, hi⟩
  · exact ⟨none, 0, [], rfl, Reads.none_, Nat.zero_le _⟩
  · have hlm : len ≤ m := by rw [hmm]; split <;> omega
    obtain ⟨l, hll, hq⟩ := build_list (Q := fun i (x : CellV) => ∀ j u, x.cells[j]? = some u → w.cell? (a.add (i * 4 + j)) = some u) len fun i hil => by
      obtain ⟨cs', hc, ht⟩ := hi i (by omega)
      rw [Try.cells79] at hc
      obtain ⟨h4, hcell⟩ := cells_split hc
      match cs', h4 with
      | [c0, c1, c2, c3], _ =>
        obtain ⟨xs, n', _, _, _, hxl, hf⟩ := DataW.trod_struct Try.underlying79 ht
        obtain ⟨y0, g0⟩ := field_of hf hxl 0 _ rfl Try.cells77
        obtain ⟨y1, g1⟩ := field_of hf hxl 1 _ rfl Try.cells3
        obtain ⟨y2, g2⟩ := field_of hf hxl 2 _ rfl Try.cells9
        obtain ⟨y3, g3⟩ := field_of hf hxl 3 _ rfl Try.cells3
        obtain ⟨k0, rfl⟩ := int_field Try.underlying77 g0
        obtain ⟨k1, rfl⟩ := int_field Try.underlying3 g1
        obtain ⟨k2, rfl⟩ := str_field Try.underlying9 g2
        obtain ⟨k3, rfl⟩ := int_field Try.underlying3 g3
        refine ⟨⟨k0, k1, k2, k3⟩, fun j u hu => ?_⟩
        have hj : j < 4 := (List.getElem?_eq_some_iff.1 hu).1
        rw [← add_of_add, hcell j hj]
        exact hu
    refine ⟨some a, cap, l, by rw [hll], ?_, by omega⟩
    refine reads_of (by omega) (flat_length (k := 4) (fun _ => rfl) l) fun j u hu => ?_
    have hjl : j < l.length * 4 := by
      have := (List.getElem?_eq_some_iff.1 hu).1
      rwa [flat_length (k := 4) (fun _ => rfl) l] at this
    have hk : j / 4 < l.length := by omega
    have hx := List.getElem?_eq_getElem hk
    rw [show j = j / 4 * 4 + j % 4 from by omega] at hu ⊢
    rw [flat_get (k := 4) (fun _ => rfl) l (j / 4) (j % 4) _ hx (by omega)] at hu
    exact hq _ _ hx _ _ hu
/-- A record out of its ten cells. -/
theorem open_rec {fuel : Nat} {cs : List Value} {x : DataW H × List MemPlace} (h10 : cs.length = 10) (h : DataW.trod enc Try.prog w 0 spare held fuel 39 cs = some x) :
    ∃ r : RecX, cs = r.cells ∧ BodyAt w w.heap.size r ∧ r.r.body.length ≤ maxLen := by
  match cs, h10 with
  | [c0, c1, c2, c3, c4, c5, c6, c7, c8, c9], _ =>
    obtain ⟨xs, n', _, _, _, hxl, hf⟩ := DataW.trod_struct Try.underlying39 h
    obtain ⟨y0, g0⟩ := field_of hf hxl 0 _ rfl Try.cells3
    obtain ⟨y1, g1⟩ := field_of hf hxl 1 _ rfl Try.cells3
    obtain ⟨y2, g2⟩ := field_of hf hxl 2 _ rfl Try.cells3
    obtain ⟨y3, g3⟩ := field_of hf hxl 3 _ rfl Try.cells37
    obtain ⟨k0, rfl⟩ := int_field Try.underlying3 g0
    obtain ⟨k1, rfl⟩ := int_field Try.underlying3 g1
    obtain ⟨k2, rfl⟩ := int_field Try.underlying3 g2
    obtain ⟨zs, n2, _, _, _, hzl, hg⟩ := DataW.trod_struct Try.underlying37 g3
    obtain ⟨_, e0⟩ := field_of hg hzl 0 _ rfl Try.cells9
    obtain ⟨_, e1⟩ := field_of hg hzl 1 _ rfl Try.cells9
    obtain ⟨_, e2⟩ := field_of hg hzl 2 _ rfl Try.cells9
    obtain ⟨_, e3⟩ := field_of hg hzl 3 _ rfl Try.cells9
    obtain ⟨_, e4⟩ := field_of hg hzl 4 _ rfl Try.cells3
    obtain ⟨_, e5⟩ := field_of hg hzl 5 _ rfl Try.cells9
    obtain ⟨_, e6⟩ := field_of hg hzl 6 _ rfl Try.cells35
    obtain ⟨m0, rfl⟩ := str_field Try.underlying9 e0
    obtain ⟨m1, rfl⟩ := str_field Try.underlying9 e1
    obtain ⟨m2, rfl⟩ := str_field Try.underlying9 e2
    obtain ⟨m3, rfl⟩ := str_field Try.underlying9 e3
    obtain ⟨m4, rfl⟩ := int_field Try.underlying3 e4
    obtain ⟨m5, rfl⟩ := str_field Try.underlying9 e5
    obtain ⟨A, c, l, hcs, hr, hl⟩ := open_bodies e6
    have hc9 : c9 = .slice A l.length c := by simpa using hcs
    subst hc9
    exact ⟨⟨⟨k0, k1, k2, m0, m1, m2, m3, m4, m5, l⟩, A, c⟩, rfl, hr, hl⟩

theorem open_recs {v : Value} {d : DataW H} {p : List MemPlace} (hv : ∃ a n c, v = .slice a n c) (h : DataW.Trod enc Try.prog w 0 spare held 24 v d p) :
    ∃ (A : Option Addr) (c : Nat) (l : List RecX), v = .slice A l.length c ∧ RecsAt w w.heap.size A l ∧ (∀ x ∈ l, x.r.body.length ≤ maxLen) ∧ l.length ≤ maxLen := by
  obtain ⟨a0, n0, c0, rfl⟩ := hv
  obtain ⟨fuel, hf⟩ := h
  rcases open_slice Try.underlying24 hf with ⟨hcs, _⟩ | ⟨a, len, cap, m, n, D, Pl, hcs, _, hl, hm, hmm, _, hi⟩
  · simp [Value.cells] at hcs
    obtain ⟨rfl, rfl, rfl⟩ := hcs
    exact ⟨none, 0, [], rfl, ⟨Reads.none_, by simp⟩, by simp, Nat.zero_le _⟩
  · simp [Value.cells] at hcs
    obtain ⟨rfl, rfl, rfl⟩ := hcs
    have hlm : n0 ≤ m := by rw [hmm]; split <;> omega
    obtain ⟨l, hll, hq⟩ := build_list (Q := fun i (x : RecX) => (∀ j u, x.cells[j]? = some u → w.cell? (a.add (i * 10 + j)) = some u) ∧ BodyAt w w.heap.size x ∧ x.r.body.length ≤ maxLen) n0 fun i hil => by
      obtain ⟨cs', hc, ht⟩ := hi i (by omega)
      rw [Try.cells39] at hc
      obtain ⟨h4, hcell⟩ := cells_split hc
      obtain ⟨x, rfl, hb, hbl⟩ := open_rec h4 ht
      refine ⟨x, fun j u hu => ?_, hb, hbl⟩
      have hj : j < 10 := (List.getElem?_eq_some_iff.1 hu).1
      rw [← add_of_add, hcell j hj]
      exact hu
    have hmem : ∀ x ∈ l, BodyAt w w.heap.size x ∧ x.r.body.length ≤ maxLen := fun x hx => by
      obtain ⟨i, hi', he⟩ := List.mem_iff_getElem.1 hx
      have := hq i x (by rw [List.getElem?_eq_getElem hi', he])
      exact this.2
    refine ⟨some a, c0, l, by rw [hll], ⟨reads_of (by omega) (flat_length RecX.cells_length l) fun j u hu => ?_, fun x hx => (hmem x hx).1⟩, fun x hx => (hmem x hx).2, by omega⟩
    have hjl : j < l.length * 10 := by
      have := (List.getElem?_eq_some_iff.1 hu).1
      rwa [flat_length RecX.cells_length l] at this
    have hk : j / 10 < l.length := by omega
    have hx := List.getElem?_eq_getElem hk
    rw [show j = j / 10 * 10 + j % 10 from by omega] at hu ⊢
    rw [flat_get RecX.cells_length l (j / 10) (j % 10) _ hx (by omega)] at hu
    exact (hq _ _ hx).1 _ _ hu
theorem open_pol {r : Reach} {b0 : Nat} {v : Value} {d : DataW H} {p : List MemPlace} (hv : Value.okWide Try.prog w r b0 23 v) (h : DataW.Trod enc Try.prog w 0 spare held 23 v d p) : ∃ s c n : Int, v = .agg #[.int .i64 s, .int .i64 c, .int .i64 n] := by
  obtain ⟨v0, v1, v2, y0, y1, y2, n, rfl, _, _, h0, h1, h2⟩ := open_agg3 Try.underlying23 (by kernel_rfl) (by kernel_rfl) hv h
  obtain ⟨k0, rfl⟩ := int_field Try.underlying3 h0
  obtain ⟨k1, rfl⟩ := int_field Try.underlying3 h1
  obtain ⟨k2, rfl⟩ := int_field Try.underlying3 h2
  exact ⟨k0, k1, k2, rfl⟩
/-- Behind a call that turns nothing old the arguments read as they did. -/
theorem below_trodAll {W W' : World} (hb : Below W.heap.size W W') : ∀ (ts : List TypeId) (vs : List Value) (ds : List (DataW H)) (p : List MemPlace), (∀ t ∈ ts, Try.prog.readableRec t = true ∧ t < Try.prog.types.size) → (∀ x ∈ p, x.block < W.heap.size) →
    DataW.TrodAll enc Try.prog W 0 (fun _ => true) true ts vs ds p → DataW.TrodAll enc Try.prog W' 0 (fun b => decide (b < W.heap.size)) true ts vs ds p
  | [], [], [], _, _, _, h => h
  | t :: ts, v :: vs, d :: ds, ps, ht, hlt, h => by
    obtain ⟨p, q, h1, h2, rfl⟩ := h
    exact ⟨p, q, Below.trod Try.laidOut (ht t (by simp)).1 (ht t (by simp)).2 h1 hb (fun x hx => hlt x (by simp [hx])), below_trodAll hb ts vs ds q (fun t' h' => ht t' (by simp [h'])) (fun x hx => hlt x (by simp [hx])) h2, rfl⟩
end
end Go.Proofs.Ytfgohjoamifpiaa
