/- A law's arguments, opened; what their bulk gives. -/
import Derived.Test.YtojghgeemdpmpaaBWJ
import Derived.ProofKit
import Derived.Deep.Slices
import Derived.Lib.SmallJoins
import Derived.SizedLaws
namespace Go.Proofs.Ytojghgeemdpmpaa
open Go.ChangeShapes Go.WideShapes Go.ChangeAt Go.RowKit Go.Deep Go.Joins

theorem seatOwn : ownKnob Try.prog.godebug = none := by kernel_rfl
theorem seatLaidOut : laidOutB Try.prog = true := by kernel_rfl
theorem cells_39 : Try.prog.cellsOf 54 = 10 := by kernel_rfl
theorem cells_37 : Try.prog.cellsOf 52 = 7 := by kernel_rfl
theorem cells_79 : Try.prog.cellsOf 74 = 4 := by kernel_rfl
theorem cells_3 : Try.prog.cellsOf 3 = 1 := by kernel_rfl
theorem cells_9 : Try.prog.cellsOf 9 = 1 := by kernel_rfl
theorem cells_35 : Try.prog.cellsOf 50 = 1 := by kernel_rfl
theorem cells_77 : Try.prog.cellsOf 72 = 1 := by kernel_rfl

theorem bytes_79 : Try.prog.bytesOf 74 = 40 := by kernel_rfl
theorem bytes_39 : Try.prog.bytesOf 54 = 136 := by kernel_rfl
/-- What the form bears: each slice and string of the reading, by its bytes. -/
def Sz {H : Type} (d : DataW H) (t : TypeId) : Prop := ∀ n ∈ d.weights Try.prog t, n ≤ reachBytes
theorem Sz.all {H : Type} {e : TypeId} {d : DataW H} : ∀ {l : List (DataW H)}, (∀ n ∈ DataW.weightsAll Try.prog e l, n ≤ reachBytes) → d ∈ l → Sz d e
  | [], _, h => by cases h
  | x :: l, hz, h => by
    simp only [DataW.weightsAll, List.mem_append] at hz
    cases List.mem_cons.1 h with
    | inl he => subst he; exact fun n hn => hz n (.inl hn)
    | inr he => exact Sz.all (fun n hn => hz n (.inr hn)) he
theorem Sz.field {H : Type} {xs : List (DataW H × List MemPlace)} {T e : TypeId} {fs : Array Field} (hu : Try.prog.underlying T = some (.struct fs)) {i : Nat} {f : Field} {y : DataW H × List MemPlace} (hi : fs[i]? = some f) (ht : f.type = e) (hy : xs[i]? = some y)
    (h : Sz (DataW.agg (xs.map (·.1))) T) : Sz y.1 e := fun n hn => h n (by
  simp only [DataW.weights, hu]
  refine DataW.weights_mem_each (j := i) (t := e) (d := y.1) ?_ ?_ n hn
  · rw [List.getElem?_map, Array.getElem?_toList, hi, Option.map_some, ht]
  · rw [List.getElem?_map, hy, Option.map_some])
theorem build_list {α : Type} {Q : Nat → α → Prop} : ∀ n : Nat, (∀ i, i < n → ∃ x, Q i x) → ∃ l : List α, l.length = n ∧ ∀ i x, l[i]? = some x → Q i x
  | 0, _ => ⟨[], rfl, by simp⟩
  | n + 1, h => by
    obtain ⟨l, hl, hq⟩ := build_list n fun i hi => h i (by omega)
    obtain ⟨x, hx⟩ := h n (by omega)
    refine ⟨l ++ [x], by simp [hl], fun i y hy => ?_⟩
    rw [List.getElem?_append] at hy
    split at hy
    · exact hq i y hy
    · have : i - l.length = 0 := by
        rcases Nat.eq_zero_or_pos (i - l.length) with h0 | h0
        · exact h0
        · rw [List.getElem?_eq_none (by simp; omega)] at hy; cases hy
      rw [this] at hy
      simp at hy
      subst hy
      rw [show i = n from by omega]
      exact hx

section
variable {H : Type} {enc : TypeId × Value → H} {w : World} {spare : Nat → Bool} {held : Bool}

theorem cells_split {b : Addr} {n : Nat} {cs : List Value} (h : w.cells? 0 b n = some cs) : cs.length = n ∧ ∀ j, j < n → w.cell? (b.add j) = cs[j]? := by
  obtain ⟨_, h1, h2⟩ := World.cells?_some h
  exact ⟨h1, h2⟩

theorem reads_of {a : Addr} {n size : Nat} {xs : List Value} (hs : 0 < size) (hl : xs.length = n * size) (h : ∀ j u, xs[j]? = some u → w.cell? (a.add j) = some u) : Reads w w.heap.size size (some a) n xs := by
  refine ⟨hl, fun hn => ?_⟩
  have h0 : 0 < xs.length := by rw [hl]; exact Nat.mul_pos hn hs
  have hc := h 0 _ (List.getElem?_eq_getElem h0)
  rw [show a.add 0 = a from by simp [Addr.add]] at hc
  obtain ⟨b, o, s⟩ := a
  have hsp : s = none := World.cell?_spot hc
  subst hsp
  refine ⟨b, o, rfl, block_lt_of_cell hc, fun j u hu => ?_⟩
  have := h j u hu
  rwa [Addr.add_lit] at this

theorem field_of {fs : Array Field} {cs : List Value} {xs : List (DataW H × List MemPlace)} {n k : Nat} (hf : ∀ (i : Nat) (f : Field), fs[i]? = some f → DataW.trod enc Try.prog w 0 spare held n f.type ((cs.drop f.offset).take (Try.prog.cellsOf f.type)) = xs[i]?)
    (hl : xs.length = fs.size) (i : Nat) (f : Field) (hi : fs[i]? = some f) (hk : Try.prog.cellsOf f.type = k) : ∃ y, DataW.trod enc Try.prog w 0 spare held n f.type ((cs.drop f.offset).take k) = some y := by
  have h := hf i f hi
  have hlt : i < xs.length := by rw [hl]; exact (Array.getElem?_eq_some_iff.1 hi).1
  rw [hk, List.getElem?_eq_getElem hlt] at h
  exact ⟨_, h⟩
theorem field_at {fs : Array Field} {cs : List Value} {xs : List (DataW H × List MemPlace)} {n k : Nat} (hf : ∀ (i : Nat) (f : Field), fs[i]? = some f → DataW.trod enc Try.prog w 0 spare held n f.type ((cs.drop f.offset).take (Try.prog.cellsOf f.type)) = xs[i]?)
    (hl : xs.length = fs.size) (i : Nat) (f : Field) (hi : fs[i]? = some f) (hk : Try.prog.cellsOf f.type = k) : ∃ y, xs[i]? = some y ∧ DataW.trod enc Try.prog w 0 spare held n f.type ((cs.drop f.offset).take k) = some y := by
  have h := hf i f hi
  have hlt : i < xs.length := by rw [hl]; exact (Array.getElem?_eq_some_iff.1 hi).1
  rw [hk, List.getElem?_eq_getElem hlt] at h
  exact ⟨_, List.getElem?_eq_getElem hlt, h⟩
theorem int_field {t : TypeId} {n : Nat} {v : Value} {y : DataW H × List MemPlace} (ht : Try.prog.underlying t = some (.int .i64)) (h : DataW.trod enc Try.prog w 0 spare held n t [v] = some y) : ∃ k : Int, v = .int .i64 k := by
  obtain ⟨k, e, _, _⟩ := DataW.trod_int ht h
  injection e with e
  exact ⟨k, e⟩
theorem str_field {t : TypeId} {n : Nat} {v : Value} {y : DataW H × List MemPlace} (ht : Try.prog.underlying t = some .string) (h : DataW.trod enc Try.prog w 0 spare held n t [v] = some y) : ∃ k : ByteArray, v = .string k := by
  obtain ⟨k, e, _, _⟩ := DataW.trod_string ht h
  injection e with e
  exact ⟨k, e⟩
theorem open_bodies {fuel : Nat} {cs : List Value} {x : DataW H × List MemPlace} (h : DataW.trod enc Try.prog w 0 spare held fuel 50 cs = some x) :
    ∃ (A : Option Addr) (c : Nat) (l : List CellV), cs = [.slice A l.length c] ∧ Reads w w.heap.size 4 A l.length (l.flatMap CellV.cells) ∧ l.length ≤ maxLen ∧ (Sz x.1 50 → l.length ≤ 3518437208780) := by
  rcases open_slice Try.underlying50 h with ⟨rfl, rfl⟩ | ⟨a, len, cap, m, n, D, Pl, rfl, _, hl, hm, hmm, rfl, hi⟩
  · exact ⟨none, 0, [], rfl, Reads.none_, Nat.zero_le _, fun _ => Nat.zero_le _⟩
  · have hlm : len ≤ m := by rw [hmm]; split <;> omega
    obtain ⟨l, hll, hq⟩ := build_list (Q := fun i (x : CellV) => (∀ j u, x.cells[j]? = some u → w.cell? (a.add (i * 4 + j)) = some u)) len fun i hil => by
      obtain ⟨cs', hc, ht⟩ := hi i (by omega)
      rw [cells_79] at hc
      obtain ⟨h4, hcell⟩ := cells_split hc
      match cs', h4 with
      | [c0, c1, c2, c3], _ =>
        obtain ⟨xs, n', _, _, _, hxl, hf⟩ := DataW.trod_struct Try.underlying74 ht
        obtain ⟨y0, g0⟩ := field_of hf hxl 0 _ rfl cells_77
        obtain ⟨y1, g1⟩ := field_of hf hxl 1 _ rfl cells_3
        obtain ⟨y2, g2⟩ := field_of hf hxl 2 _ rfl cells_9
        obtain ⟨y3, g3⟩ := field_of hf hxl 3 _ rfl cells_3
        obtain ⟨k0, rfl⟩ := int_field Try.underlying72 g0
        obtain ⟨k1, rfl⟩ := int_field Try.underlying3 g1
        obtain ⟨k2, rfl⟩ := str_field Try.underlying9 g2
        obtain ⟨k3, rfl⟩ := int_field Try.underlying3 g3
        refine ⟨⟨k0, k1, k2, k3⟩, fun j u hu => ?_⟩
        have hj : j < 4 := (List.getElem?_eq_some_iff.1 hu).1
        rw [← add_of_add, hcell j hj]
        exact hu
    refine ⟨some a, cap, l, by rw [hll], ?_, by omega, ?_⟩
    rotate_left
    · intro hz
      unfold Sz at hz
      simp only [DataW.weights, Try.underlying50] at hz
      have h1 := hz _ (List.mem_cons_self ..)
      simp only [List.length_map, List.length_range, bytes_79, reachBytes] at h1
      omega
    refine reads_of (by omega) (flat_length (k := 4) (fun _ => rfl) l) fun j u hu => ?_
    have hjl : j < l.length * 4 := by
      have := (List.getElem?_eq_some_iff.1 hu).1
      rwa [flat_length (k := 4) (fun _ => rfl) l] at this
    have hk : j / 4 < l.length := by omega
    have hx := List.getElem?_eq_getElem hk
    rw [show j = j / 4 * 4 + j % 4 from by omega] at hu ⊢
    rw [flat_get (k := 4) (fun _ => rfl) l (j / 4) (j % 4) _ hx (by omega)] at hu
    exact hq _ _ hx _ _ hu
/-- A record out of its ten cells. -/
theorem open_rec {fuel : Nat} {cs : List Value} {x : DataW H × List MemPlace} (h10 : cs.length = 10) (h : DataW.trod enc Try.prog w 0 spare held fuel 54 cs = some x) :
    ∃ r : RecX, cs = r.cells ∧ BodyAt w w.heap.size r ∧ r.r.body.length ≤ maxLen ∧ (Sz x.1 54 → r.r.body.length ≤ 3518437208780) := by
  match cs, h10 with
  | [c0, c1, c2, c3, c4, c5, c6, c7, c8, c9], _ =>
    obtain ⟨xs, n', _, rfl, _, hxl, hf⟩ := DataW.trod_struct Try.underlying54 h
    obtain ⟨y0, g0⟩ := field_of hf hxl 0 _ rfl cells_3
    obtain ⟨y1, g1⟩ := field_of hf hxl 1 _ rfl cells_3
    obtain ⟨y2, g2⟩ := field_of hf hxl 2 _ rfl cells_3
    obtain ⟨y3, gx, g3⟩ := field_at hf hxl 3 _ rfl cells_37
    obtain ⟨k0, rfl⟩ := int_field Try.underlying3 g0
    obtain ⟨k1, rfl⟩ := int_field Try.underlying3 g1
    obtain ⟨k2, rfl⟩ := int_field Try.underlying3 g2
    obtain ⟨zs, n2, _, rfl, _, hzl, hg⟩ := DataW.trod_struct Try.underlying52 g3
    obtain ⟨_, e0⟩ := field_of hg hzl 0 _ rfl cells_9
    obtain ⟨_, e1⟩ := field_of hg hzl 1 _ rfl cells_9
    obtain ⟨_, e2⟩ := field_of hg hzl 2 _ rfl cells_9
    obtain ⟨_, e3⟩ := field_of hg hzl 3 _ rfl cells_9
    obtain ⟨_, e4⟩ := field_of hg hzl 4 _ rfl cells_3
    obtain ⟨_, e5⟩ := field_of hg hzl 5 _ rfl cells_9
    obtain ⟨z6, ex, e6⟩ := field_at hg hzl 6 _ rfl cells_35
    obtain ⟨m0, rfl⟩ := str_field Try.underlying9 e0
    obtain ⟨m1, rfl⟩ := str_field Try.underlying9 e1
    obtain ⟨m2, rfl⟩ := str_field Try.underlying9 e2
    obtain ⟨m3, rfl⟩ := str_field Try.underlying9 e3
    obtain ⟨m4, rfl⟩ := int_field Try.underlying3 e4
    obtain ⟨m5, rfl⟩ := str_field Try.underlying9 e5
    obtain ⟨A, c, l, hcs, hr, hl, hk⟩ := open_bodies e6
    have hc9 : c9 = .slice A l.length c := by simpa using hcs
    subst hc9
    exact ⟨⟨⟨k0, k1, k2, m0, m1, m2, m3, m4, m5, l⟩, A, c⟩, rfl, hr, hl, fun hz => hk (Sz.field Try.underlying52 (i := 6) rfl rfl ex (Sz.field Try.underlying54 (i := 3) rfl rfl gx hz))⟩

theorem open_recs {v : Value} {fuel : Nat} {x : DataW H × List MemPlace} (hf : DataW.trod enc Try.prog w 0 spare held fuel 28 [v] = some x) :
    ∃ (A : Option Addr) (c : Nat) (l : List RecX), v = .slice A l.length c ∧ RecsAt w w.heap.size A l ∧ (∀ x ∈ l, x.r.body.length ≤ maxLen) ∧ l.length ≤ maxLen ∧ (Sz x.1 28 → okB l ∧ l.length ≤ 1034834473170) := by
  rcases open_slice Try.underlying28 hf with ⟨hcs, rfl⟩ | ⟨a, n0, c0, m, n, D, Pl, hcs, _, hl, hm, hmm, rfl, hi⟩
  · injection hcs with hcs
    subst hcs
    exact ⟨none, 0, [], rfl, ⟨Reads.none_, by simp⟩, by simp, Nat.zero_le _, fun _ => ⟨by simp [okB], Nat.zero_le _⟩⟩
  · injection hcs with hcs
    subst hcs
    have hlm : n0 ≤ m := by rw [hmm]; split <;> omega
    obtain ⟨l, hll, hq⟩ := build_list (Q := fun i (x : RecX) => (∀ j u, x.cells[j]? = some u → w.cell? (a.add (i * 10 + j)) = some u) ∧ BodyAt w w.heap.size x ∧ x.r.body.length ≤ maxLen ∧ (Sz (D i) 54 → x.r.body.length ≤ 3518437208780)) n0 fun i hil => by
      obtain ⟨cs', hc, ht⟩ := hi i (by omega)
      rw [cells_39] at hc
      obtain ⟨h4, hcell⟩ := cells_split hc
      obtain ⟨x, rfl, hb, hbl, hbk⟩ := open_rec h4 ht
      refine ⟨x, fun j u hu => ?_, hb, hbl, hbk⟩
      have hj : j < 10 := (List.getElem?_eq_some_iff.1 hu).1
      rw [← add_of_add, hcell j hj]
      exact hu
    have hmem : ∀ x ∈ l, BodyAt w w.heap.size x ∧ x.r.body.length ≤ maxLen := fun x hx => by
      obtain ⟨i, hi', he⟩ := List.mem_iff_getElem.1 hx
      have := hq i x (by rw [List.getElem?_eq_getElem hi', he])
      exact ⟨this.2.1, this.2.2.1⟩
    have hbulk : Sz (DataW.slice ((List.range n0).map D) ((List.range (m - n0)).map fun j => D (n0 + j))) 28 → okB l ∧ l.length ≤ 1034834473170 := by
      intro hz
      unfold Sz at hz
      simp only [DataW.weights, Try.underlying28] at hz
      have h1 := hz _ (List.mem_cons_self ..)
      simp only [List.length_map, List.length_range, bytes_39, reachBytes] at h1
      refine ⟨fun x hx => ?_, by omega⟩
      obtain ⟨i, hi', he⟩ := List.mem_iff_getElem.1 hx
      refine (hq i x (by rw [List.getElem?_eq_getElem hi', he])).2.2.2 (Sz.all (l := (List.range n0).map D) (fun n hn => hz n ?_) (List.mem_map.2 ⟨i, List.mem_range.2 (by omega), rfl⟩))
      exact List.mem_cons_of_mem _ (List.mem_append_left _ hn)
    refine ⟨some a, c0, l, by rw [hll], ⟨reads_of (by omega) (flat_length RecX.cells_length l) fun j u hu => ?_, fun x hx => (hmem x hx).1⟩, fun x hx => (hmem x hx).2, by omega, hbulk⟩
    have hjl : j < l.length * 10 := by
      have := (List.getElem?_eq_some_iff.1 hu).1
      rwa [flat_length RecX.cells_length l] at this
    have hk : j / 10 < l.length := by omega
    have hx := List.getElem?_eq_getElem hk
    rw [show j = j / 10 * 10 + j % 10 from by omega] at hu ⊢
    rw [flat_get RecX.cells_length l (j / 10) (j % 10) _ hx (by omega)] at hu
    exact (hq _ _ hx).1 _ _ hu
/-- Behind a call that turns nothing old the arguments read as they did. -/
theorem below_trodAll {W W' : World} (hb : Below W.heap.size W W') : ∀ (ts : List TypeId) (vs : List Value) (ds : List (DataW H)) (p : List MemPlace), (∀ t ∈ ts, Try.prog.readableRec t = true ∧ t < Try.prog.types.size) → (∀ x ∈ p, x.block < W.heap.size) →
    DataW.TrodAll enc Try.prog W 0 (fun _ => true) true ts vs ds p → DataW.TrodAll enc Try.prog W' 0 (fun b => decide (b < W.heap.size)) true ts vs ds p
  | [], [], [], _, _, _, h => h
  | t :: ts, v :: vs, d :: ds, ps, ht, hlt, h => by
    obtain ⟨p, q, h1, h2, rfl⟩ := h
    exact ⟨p, q, Below.trod seatLaidOut (ht t (by simp)).1 (ht t (by simp)).2 h1 hb (fun x hx => hlt x (by simp [hx])), below_trodAll hb ts vs ds q (fun t' h' => ht t' (by simp [h'])) (fun x hx => hlt x (by simp [hx])) h2, rfl⟩
end
theorem cells_C : Try.prog.cellsOf 30 = 18 := by kernel_rfl
theorem cells_S : Try.prog.cellsOf 23 = 7 := by kernel_rfl
theorem cells_P : Try.prog.cellsOf 25 = 3 := by kernel_rfl
theorem cells_R : Try.prog.cellsOf 27 = 5 := by kernel_rfl
theorem cells_L : Try.prog.cellsOf 28 = 1 := by kernel_rfl
section
variable {H : Type} {enc : TypeId × Value → H} {w : World} {spare : Nat → Bool} {held : Bool}
theorem open_S {fuel : Nat} {c0 c1 c2 c3 c4 c5 c6 : Value} {x : DataW H × List MemPlace} (h : DataW.trod enc Try.prog w 0 spare held fuel 23 [c0, c1, c2, c3, c4, c5, c6] = some x) :
    ∃ k0 k1 k2 k3 k4 k5 k6 : Int, c0 = .int .i64 k0 ∧ c1 = .int .i64 k1 ∧ c2 = .int .i64 k2 ∧ c3 = .int .i64 k3 ∧ c4 = .int .i64 k4 ∧ c5 = .int .i64 k5 ∧ c6 = .int .i64 k6 := by
  obtain ⟨xs, n', _, rfl, _, hxl, hf⟩ := DataW.trod_struct Try.underlying23 h
  obtain ⟨y0, g0⟩ := field_of hf hxl 0 _ rfl cells_3
  obtain ⟨y1, g1⟩ := field_of hf hxl 1 _ rfl cells_3
  obtain ⟨y2, g2⟩ := field_of hf hxl 2 _ rfl cells_3
  obtain ⟨y3, g3⟩ := field_of hf hxl 3 _ rfl cells_3
  obtain ⟨y4, g4⟩ := field_of hf hxl 4 _ rfl cells_3
  obtain ⟨y5, g5⟩ := field_of hf hxl 5 _ rfl cells_3
  obtain ⟨y6, g6⟩ := field_of hf hxl 6 _ rfl cells_3
  obtain ⟨k0, rfl⟩ := int_field Try.underlying3 g0
  obtain ⟨k1, rfl⟩ := int_field Try.underlying3 g1
  obtain ⟨k2, rfl⟩ := int_field Try.underlying3 g2
  obtain ⟨k3, rfl⟩ := int_field Try.underlying3 g3
  obtain ⟨k4, rfl⟩ := int_field Try.underlying3 g4
  obtain ⟨k5, rfl⟩ := int_field Try.underlying3 g5
  obtain ⟨k6, rfl⟩ := int_field Try.underlying3 g6
  exact ⟨_, _, _, _, _, _, _, rfl, rfl, rfl, rfl, rfl, rfl, rfl⟩
theorem open_P {fuel : Nat} {c0 c1 c2 : Value} {x : DataW H × List MemPlace} (h : DataW.trod enc Try.prog w 0 spare held fuel 25 [c0, c1, c2] = some x) :
    ∃ k0 k1 k2 : Int, c0 = .int .i64 k0 ∧ c1 = .int .i64 k1 ∧ c2 = .int .i64 k2 := by
  obtain ⟨xs, n', _, rfl, _, hxl, hf⟩ := DataW.trod_struct Try.underlying25 h
  obtain ⟨y0, g0⟩ := field_of hf hxl 0 _ rfl cells_3
  obtain ⟨y1, g1⟩ := field_of hf hxl 1 _ rfl cells_3
  obtain ⟨y2, g2⟩ := field_of hf hxl 2 _ rfl cells_3
  obtain ⟨k0, rfl⟩ := int_field Try.underlying3 g0
  obtain ⟨k1, rfl⟩ := int_field Try.underlying3 g1
  obtain ⟨k2, rfl⟩ := int_field Try.underlying3 g2
  exact ⟨_, _, _, rfl, rfl, rfl⟩
theorem open_R {fuel : Nat} {c0 c1 c2 c3 c4 : Value} {x : DataW H × List MemPlace} (h : DataW.trod enc Try.prog w 0 spare held fuel 27 [c0, c1, c2, c3, c4] = some x) :
    ∃ k0 k1 k2 k3 k4 : Int, c0 = .int .i64 k0 ∧ c1 = .int .i64 k1 ∧ c2 = .int .i64 k2 ∧ c3 = .int .i64 k3 ∧ c4 = .int .i64 k4 := by
  obtain ⟨xs, n', _, rfl, _, hxl, hf⟩ := DataW.trod_struct Try.underlying27 h
  obtain ⟨y0, g0⟩ := field_of hf hxl 0 _ rfl cells_3
  obtain ⟨y1, g1⟩ := field_of hf hxl 1 _ rfl cells_3
  obtain ⟨y2, g2⟩ := field_of hf hxl 2 _ rfl cells_3
  obtain ⟨y3, g3⟩ := field_of hf hxl 3 _ rfl cells_3
  obtain ⟨y4, g4⟩ := field_of hf hxl 4 _ rfl cells_3
  obtain ⟨k0, rfl⟩ := int_field Try.underlying3 g0
  obtain ⟨k1, rfl⟩ := int_field Try.underlying3 g1
  obtain ⟨k2, rfl⟩ := int_field Try.underlying3 g2
  obtain ⟨k3, rfl⟩ := int_field Try.underlying3 g3
  obtain ⟨k4, rfl⟩ := int_field Try.underlying3 g4
  exact ⟨_, _, _, _, _, rfl, rfl, rfl, rfl, rfl⟩
/-- A case by value, opened. -/
theorem open_case {r : Reach} {b0 : Nat} {v : Value} {d : DataW H} {p : List MemPlace} (hv : Value.okWide Try.prog w r b0 30 v) (h : DataW.Trod enc Try.prog w 0 spare held 30 v d p) :
    ∃ (sh nx fl ac fi wa li p0 p1 p2 a b f c m now n : Int) (A : Option Addr) (ca : Nat) (l : List RecX), v = .agg #[.int .i64 sh, .int .i64 nx, .int .i64 fl, .int .i64 ac, .int .i64 fi, .int .i64 wa, .int .i64 li, .int .i64 p0, .int .i64 p1, .int .i64 p2, .int .i64 a, .int .i64 b, .int .i64 f, .int .i64 c, .int .i64 m, .slice A l.length ca, .int .i64 now, .int .i64 n] ∧
      RecsAt w w.heap.size A l ∧ (Sz d 30 → okB l ∧ l.length ≤ 1034834473170) := by
  obtain ⟨cs, rfl, hsz⟩ := okWide_struct Try.underlying30 hv
  obtain ⟨q⟩ := cs
  rw [cells_C] at hsz
  obtain ⟨fuel, hf0⟩ := h
  match q, hsz with
  | [c0, c1, c2, c3, c4, c5, c6, c7, c8, c9, c10, c11, c12, c13, c14, c15, c16, c17], _ =>
    obtain ⟨xs, n', _, hx, _, hxl, hf⟩ := DataW.trod_struct Try.underlying30 hf0
    obtain ⟨y0, g0⟩ := field_of hf hxl 0 _ rfl cells_S
    obtain ⟨y1, g1⟩ := field_of hf hxl 1 _ rfl cells_P
    obtain ⟨y2, g2⟩ := field_of hf hxl 2 _ rfl cells_R
    obtain ⟨y3, gx, g3⟩ := field_at hf hxl 3 _ rfl cells_L
    obtain ⟨y4, g4⟩ := field_of hf hxl 4 _ rfl cells_3
    obtain ⟨y5, g5⟩ := field_of hf hxl 5 _ rfl cells_3
    obtain ⟨sh, nx, fl, ac, fi, wa, li, rfl, rfl, rfl, rfl, rfl, rfl, rfl⟩ := open_S g0
    obtain ⟨p0, p1, p2, rfl, rfl, rfl⟩ := open_P g1
    obtain ⟨a, b, f, c, m, rfl, rfl, rfl, rfl, rfl⟩ := open_R g2
    obtain ⟨A, ca, l, rfl, hl, -, -, hk⟩ := open_recs g3
    obtain ⟨now, rfl⟩ := int_field Try.underlying3 g4
    obtain ⟨n, rfl⟩ := int_field Try.underlying3 g5
    refine ⟨sh, nx, fl, ac, fi, wa, li, p0, p1, p2, a, b, f, c, m, now, n, A, ca, l, rfl, hl, ?_⟩
    have h2 : d = DataW.agg (xs.map (·.1)) := by injection hx
    rw [h2]
    exact fun hz => hk (Sz.field Try.underlying30 (i := 3) rfl rfl gx hz)
end
end Go.Proofs.Ytojghgeemdpmpaa
