/- Arguments opened. -/
import Derived.Test.YtbofclohnmojmaaGreatDoorY8
import Derived.Test.YtbofclohnmojmaaGreatDoorRows
import Derived.ProofKit
import Derived.LaidMore
import Derived.OpenShut
import Derived.Stop.Joined
import Derived.Stop.LaidErr
import Derived.Lib.LaidTab
import Derived.Deep.Slices
import Derived.Lib.SmallJoins
import Derived.SizedLaws
namespace Go.Proofs.YtbofclohnmojmaaGreatDoor
open Go.ChangeShapes Go.WideShapes Go.ChangeAt Go.RowKit Go.Deep

theorem seatOwn : ownKnob Tryz.prog.godebug = none := by kernel_rfl
noncomputable def laidL : List (String × DataW Unit) := [("math/bits.deBruijn32tab", Rows.laid_math_bits_deBruijn32tab), ("math/bits.deBruijn64tab", Rows.laid_math_bits_deBruijn64tab), ("internal/strconv.uint64pow10", Rows.laid_internal_strconv_uint64pow10), ("strconv.ErrRange", Rows.laid_strconv_ErrRange), ("strconv.ErrSyntax", Rows.laid_strconv_ErrSyntax)]
/-- The door's own heap meets the condition: three closed facts. -/
theorem door_met (os : Os) (args : Array Value) : laidMetH Tryz.prog laidL ((World.doorLaid Tryz.prog 400 os).forCall (fun _ _ => 0) ⟨#[], args, []⟩).memory :=
  laidMetH_of_parts3 (fuel := 8) (laidMet_of_run' 8 (by kernel_rfl) (by kernel_rfl)) (by kernel_rfl) (by kernel_rfl)
theorem gTab : Tryz.prog.globalNamed "internal/strconv.uint64pow10" = some 3 := by kernel_rfl
theorem gRng : Tryz.prog.globalNamed "strconv.ErrRange" = some 2 := by kernel_rfl
theorem gTabT : (Tryz.prog.globals[3]?).map (·.type) = some 169 := by kernel_rfl
theorem gRngT : (Tryz.prog.globals[2]?).map (·.type) = some 126 := by kernel_rfl
theorem star76 : "*" ++ "errors.errorString" = "*errors.errorString" := by decide
theorem row76 (u : TypeId) (h : Tryz.prog.typeName? 3 u = some "*errors.errorString") : u = 175 :=
  typeName_ptr_named (nm := "errors.errorString") (by rw [star76]; kernel_rfl) (by kernel_rfl) (by decide) u (by rw [star76]; exact h)
theorem of_laid {W : World} (h : laidMetH Tryz.prog laidL W) : LaidW W ∧ ErrV W := by
  rw [MakeChecks.laidMetH_plain _ _ _ (by kernel_rfl)] at h
  have h2 : laidMet Tryz.prog (("internal/strconv.uint64pow10", Lib.tabData .u64 Lib.pow10Tab) :: [("strconv.ErrRange", Rows.laid_strconv_ErrRange), ("strconv.ErrSyntax", Rows.laid_strconv_ErrSyntax)]) W := h.tail.tail
  obtain ⟨a0, s0, hv0, hc0, hs0, hz0⟩ := laid_sentinel h2.tail gRng gRngT Tryz.underlying126 row76 Tryz.underlying175 Tryz.underlying177 rfl rfl Tryz.underlying9 (by kernel_rfl) (by kernel_rfl)
  exact ⟨⟨Lib.tabIs_of_head gTab gTabT Tryz.underlying169 Tryz.underlying157 (by kernel_rfl) (by kernel_rfl) h2⟩, ⟨_, _, hv0⟩⟩
theorem seatLaidOut : laidOutB Tryz.prog = true := by kernel_rfl
theorem cellsS : Tryz.prog.cellsOf 9 = 1 := by kernel_rfl
theorem cellsI : Tryz.prog.cellsOf 3 = 1 := by kernel_rfl
theorem cellsK : Tryz.prog.cellsOf 92 = 1 := by kernel_rfl
theorem cellsC : Tryz.prog.cellsOf 94 = 4 := by kernel_rfl
theorem cellsB : Tryz.prog.cellsOf 38 = 1 := by kernel_rfl
theorem cellsE : Tryz.prog.cellsOf 40 = 7 := by kernel_rfl
theorem cellsO : Tryz.prog.cellsOf 42 = 11 := by kernel_rfl
section
variable {H : Type} {enc : TypeId × Value → H}
/-- Behind a call that turns nothing old the arguments read as they did. -/
theorem below_trodAll {W W' : World} (hb : Below W.heap.size W W') : ∀ (ts : List TypeId) (vs : List Value) (ds : List (DataW H)) (p : List MemPlace), (∀ t ∈ ts, Tryz.prog.readableRec t = true ∧ t < Tryz.prog.types.size) → (∀ x ∈ p, x.block < W.heap.size) →
    DataW.TrodAll enc Tryz.prog W 0 (fun _ => true) true ts vs ds p → DataW.TrodAll enc Tryz.prog W' 0 (fun b => decide (b < W.heap.size)) true ts vs ds p
  | [], [], [], _, _, _, h => h
  | t :: ts, v :: vs, d :: ds, ps, ht, hlt, h => by
    obtain ⟨p, q, h1, h2, rfl⟩ := h
    exact ⟨p, q, Below.trod seatLaidOut (ht t (by simp)).1 (ht t (by simp)).2 h1 hb (fun x hx => hlt x (by simp [hx])), below_trodAll hb ts vs ds q (fun t' h' => ht t' (by simp [h'])) (fun x hx => hlt x (by simp [hx])) h2, rfl⟩
end
/-- What the form bears: each slice and string of the reading, by its bytes. -/
def Sz {H : Type} (d : DataW H) (t : TypeId) : Prop := ∀ n ∈ d.weights Tryz.prog t, n ≤ reachBytes
theorem Sz.all {H : Type} {e : TypeId} {d : DataW H} : ∀ {l : List (DataW H)}, (∀ n ∈ DataW.weightsAll Tryz.prog e l, n ≤ reachBytes) → d ∈ l → Sz d e
  | [], _, h => by cases h
  | x :: l, hz, h => by
    simp only [DataW.weightsAll, List.mem_append] at hz
    cases List.mem_cons.1 h with
    | inl he => subst he; exact fun n hn => hz n (.inl hn)
    | inr he => exact Sz.all (fun n hn => hz n (.inr hn)) he
theorem Sz.field {H : Type} {xs : List (DataW H × List MemPlace)} {T e : TypeId} {fs : Array Field} (hu : Tryz.prog.underlying T = some (.struct fs)) {i : Nat} {f : Field} {y : DataW H × List MemPlace} (hi : fs[i]? = some f) (ht : f.type = e) (hy : xs[i]? = some y)
    (h : Sz (DataW.agg (xs.map (·.1))) T) : Sz y.1 e := fun n hn => h n (by
  simp only [DataW.weights, hu]
  refine DataW.weights_mem_each (j := i) (t := e) (d := y.1) ?_ ?_ n hn
  · rw [List.getElem?_map, Array.getElem?_toList, hi, Option.map_some, ht]
  · rw [List.getElem?_map, hy, Option.map_some])
theorem Sz.range {H : Type} {t e : TypeId} {D : Nat → DataW H} {n : Nat} {sp : List (DataW H)} (hu : Tryz.prog.underlying t = some (.slice e)) (h : Sz (DataW.slice ((List.range n).map D) sp) t) {i : Nat} (hi : i < n) : Sz (D i) e := by
  unfold Sz at h
  simp only [DataW.weights, hu] at h
  exact Sz.all (l := (List.range n).map D) (fun m hm => h m (List.mem_cons_of_mem _ (List.mem_append_left _ hm))) (List.mem_map.2 ⟨i, List.mem_range.2 hi, rfl⟩)
theorem build_list {α : Type} {Q : Nat → α → Prop} : ∀ n : Nat, (∀ i, i < n → ∃ x, Q i x) → ∃ l : List α, l.length = n ∧ ∀ i x, l[i]? = some x → Q i x
  | 0, _ => ⟨[], rfl, by simp⟩
  | n + 1, h => by
    obtain ⟨l, hl, hq⟩ := build_list n fun i hi => h i (by omega)
    obtain ⟨x, hx⟩ := h n (by omega)
    refine ⟨l ++ [x], by simp [hl], fun i y hy => ?_⟩
    rw [List.getElem?_append] at hy
    split at hy
    · exact hq i y hy
    · have : i - l.length = 0 := by
        rcases Nat.eq_zero_or_pos (i - l.length) with h0 | h0
        · exact h0
        · rw [List.getElem?_eq_none (by simp; omega)] at hy; cases hy
      rw [this] at hy
      simp at hy
      subst hy
      rw [show i = n from by omega]
      exact hx
section
variable {H : Type} {enc : TypeId × Value → H} {w : World} {spare : Nat → Bool} {held : Bool}
theorem cells_split {b : Addr} {n : Nat} {cs : List Value} (h : w.cells? 0 b n = some cs) : cs.length = n ∧ ∀ j, j < n → w.cell? (b.add j) = cs[j]? := by
  obtain ⟨_, h1, h2⟩ := World.cells?_some h
  exact ⟨h1, h2⟩
theorem reads_of {a : Addr} {n size : Nat} {xs : List Value} (hs : 0 < size) (hl : xs.length = n * size) (h : ∀ j u, xs[j]? = some u → w.cell? (a.add j) = some u) : Reads w w.heap.size size (some a) n xs := by
  refine ⟨hl, fun hn => ?_⟩
  have h0 : 0 < xs.length := by rw [hl]; exact Nat.mul_pos hn hs
  have hc := h 0 _ (List.getElem?_eq_getElem h0)
  rw [show a.add 0 = a from by simp [Addr.add]] at hc
  obtain ⟨b, o, s⟩ := a
  have hsp : s = none := World.cell?_spot hc
  subst hsp
  refine ⟨b, o, rfl, block_lt_of_cell hc, fun j u hu => ?_⟩
  have := h j u hu
  rwa [Addr.add_lit] at this
theorem field_at {fs : Array Field} {cs : List Value} {xs : List (DataW H × List MemPlace)} {n k : Nat} (hf : ∀ (i : Nat) (f : Field), fs[i]? = some f → DataW.trod enc Tryz.prog w 0 spare held n f.type ((cs.drop f.offset).take (Tryz.prog.cellsOf f.type)) = xs[i]?)
    (hl : xs.length = fs.size) (i : Nat) (f : Field) (hi : fs[i]? = some f) (hk : Tryz.prog.cellsOf f.type = k) : ∃ y, xs[i]? = some y ∧ DataW.trod enc Tryz.prog w 0 spare held n f.type ((cs.drop f.offset).take k) = some y := by
  have h := hf i f hi
  have hlt : i < xs.length := by rw [hl]; exact (Array.getElem?_eq_some_iff.1 hi).1
  rw [hk, List.getElem?_eq_getElem hlt] at h
  exact ⟨_, List.getElem?_eq_getElem hlt, h⟩
theorem fld_int {n : Nat} {t : TypeId} {v : Value} {y : DataW H × List MemPlace} (ht : Tryz.prog.underlying t = some (.int .i64)) (h : DataW.trod enc Tryz.prog w 0 spare held n t [v] = some y) : ∃ k : Int, v = .int .i64 k ∧ (-9223372036854775808 ≤ k ∧ k ≤ 9223372036854775807) := by
  obtain ⟨k, e, _, hw⟩ := DataW.trod_int ht h
  injection e with e
  exact ⟨k, e, bounds_i64 hw⟩
theorem fld_str {n : Nat} {v : Value} {y : DataW H × List MemPlace} (h : DataW.trod enc Tryz.prog w 0 spare held n 9 [v] = some y) : ∃ s : ByteArray, v = .string s ∧ s.size ≤ maxLen ∧ (Sz y.1 9 → s.size ≤ 140737488351232) := by
  obtain ⟨s, e, hy, hw⟩ := DataW.trod_string Tryz.underlying9 h
  injection e with e
  refine ⟨s, e, hw, ?_⟩
  rw [hy]
  exact fun hz => hz _ (by simp [DataW.weights])
end
end Go.Proofs.YtbofclohnmojmaaGreatDoor
namespace Go.Proofs.YtbofclohnmojmaaGreatDoor
open Go.ChangeShapes Go.WideShapes Go.ChangeAt Go.RowKit Go.Deep

def Cl.cells (x : Cl) : List Value := [.int .i64 x.k, .string x.e.id, .string x.e.tn, .string x.e.src, .string x.e.key, .int .i64 x.e.at_, .string x.e.cause, .slice x.e.A x.e.body.length x.e.cp, .string x.s, .int .i64 x.now, .int .i64 x.n]
theorem Cl.len (x : Cl) : x.cells.length = 11 := rfl
/-- The integers of a call. -/
def ClWf (x : Cl) : Prop := (-9223372036854775808 ≤ x.k ∧ x.k ≤ 9223372036854775807) ∧ (-9223372036854775808 ≤ x.now ∧ x.now ≤ 9223372036854775807) ∧ (-9223372036854775808 ≤ x.n ∧ x.n ≤ 9223372036854775807)
/-- The sizes of a call. -/
def ClUp (x : Cl) : Prop := evB x.e ∧ x.s.size ≤ 140737488351232
theorem bytesC : Tryz.prog.bytesOf 94 = 40 := by kernel_rfl
section
variable {H : Type} {enc : TypeId × Value → H} {w : World} {spare : Nat → Bool} {held : Bool}
theorem open_body {fuel : Nat} {v : Value} {x : DataW H × List MemPlace} (h : DataW.trod enc Tryz.prog w 0 spare held fuel 38 [v] = some x) :
    ∃ (A : Option Addr) (c : Nat) (l : List Cel), v = .slice A l.length c ∧ CelL w w.heap.size A l ∧ (Sz x.1 38 → l.length ≤ 3518437208780 ∧ ∀ y ∈ l, okC y) := by
  rcases open_slice Tryz.underlying38 h with ⟨hv, rfl⟩ | ⟨a, len, cap, m, n, D, Pl, hv, _, hl, hm, hmm, rfl, hi⟩
  · injection hv with hv
    exact ⟨none, 0, [], hv, Reads.none_, fun _ => ⟨Nat.zero_le _, by simp⟩⟩
  · injection hv with hv
    have hlm : len ≤ m := by rw [hmm]; split <;> omega
    obtain ⟨l, hll, hq⟩ := build_list (Q := fun i (x : Cel) => (∀ j u, x.cells[j]? = some u → w.cell? (a.add (i * 4 + j)) = some u) ∧ (-9223372036854775808 ≤ x.i ∧ x.i ≤ 9223372036854775807) ∧ (-9223372036854775808 ≤ x.n ∧ x.n ≤ 9223372036854775807) ∧ (Sz (D i) 94 → x.s.size ≤ 140737488351232)) len fun i hil => by
      obtain ⟨cs', hc, ht⟩ := hi i (by omega)
      rw [cellsC] at hc
      obtain ⟨h4, hcell⟩ := cells_split hc
      match cs', h4 with
      | [c0, c1, c2, c3], _ =>
        obtain ⟨xs, n', _, hx, _, hxl, hf⟩ := DataW.trod_struct Tryz.underlying94 ht
        obtain ⟨y0, -, g0⟩ := field_at hf hxl 0 _ rfl cellsK
        obtain ⟨y1, -, g1⟩ := field_at hf hxl 1 _ rfl cellsI
        obtain ⟨y2, gy, g2⟩ := field_at hf hxl 2 _ rfl cellsS
        obtain ⟨y3, -, g3⟩ := field_at hf hxl 3 _ rfl cellsI
        obtain ⟨k0, rfl, -⟩ := fld_int Tryz.underlying92 g0
        obtain ⟨k1, rfl, b1⟩ := fld_int Tryz.underlying3 g1
        obtain ⟨k2, rfl, -, b2⟩ := fld_str g2
        obtain ⟨k3, rfl, b3⟩ := fld_int Tryz.underlying3 g3
        refine ⟨⟨k0, k1, k2, k3⟩, fun j u hu => ?_, b1, b3, ?_⟩
        rotate_left
        · have h2 : D i = DataW.agg (xs.map (·.1)) := by injection hx
          rw [h2]
          exact fun hz => b2 (Sz.field Tryz.underlying94 (i := 2) rfl rfl gy hz)
        have hj : j < 4 := (List.getElem?_eq_some_iff.1 hu).1
        rw [← add_of_add, hcell j hj]
        exact hu
    refine ⟨some a, cap, l, by rw [hv, hll], ?_, fun hk => ?_⟩
    · refine reads_of (by omega) (flat_length Cel.len l) fun j u hu => ?_
      have hjl : j < l.length * 4 := by
        have := (List.getElem?_eq_some_iff.1 hu).1
        rwa [flat_length Cel.len l] at this
      have hk : j / 4 < l.length := by omega
      have hx := List.getElem?_eq_getElem hk
      rw [show j = j / 4 * 4 + j % 4 from by omega] at hu ⊢
      rw [flat_get Cel.len l (j / 4) (j % 4) _ hx (by omega)] at hu
      exact (hq _ _ hx).1 _ _ hu
    · have hz := hk
      unfold Sz at hz
      simp only [DataW.weights, Tryz.underlying38] at hz
      have h1 := hz _ (List.mem_cons_self ..)
      simp only [List.length_map, List.length_range, bytesC, reachBytes] at h1
      refine ⟨by omega, fun y hy => ?_⟩
      obtain ⟨i, hi', he⟩ := List.mem_iff_getElem.1 hy
      have hq' := (hq i y (by rw [List.getElem?_eq_getElem hi', he])).2
      exact ⟨hq'.1, hq'.2.1, hq'.2.2 (Sz.range Tryz.underlying38 hk (by omega))⟩
/-- An event out of its seven cells. -/
theorem open_ev {fuel : Nat} {cs : List Value} {x : DataW H × List MemPlace} (h7 : cs.length = 7) (h : DataW.trod enc Tryz.prog w 0 spare held fuel 40 cs = some x) :
    ∃ e : Ev, cs = e.cells ∧ EvIn w w.heap.size e ∧ (Sz x.1 40 → evB e) := by
  match cs, h7 with
  | [c0, c1, c2, c3, c4, c5, c6], _ =>
    obtain ⟨xs, n', _, rfl, _, hxl, hf⟩ := DataW.trod_struct Tryz.underlying40 h
    obtain ⟨y0, z0, g0⟩ := field_at hf hxl 0 _ rfl cellsS
    obtain ⟨y1, z1, g1⟩ := field_at hf hxl 1 _ rfl cellsS
    obtain ⟨y2, z2, g2⟩ := field_at hf hxl 2 _ rfl cellsS
    obtain ⟨y3, z3, g3⟩ := field_at hf hxl 3 _ rfl cellsS
    obtain ⟨y4, -, g4⟩ := field_at hf hxl 4 _ rfl cellsI
    obtain ⟨y5, z5, g5⟩ := field_at hf hxl 5 _ rfl cellsS
    obtain ⟨y6, z6, g6⟩ := field_at hf hxl 6 _ rfl cellsB
    obtain ⟨k0, rfl, -, b0⟩ := fld_str g0
    obtain ⟨k1, rfl, -, b1⟩ := fld_str g1
    obtain ⟨k2, rfl, -, b2⟩ := fld_str g2
    obtain ⟨k3, rfl, -, b3⟩ := fld_str g3
    obtain ⟨k4, rfl, -⟩ := fld_int Tryz.underlying3 g4
    obtain ⟨k5, rfl, -, b5⟩ := fld_str g5
    obtain ⟨A, c, l, hc6, hr, hl⟩ := open_body g6
    subst hc6
    refine ⟨⟨k0, k1, k2, k3, k4, k5, A, c, l⟩, rfl, hr, fun hk => ?_⟩
    have hF : ∀ {i : Nat} {f : Field} {e : TypeId} {y : DataW H × List MemPlace}, _ → f.type = e → xs[i]? = some y → Sz y.1 e := fun {i f e y} hi ht hy => Sz.field Tryz.underlying40 (i := i) (f := f) hi ht hy hk
    have := hl (hF (i := 6) rfl rfl z6)
    exact ⟨b0 (hF (i := 0) rfl rfl z0), b1 (hF (i := 1) rfl rfl z1), b2 (hF (i := 2) rfl rfl z2), b3 (hF (i := 3) rfl rfl z3), b5 (hF (i := 5) rfl rfl z5), this.1, this.2⟩
/-- A call out of its eleven cells. -/
theorem open_cl {fuel : Nat} {cs : List Value} {x : DataW H × List MemPlace} (h11 : cs.length = 11) (h : DataW.trod enc Tryz.prog w 0 spare held fuel 42 cs = some x) :
    ∃ y : Cl, cs = y.cells ∧ EvIn w w.heap.size y.e ∧ ClWf y ∧ (Sz x.1 42 → ClUp y) := by
  match cs, h11 with
  | [c0, c1, c2, c3, c4, c5, c6, c7, c8, c9, c10], _ =>
    obtain ⟨xs, n', _, rfl, _, hxl, hf⟩ := DataW.trod_struct Tryz.underlying42 h
    obtain ⟨y0, -, g0⟩ := field_at hf hxl 0 _ rfl cellsI
    obtain ⟨y1, z1, g1⟩ := field_at hf hxl 1 _ rfl cellsE
    obtain ⟨y2, z2, g2⟩ := field_at hf hxl 2 _ rfl cellsS
    obtain ⟨y3, -, g3⟩ := field_at hf hxl 3 _ rfl cellsI
    obtain ⟨y4, -, g4⟩ := field_at hf hxl 4 _ rfl cellsI
    obtain ⟨k0, rfl, b0⟩ := fld_int Tryz.underlying3 g0
    obtain ⟨e, he, hin, hup⟩ := open_ev rfl g1
    obtain ⟨k2, rfl, -, b2⟩ := fld_str g2
    obtain ⟨k3, rfl, b3⟩ := fld_int Tryz.underlying3 g3
    obtain ⟨k4, rfl, b4⟩ := fld_int Tryz.underlying3 g4
    have he' : [c1, c2, c3, c4, c5, c6, c7] = e.cells := he
    unfold Ev.cells at he'
    simp only [List.cons.injEq, and_true] at he'
    obtain ⟨rfl, rfl, rfl, rfl, rfl, rfl, rfl⟩ := he'
    refine ⟨⟨k0, e, k2, k3, k4⟩, rfl, hin, ⟨b0, b3, b4⟩, fun hk => ?_⟩
    exact ⟨hup (Sz.field Tryz.underlying42 (i := 1) rfl rfl z1 hk), b2 (Sz.field Tryz.underlying42 (i := 2) rfl rfl z2 hk)⟩
set_option maxRecDepth 100000 in
/-- A call by value, opened. -/
theorem open_call {r : Reach} {b0 : Nat} {v : Value} {d : DataW H} {p : List MemPlace} (hv : Value.okWide Tryz.prog w r b0 42 v) (h : DataW.Trod enc Tryz.prog w 0 spare held 42 v d p) :
    ∃ y : Cl, v = .agg #[.int .i64 y.k, .string y.e.id, .string y.e.tn, .string y.e.src, .string y.e.key, .int .i64 y.e.at_, .string y.e.cause, .slice y.e.A y.e.body.length y.e.cp, .string y.s, .int .i64 y.now, .int .i64 y.n] := by
  obtain ⟨cs, rfl, hsz⟩ := okWide_struct Tryz.underlying42 hv
  obtain ⟨q⟩ := cs
  rw [cellsO] at hsz
  obtain ⟨fuel, hf0⟩ := h
  obtain ⟨y, hy, -⟩ := open_cl (cs := q) hsz hf0
  subst hy
  exact ⟨y, rfl⟩
set_option maxRecDepth 100000 in
/-- A script, opened. -/
theorem open_calls {v : Value} {d : DataW H} {p : List MemPlace} (hv : ∃ a n c, v = .slice a n c) (h : DataW.Trod enc Tryz.prog w 0 spare held 24 v d p) :
    ∃ (A : Option Addr) (c : Nat) (l : List Cl), v = .slice A l.length c ∧ Reads w w.heap.size 11 A l.length (l.flatMap Cl.cells) ∧ l.length ≤ maxLen ∧ (∀ x ∈ l, EvIn w w.heap.size x.e ∧ ClWf x) ∧ (Sz d 24 → ∀ x ∈ l, ClUp x) := by
  obtain ⟨a0, n0, c0, rfl⟩ := hv
  obtain ⟨fuel, hf⟩ := h
  rcases open_slice Tryz.underlying24 hf with ⟨e, _⟩ | ⟨a, len, cap, m, n, D, Pl, e, _, hl, hm, hmm, hd, hi⟩
  · have e : Value.slice a0 n0 c0 = .slice none 0 0 := by simpa [Value.cells] using e
    rw [e]
    exact ⟨none, 0, [], rfl, Reads.none_, Nat.zero_le _, by simp, by simp⟩
  · have e : Value.slice a0 n0 c0 = .slice (some a) len cap := by simpa [Value.cells] using e
    rw [e]
    have hlm : len ≤ m := by rw [hmm]; split <;> omega
    obtain ⟨l, hll, hq⟩ := build_list (Q := fun i (s : Cl) => (∀ j u, s.cells[j]? = some u → w.cell? (a.add (i * 11 + j)) = some u) ∧ (EvIn w w.heap.size s.e ∧ ClWf s) ∧ (Sz (D i) 42 → ClUp s)) len fun i hil => by
      obtain ⟨cs', hc, ht⟩ := hi i (by omega)
      rw [cellsO] at hc
      obtain ⟨h4, hcell⟩ := cells_split hc
      obtain ⟨s, rfl, hin, hwf, hup⟩ := open_cl h4 ht
      refine ⟨s, fun j u hu => ?_, ⟨hin, hwf⟩, hup⟩
      have hj : j < 11 := (List.getElem?_eq_some_iff.1 hu).1
      rw [← add_of_add, hcell j hj]
      exact hu
    have hmem : ∀ x ∈ l, ∃ i, i < len ∧ l[i]? = some x := fun x hx => by
      obtain ⟨i, hi', he⟩ := List.mem_iff_getElem.1 hx
      exact ⟨i, by omega, by rw [List.getElem?_eq_getElem hi', he]⟩
    refine ⟨some a, cap, l, by rw [hll], ?_, by omega, fun x hx => ?_, fun hk x hx => ?_⟩
    · refine reads_of (by omega) (flat_length Cl.len l) fun j u hu => ?_
      have hjl : j < l.length * 11 := by
        have := (List.getElem?_eq_some_iff.1 hu).1
        rwa [flat_length Cl.len l] at this
      have hk : j / 11 < l.length := by omega
      have hx := List.getElem?_eq_getElem hk
      rw [show j = j / 11 * 11 + j % 11 from by omega] at hu ⊢
      rw [flat_get Cl.len l (j / 11) (j % 11) _ hx (by omega)] at hu
      exact (hq _ _ hx).1 _ _ hu
    · obtain ⟨i, _, hi'⟩ := hmem x hx
      exact (hq i x hi').2.1
    · obtain ⟨i, hil, hi'⟩ := hmem x hx
      refine (hq i x hi').2.2 ?_
      injection hd with hd
      rw [hd] at hk
      exact Sz.range Tryz.underlying24 hk hil
set_option maxRecDepth 100000 in
/-- A policy by value, opened. -/
theorem open_pol {r : Reach} {b0 : Nat} {v : Value} {d : DataW H} {p : List MemPlace} (hv : Value.okWide Tryz.prog w r b0 23 v) (h : DataW.Trod enc Tryz.prog w 0 spare held 23 v d p) :
    ∃ a b : Int, v = .agg #[.int .i64 a, .int .i64 b] := by
  obtain ⟨cs, rfl, hsz⟩ := okWide_struct Tryz.underlying23 hv
  obtain ⟨l⟩ := cs
  have hC : Tryz.prog.cellsOf 23 = 2 := by kernel_rfl
  rw [hC] at hsz
  obtain ⟨fuel, hf⟩ := h
  obtain ⟨xs, n, _, _, _, hlen, hg⟩ := DataW.trod_struct Tryz.underlying23 hf
  match l, hsz with
  | [c0, c1], _ =>
    obtain ⟨y0, -, g0⟩ := field_at hg hlen 0 _ rfl cellsI
    obtain ⟨y1, -, g1⟩ := field_at hg hlen 1 _ rfl cellsI
    obtain ⟨k0, rfl, -⟩ := fld_int Tryz.underlying3 g0
    obtain ⟨k1, rfl, -⟩ := fld_int Tryz.underlying3 g1
    exact ⟨k0, k1, rfl⟩
end
end Go.Proofs.YtbofclohnmojmaaGreatDoor
