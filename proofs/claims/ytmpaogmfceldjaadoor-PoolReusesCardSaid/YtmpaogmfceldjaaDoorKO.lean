/- Arguments opened: a policy, a script; what the listed variables give; words for the joins. -/
import Derived.Test.YtmpaogmfceldjaaDoorKWK
import Derived.Test.YtmpaogmfceldjaaDoorRows
import Derived.ProofKit
import Derived.LaidMore
import Derived.OpenShut
import Derived.Stop.Joined
import Derived.Stop.LaidErr
import Derived.Lib.LaidTab
import Derived.WalkSmall
import Derived.Deep.Slices
import Derived.Lib.SmallJoins
import Derived.SizedLaws
namespace Go.Proofs.YtmpaogmfceldjaaDoor
open Go.ChangeShapes Go.WideShapes Go.ChangeAt Go.RowKit Go.Deep

theorem seatOwn : ownKnob Tryd.prog.godebug = none := by kernel_rfl
noncomputable def laidL : List (String × DataW Unit) := [("math/bits.deBruijn32tab", Rows.laid_math_bits_deBruijn32tab), ("math/bits.deBruijn64tab", Rows.laid_math_bits_deBruijn64tab), ("internal/strconv.uint64pow10", Rows.laid_internal_strconv_uint64pow10)]
/-- The door's own heap meets the condition: three closed facts. -/
theorem door_met (os : Os) (args : Array Value) : laidMetH Tryd.prog laidL ((World.doorLaid Tryd.prog 400 os).forCall (fun _ _ => 0) ⟨#[], args, []⟩).memory :=
  laidMetH_of_parts3 (fuel := 8) (laidMet_of_run' 8 (by kernel_rfl) (by kernel_rfl)) (by kernel_rfl) (by kernel_rfl)
theorem gTab : Tryd.prog.globalNamed "internal/strconv.uint64pow10" = some 0 := by kernel_rfl
theorem gTabT : (Tryd.prog.globals[0]?).map (·.type) = some 88 := by kernel_rfl
theorem of_laid {W : World} (h : laidMetH Tryd.prog laidL W) : LaidW W := by
  rw [MakeChecks.laidMetH_plain _ _ _ (by kernel_rfl)] at h
  have h2 : laidMet Tryd.prog (("internal/strconv.uint64pow10", Lib.tabData .u64 Lib.pow10Tab) :: []) W := h.tail.tail
  exact ⟨Lib.tabIs_of_head gTab gTabT Tryd.underlying88 Tryd.underlying80 (by kernel_rfl) (by kernel_rfl) h2⟩
theorem seatLaidOut : laidOutB Tryd.prog = true := by kernel_rfl
theorem cellsS : Tryd.prog.cellsOf 9 = 1 := by kernel_rfl
theorem cellsI : Tryd.prog.cellsOf 3 = 1 := by kernel_rfl
theorem cellsO : Tryd.prog.cellsOf 35 = 4 := by kernel_rfl
section
variable {H : Type} {enc : TypeId × Value → H}
/-- Behind a call that turns nothing old the arguments read as they did. -/
theorem below_trodAll {W W' : World} (hb : Below W.heap.size W W') : ∀ (ts : List TypeId) (vs : List Value) (ds : List (DataW H)) (p : List MemPlace), (∀ t ∈ ts, Tryd.prog.readableRec t = true ∧ t < Tryd.prog.types.size) → (∀ x ∈ p, x.block < W.heap.size) →
    DataW.TrodAll enc Tryd.prog W 0 (fun _ => true) true ts vs ds p → DataW.TrodAll enc Tryd.prog W' 0 (fun b => decide (b < W.heap.size)) true ts vs ds p
  | [], [], [], _, _, _, h => h
  | t :: ts, v :: vs, d :: ds, ps, ht, hlt, h => by
    obtain ⟨p, q, h1, h2, rfl⟩ := h
    exact ⟨p, q, Below.trod seatLaidOut (ht t (by simp)).1 (ht t (by simp)).2 h1 hb (fun x hx => hlt x (by simp [hx])), below_trodAll hb ts vs ds q (fun t' h' => ht t' (by simp [h'])) (fun x hx => hlt x (by simp [hx])) h2, rfl⟩
end
theorem build_list {α : Type} {Q : Nat → α → Prop} : ∀ n : Nat, (∀ i, i < n → ∃ x, Q i x) → ∃ l : List α, l.length = n ∧ ∀ i x, l[i]? = some x → Q i x
  | 0, _ => ⟨[], rfl, by simp⟩
  | n + 1, h => by
    obtain ⟨l, hl, hq⟩ := build_list n fun i hi => h i (by omega)
    obtain ⟨x, hx⟩ := h n (by omega)
    refine ⟨l ++ [x], by simp [hl], fun i y hy => ?_⟩
    rw [List.getElem?_append] at hy
    split at hy
    · exact hq i y hy
    · have : i - l.length = 0 := by
        rcases Nat.eq_zero_or_pos (i - l.length) with h0 | h0
        · exact h0
        · rw [List.getElem?_eq_none (by simp; omega)] at hy; cases hy
      rw [this] at hy
      simp at hy
      subst hy
      rw [show i = n from by omega]
      exact hx

section
variable {H : Type} {enc : TypeId × Value → H} {w : World} {spare : Nat → Bool} {held : Bool}
theorem cells_split {b : Addr} {n : Nat} {cs : List Value} (h : w.cells? 0 b n = some cs) : cs.length = n ∧ ∀ j, j < n → w.cell? (b.add j) = cs[j]? := by
  obtain ⟨_, h1, h2⟩ := World.cells?_some h
  exact ⟨h1, h2⟩

theorem field_of {fs : Array Field} {cs : List Value} {xs : List (DataW H × List MemPlace)} {n k : Nat} (hf : ∀ (i : Nat) (f : Field), fs[i]? = some f → DataW.trod enc Tryd.prog w 0 spare held n f.type ((cs.drop f.offset).take (Tryd.prog.cellsOf f.type)) = xs[i]?)
    (hl : xs.length = fs.size) (i : Nat) (f : Field) (hi : fs[i]? = some f) (hk : Tryd.prog.cellsOf f.type = k) : ∃ y, DataW.trod enc Tryd.prog w 0 spare held n f.type ((cs.drop f.offset).take k) = some y := by
  have h := hf i f hi
  have hlt : i < xs.length := by rw [hl]; exact (Array.getElem?_eq_some_iff.1 hi).1
  rw [hk, List.getElem?_eq_getElem hlt] at h
  exact ⟨_, h⟩
theorem fld_int {n : Nat} {v : Value} {y : DataW H × List MemPlace} (h : DataW.trod enc Tryd.prog w 0 spare held n 3 [v] = some y) : ∃ k : Int, v = .int .i64 k ∧ (Lit.int .i64 k).wf = true := by
  obtain ⟨k, e, _, hw⟩ := DataW.trod_int Tryd.underlying3 h
  injection e with e
  exact ⟨k, e, hw⟩
theorem fld_str {n : Nat} {v : Value} {y : DataW H × List MemPlace} (h : DataW.trod enc Tryd.prog w 0 spare held n 9 [v] = some y) : ∃ s : ByteArray, v = .string s ∧ s.size ≤ maxLen := by
  obtain ⟨s, e, _, hw⟩ := DataW.trod_string Tryd.underlying9 h
  injection e with e
  exact ⟨s, e, hw⟩
/-- A policy by value, opened. -/
theorem open_pp {r : Reach} {b0 : Nat} {v : Value} {d : DataW H} {p : List MemPlace} (hv : Value.okWide Tryd.prog w r b0 23 v) (h : DataW.Trod enc Tryd.prog w 0 spare held 23 v d p) :
    ∃ a b c e : Int, v = .agg #[.int .i64 a, .int .i64 b, .int .i64 c, .int .i64 e] ∧ (Lit.int .i64 a).wf = true ∧ (Lit.int .i64 b).wf = true ∧ (Lit.int .i64 c).wf = true ∧ (Lit.int .i64 e).wf = true := by
  obtain ⟨cs, rfl, hsz⟩ := okWide_struct Tryd.underlying23 hv
  obtain ⟨l⟩ := cs
  have hC : Tryd.prog.cellsOf 23 = 4 := by kernel_rfl
  have h3 : Tryd.prog.cellsOf 3 = 1 := by kernel_rfl
  rw [hC] at hsz
  obtain ⟨fuel, hf⟩ := h
  obtain ⟨xs, n, _, _, _, hlen, hg⟩ := DataW.trod_struct Tryd.underlying23 hf
  match l, hsz, xs, hlen with
  | [c0, c1, c2, c3], _, [y0, y1, y2, y3], _ =>
    have g0 := hg 0 _ rfl
    have g1 := hg 1 _ rfl
    have g2 := hg 2 _ rfl
    have g3 := hg 3 _ rfl
    simp [Value.cells, h3] at g0 g1 g2 g3
    obtain ⟨k0, rfl, w0⟩ := fld_int g0
    obtain ⟨k1, rfl, w1⟩ := fld_int g1
    obtain ⟨k2, rfl, w2⟩ := fld_int g2
    obtain ⟨k3, rfl, w3⟩ := fld_int g3
    exact ⟨_, _, _, _, rfl, w0, w1, w2, w3⟩
/-- What is true of the numbers of a script's call. -/
def OpWf (x : POp) : Prop := x.id.size ≤ 9223372036854775807 ∧ (-9223372036854775808 ≤ x.n ∧ x.n ≤ 9223372036854775807) ∧ (-9223372036854775808 ≤ x.now ∧ x.now ≤ 9223372036854775807)
/-- The four cells of a script's call, opened. -/
theorem op_trod {cs' : List Value} {n : Nat} {y : DataW H × List MemPlace} (h3 : cs'.length = 4) (ht : DataW.trod enc Tryd.prog w 0 spare held n 35 cs' = some y) :
    ∃ x : POp, cs' = [.int .i64 x.kd, .string x.id, .int .i64 x.n, .int .i64 x.now] ∧ OpWf x := by
  match cs', h3 with
  | [c0, c1, c2, c3], _ =>
    obtain ⟨xs, n', _, _, _, hxl, hf⟩ := DataW.trod_struct Tryd.underlying35 ht
    obtain ⟨y0, g0⟩ := field_of hf hxl 0 _ rfl cellsI
    obtain ⟨y1, g1⟩ := field_of hf hxl 1 _ rfl cellsS
    obtain ⟨y2, g2⟩ := field_of hf hxl 2 _ rfl cellsI
    obtain ⟨y3, g3⟩ := field_of hf hxl 3 _ rfl cellsI
    obtain ⟨k0, rfl, w0⟩ := fld_int g0
    obtain ⟨k1, rfl, w1⟩ := fld_str g1
    obtain ⟨k2, rfl, w2⟩ := fld_int g2
    obtain ⟨k3, rfl, w3⟩ := fld_int g3
    unfold maxLen at w1
    exact ⟨⟨k0, k1, k2, k3⟩, rfl, by show k1.size ≤ _; omega, bounds_i64 w2, bounds_i64 w3⟩
set_option maxRecDepth 100000 in
theorem open_ops {v : Value} {d : DataW H} {p : List MemPlace} (hv : ∃ a n c, v = .slice a n c) (h : DataW.Trod enc Tryd.prog w 0 spare held 24 v d p) :
    ∃ (A : Option Addr) (c : Nat) (l : List POp), v = .slice A l.length c ∧ OpsAt w w.heap.size A l ∧ l.length ≤ maxLen ∧ ∀ s ∈ l, OpWf s := by
  obtain ⟨a0, n0, c0, rfl⟩ := hv
  obtain ⟨fuel, hf⟩ := h
  rcases open_slice Tryd.underlying24 hf with ⟨e, _⟩ | ⟨a, len, cap, m, n, D, Pl, e, _, hl, hm, hmm, _, hi⟩
  · have e : Value.slice a0 n0 c0 = .slice none 0 0 := by simpa [Value.cells] using e
    rw [e]
    exact ⟨none, 0, [], rfl, fun k s h => by simp at h, Nat.zero_le _, by simp⟩
  · have e : Value.slice a0 n0 c0 = .slice (some a) len cap := by simpa [Value.cells] using e
    rw [e]
    have hlm : len ≤ m := by rw [hmm]; split <;> omega
    obtain ⟨l, hll, hq⟩ := build_list (Q := fun i (s : POp) => OpWf s ∧ w.cell? (a.add (i * 4)) = some (.int .i64 s.kd) ∧ w.cell? (a.add (i * 4 + 1)) = some (.string s.id) ∧ w.cell? (a.add (i * 4 + 2)) = some (.int .i64 s.n) ∧ w.cell? (a.add (i * 4 + 3)) = some (.int .i64 s.now)) len fun i hil => by
      obtain ⟨cs', hc, ht⟩ := hi i (by omega)
      rw [cellsO] at hc
      obtain ⟨h4, hcell⟩ := cells_split hc
      obtain ⟨s, rfl, hz⟩ := op_trod h4 ht
      have e0 := hcell 0 (by omega)
      have e1 := hcell 1 (by omega)
      have e2 := hcell 2 (by omega)
      have e3 := hcell 3 (by omega)
      rw [add_of_add] at e0 e1 e2 e3
      exact ⟨s, hz, e0, e1, e2, e3⟩
    refine ⟨some a, cap, l, by rw [hll], ?_, by omega, fun s hs => ?_⟩
    · intro k s hk
      obtain ⟨_, e0, e1, e2, e3⟩ := hq k s hk
      obtain ⟨b, o, sp⟩ := a
      have hsp : sp = none := by
        have hlt : 0 < l.length := by have := (List.getElem?_eq_some_iff.1 hk).1; omega
        obtain ⟨_, f0, -⟩ := hq 0 _ (List.getElem?_eq_getElem hlt)
        rw [Nat.zero_mul, show (⟨b, o, sp⟩ : Addr).add 0 = ⟨b, o, sp⟩ from by simp [Addr.add]] at f0
        exact World.cell?_spot f0
      subst hsp
      rw [Addr.add_lit] at e0 e1 e2 e3
      exact ⟨b, o, rfl, block_lt_of_cell e0, e0, e1, e2, e3⟩
    · obtain ⟨k, hk⟩ := List.getElem?_of_mem hs
      exact (hq k s hk).1
end
theorem law_does (nm : ByteArray) (pa pb pc pd : Int) (A : Option Addr) (c : Nat) (l : List POp) (w : World) (hL : LaidW w) (hs : nm.size ≤ 9223372036854775807) (hl : OpsAt w w.heap.size A l) (hn : l.length ≤ maxLen) (hz : ∀ x ∈ l, OpWf x) :
    Calls Tryd.prog 3 #[.string nm, .agg #[.int .i64 pa, .int .i64 pb, .int .i64 pc, .int .i64 pd], .slice A l.length c] w fun e w' => e = .returned (.bool true) ∧ Below w.heap.size w w' :=
  PoolDoes_any nm pa pb pc pd A c l w hs hl (by unfold maxLen at hn; omega) (fun x hx => (hz x hx).1) hL
end Go.Proofs.YtmpaogmfceldjaaDoor
