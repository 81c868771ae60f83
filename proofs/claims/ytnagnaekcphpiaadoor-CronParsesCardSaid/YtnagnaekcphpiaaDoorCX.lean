/- cron: a schedule by value, opened; the words for the joins. -/
import Derived.Test.YtnagnaekcphpiaaDoorCN
import Derived.Test.YtnagnaekcphpiaaDoorRows
import Derived.ProofKit
import Derived.LaidMore
import Derived.OpenShut
import Derived.Deep.Slices
import Derived.SliceStrings
import Derived.Stop.Joined
import Derived.WalkSmall
import Derived.Lib.SmallJoins
import Derived.SizedLaws
import Derived.Deep.DeepHandedRow
import Derived.Shelf.Vars
import Derived.Lay
namespace Go.Proofs.YtnagnaekcphpiaaDoor
open Go.ChangeShapes Go.WideShapes Go.ChangeAt Go.RowKit Go.Deep Go.Joins

theorem seatOwn : ownKnob Tryd.prog.godebug = none := by kernel_rfl
noncomputable def laidL7 : List (String × DataW Unit) := [("math/bits.deBruijn32tab", Rows.laid_math_bits_deBruijn32tab), ("math/bits.deBruijn64tab", Rows.laid_math_bits_deBruijn64tab), ("internal/strconv.uint64pow10", Rows.laid_internal_strconv_uint64pow10), ("unicode/utf8.acceptRanges", Rows.laid_unicode_utf8_acceptRanges), ("strconv.ErrRange", Rows.laid_strconv_ErrRange), ("strconv.ErrSyntax", Rows.laid_strconv_ErrSyntax), ("unicode/utf8.first", Rows.laid_unicode_utf8_first)]
theorem door_met7 (os : Os) (args : Array Value) : laidMetH Tryd.prog laidL7 ((World.laidAll Tryd.prog os laidL7).forCall (fun _ _ => 0) ⟨#[], args, []⟩).memory := by
  rw [MakeChecks.laidMetH_plain _ _ _ (by kernel_rfl)]; exact laidMet_laidAll _ (by kernel_rfl) (by kernel_rfl)
def LaidP (W : World) : Prop := ∃ m : Int, W.cell? ⟨0, 0, none⟩ = some (.int .i64 m)
theorem of_laidP {W : World} (_h : laidMetH Tryd.prog laidL7 W) (hs : W.ShapedOpen Tryd.prog) : LaidP W :=
  Go.Proofs.cell_of_shapedOpen_int (zero := #[.int .i64 0]) (t := 3) hs (of_decide_eq_true (by kernel_rfl)) (by kernel_rfl) rfl (by kernel_rfl) (by kernel_rfl) Tryd.underlying3
theorem seatLaidOut : laidOutB Tryd.prog = true := by kernel_rfl
theorem cellsT : Tryd.prog.cellsOf 25 = 3 := by kernel_rfl
theorem cellsU : Tryd.prog.cellsOf 23 = 1 := by kernel_rfl
section
variable {H : Type} {enc : TypeId × Value → H}
/-- Behind a call that turns nothing old the arguments read as they did. -/
theorem below_trodAll {W W' : World} (hb : Below W.heap.size W W') : ∀ (ts : List TypeId) (vs : List Value) (ds : List (DataW H)) (p : List MemPlace), (∀ t ∈ ts, Tryd.prog.readableRec t = true ∧ t < Tryd.prog.types.size) → (∀ x ∈ p, x.block < W.heap.size) →
    DataW.TrodAll enc Tryd.prog W 0 (fun _ => true) true ts vs ds p → DataW.TrodAll enc Tryd.prog W' 0 (fun b => decide (b < W.heap.size)) true ts vs ds p
  | [], [], [], _, _, _, h => h
  | t :: ts, v :: vs, d :: ds, ps, ht, hlt, h => by
    obtain ⟨p, q, h1, h2, rfl⟩ := h
    exact ⟨p, q, Below.trod seatLaidOut (ht t (by simp)).1 (ht t (by simp)).2 h1 hb (fun x hx => hlt x (by simp [hx])), below_trodAll hb ts vs ds q (fun t' h' => ht t' (by simp [h'])) (fun x hx => hlt x (by simp [hx])) h2, rfl⟩
end
section
variable {H : Type} {enc : TypeId × Value → H} {w : World} {spare : Nat → Bool} {held : Bool}
theorem fld_u64 {n : Nat} {v : Value} {y : DataW H × List MemPlace} (h : DataW.trod enc Tryd.prog w 0 spare held n 23 [v] = some y) : ∃ k : Nat, v = .int .u64 (k : Int) ∧ y.2 = [] ∧ k < 18446744073709551616 := by
  obtain ⟨k, e, hy, hw⟩ := DataW.trod_int Tryd.underlying23 h
  injection e with e
  have hb := bounds_u64 hw
  refine ⟨k.toNat, by rw [e, Int.toNat_of_nonneg hb.1], by rw [hy], by omega⟩
set_option maxRecDepth 100000 in
/-- A schedule by value, opened. -/
theorem open_C {r : Reach} {b0 : Nat} {v : Value} {d : DataW H} {p : List MemPlace} (hv : Value.okWide Tryd.prog w r b0 25 v) (h : DataW.Trod enc Tryd.prog w 0 spare held 25 v d p) :
    ∃ c : Cr, v = .agg #[.int .u64 c.mi, .int .u64 c.ho, .int .u64 c.da] ∧ U64 c ∧ p = [] := by
  obtain ⟨cs, rfl, hsz⟩ := okWide_struct Tryd.underlying25 hv
  obtain ⟨l⟩ := cs
  have h3 : Tryd.prog.cellsOf 23 = 1 := cellsU
  rw [cellsT] at hsz
  obtain ⟨fuel, hf⟩ := h
  obtain ⟨xs, n, _, hx, _, hlen, hg⟩ := DataW.trod_struct Tryd.underlying25 hf
  match l, hsz, xs, hlen with
  | [c0, c1, c2], _, [y0, y1, y2], _ =>
    have g0 := hg 0 _ rfl
    have g1 := hg 1 _ rfl
    have g2 := hg 2 _ rfl
    simp [Value.cells, h3] at g0 g1 g2
    obtain ⟨k0, rfl, e0, b0⟩ := fld_u64 g0
    obtain ⟨k1, rfl, e1, b1⟩ := fld_u64 g1
    obtain ⟨k2, rfl, e2, b2⟩ := fld_u64 g2
    simp only [Prod.mk.injEq] at hx
    exact ⟨⟨k0, k1, k2⟩, rfl, ⟨b0, b1, b2⟩, by simpa [e0, e1, e2] using hx.2⟩
end
theorem law_Matches (c : Cr) (t : Int) (w : World) (hX : LaidP w) (hu : U64 c) : Calls Tryd.prog 5 #[.agg #[.int .u64 c.mi, .int .u64 c.ho, .int .u64 c.da], .int .i64 t] w fun e w' => e = .returned (.bool true) ∧ Below w.heap.size w w' := by
  obtain ⟨m, hm⟩ := hX
  exact CronMatches_any c t m w hu hm
theorem law_NextIsLeast (c : Cr) (t : Int) (w : World) (hX : LaidP w) (hu : U64 c) : Calls Tryd.prog 6 #[.agg #[.int .u64 c.mi, .int .u64 c.ho, .int .u64 c.da], .int .i64 t] w fun e w' => e = .returned (.bool true) ∧ Below w.heap.size w w' := by
  obtain ⟨m, hm⟩ := hX
  exact CronNextIsLeast_any c t m w hu hm
theorem law_Formats (c : Cr) (w : World) (hX : LaidP w) (hu : U64 c) : Calls Tryd.prog 4 #[.agg #[.int .u64 c.mi, .int .u64 c.ho, .int .u64 c.da]] w fun e w' => e = .returned (.bool true) ∧ Below w.heap.size w w' := by
  obtain ⟨m, hm⟩ := hX
  exact CronFormats_any c m w hu hm
theorem law_Spans (c : Cr) (fr to : Int) (w : World) (hX : LaidP w) (hu : U64 c) (hfr : (Lit.int .i64 fr).wf = true) (hto : (Lit.int .i64 to).wf = true) : Calls Tryd.prog 7 #[.agg #[.int .u64 c.mi, .int .u64 c.ho, .int .u64 c.da], .int .i64 fr, .int .i64 to] w fun e w' => e = .returned (.bool true) ∧ Below w.heap.size w w' := by
  obtain ⟨m, hm⟩ := hX
  exact CronSpans_any c fr to m w hu (bounds_i64 hfr) (bounds_i64 hto) hm
theorem law_Weeks (c : Cr) (fr md to : Int) (w : World) (hX : LaidP w) (hu : U64 c) (hfr : (Lit.int .i64 fr).wf = true) (hmd : (Lit.int .i64 md).wf = true) (hto : (Lit.int .i64 to).wf = true) : Calls Tryd.prog 8 #[.agg #[.int .u64 c.mi, .int .u64 c.ho, .int .u64 c.da], .int .i64 fr, .int .i64 md, .int .i64 to] w fun e w' => e = .returned (.bool true) ∧ Below w.heap.size w w' := by
  obtain ⟨m, hm⟩ := hX
  exact CronWeeks_any c fr md to m w hu (bounds_i64 hfr) (bounds_i64 hto) (bounds_i64 hmd) hm
end Go.Proofs.YtnagnaekcphpiaaDoor
