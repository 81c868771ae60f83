/- What the listed variables give the walks of the hash; words for the joins. -/
import Derived.Test.YtjjmdgiaohmjkaaDoorHA
import Derived.Test.YtjjmdgiaohmjkaaDoorRows
import Derived.ProofKit
import Derived.LaidMore
import Derived.OpenShut
import Derived.Stop.Joined
import Derived.Stop.LaidErr
import Derived.Lib.LaidTab
import Derived.WalkSmall
import Derived.Deep.Slices
import Derived.Lib.SmallJoins
import Derived.SizedLaws
import Derived.SliceStrings
namespace Go.Proofs.YtjjmdgiaohmjkaaDoor
open Go.ChangeShapes Go.WideShapes Go.ChangeAt Go.RowKit Go.Deep Go.Joins

theorem seatOwn : ownKnob Tryd.prog.godebug = none := by kernel_rfl
noncomputable def laidL : List (String × DataW Unit) := [("math/bits.deBruijn32tab", Rows.laid_math_bits_deBruijn32tab), ("math/bits.deBruijn64tab", Rows.laid_math_bits_deBruijn64tab), ("internal/strconv.uint64pow10", Rows.laid_internal_strconv_uint64pow10), ("strconv.ErrRange", Rows.laid_strconv_ErrRange), ("strconv.ErrSyntax", Rows.laid_strconv_ErrSyntax)]
/-- The door's own heap meets the condition: three closed facts. -/
theorem door_met (os : Os) (args : Array Value) : laidMetH Tryd.prog laidL ((World.doorLaid Tryd.prog 400 os).forCall (fun _ _ => 0) ⟨#[], args, []⟩).memory :=
  laidMetH_of_parts3 (fuel := 8) (laidMet_of_run' 8 (by kernel_rfl) (by kernel_rfl)) (by kernel_rfl) (by kernel_rfl)
theorem gTab : Tryd.prog.globalNamed "internal/strconv.uint64pow10" = some 0 := by kernel_rfl
theorem gSyn : Tryd.prog.globalNamed "strconv.ErrSyntax" = some 1 := by kernel_rfl
theorem gB64 : Tryd.prog.globalNamed "math/bits.deBruijn64tab" = some 5 := by kernel_rfl
theorem gTabT : (Tryd.prog.globals[0]?).map (·.type) = some 98 := by kernel_rfl
theorem gSynT : (Tryd.prog.globals[1]?).map (·.type) = some 50 := by kernel_rfl
theorem gB64T : (Tryd.prog.globals[5]?).map (·.type) = some 114 := by kernel_rfl
theorem star76 : "*" ++ "errors.errorString" = "*errors.errorString" := by decide
theorem row76 (u : TypeId) (h : Tryd.prog.typeName? 3 u = some "*errors.errorString") : u = 110 :=
  typeName_ptr_named (nm := "errors.errorString") (by rw [star76]; kernel_rfl) (by kernel_rfl) (by decide) u (by rw [star76]; exact h)
def b64T : List Int := [0,1,56,2,57,49,28,3,61,58,42,50,38,29,17,4,62,47,59,36,45,43,51,22,53,39,33,30,24,18,12,5,63,55,48,27,60,41,37,16,46,35,44,21,52,32,23,11,54,26,40,15,34,20,31,10,25,14,19,9,13,8,7,6]
theorem of_laid {W : World} (h : laidMetH Tryd.prog laidL W) : LaidH W := by
  rw [MakeChecks.laidMetH_plain _ _ _ (by kernel_rfl)] at h
  have h1 : laidMet Tryd.prog (("math/bits.deBruijn64tab", Lib.tabData .u8 b64T) :: [("internal/strconv.uint64pow10", Rows.laid_internal_strconv_uint64pow10), ("strconv.ErrRange", Rows.laid_strconv_ErrRange), ("strconv.ErrSyntax", Rows.laid_strconv_ErrSyntax)]) W := h.tail
  have h2 : laidMet Tryd.prog (("internal/strconv.uint64pow10", Lib.tabData .u64 Lib.pow10Tab) :: [("strconv.ErrRange", Rows.laid_strconv_ErrRange), ("strconv.ErrSyntax", Rows.laid_strconv_ErrSyntax)]) W := h.tail.tail
  obtain ⟨a0, s0, hv0, hc0, hs0, hz0⟩ := laid_sentinel h2.tail.tail gSyn gSynT Tryd.underlying50 row76 Tryd.underlying110 Tryd.underlying112 rfl rfl Tryd.underlying9 (by kernel_rfl) (by kernel_rfl)
  have t64 : Lib.TabIs Tryd.prog W "math/bits.deBruijn64tab" .u8 b64T := Lib.tabIs_of_head gB64 gB64T Tryd.underlying114 Tryd.underlying5 (by kernel_rfl) (by kernel_rfl) h1
  exact ⟨Lib.tabIs_of_head gTab gTabT Tryd.underlying98 Tryd.underlying22 (by kernel_rfl) (by kernel_rfl) h2, t64.cell gB64 15 (by decide), ⟨_, _, World.var?_cell gSyn hv0 0⟩⟩
theorem seatLaidOut : laidOutB Tryd.prog = true := by kernel_rfl
section
variable {H : Type} {enc : TypeId × Value → H}
/-- Behind a call that turns nothing old the arguments read as they did. -/
theorem below_trodAll {W W' : World} (hb : Below W.heap.size W W') : ∀ (ts : List TypeId) (vs : List Value) (ds : List (DataW H)) (p : List MemPlace), (∀ t ∈ ts, Tryd.prog.readableRec t = true ∧ t < Tryd.prog.types.size) → (∀ x ∈ p, x.block < W.heap.size) →
    DataW.TrodAll enc Tryd.prog W 0 (fun _ => true) true ts vs ds p → DataW.TrodAll enc Tryd.prog W' 0 (fun b => decide (b < W.heap.size)) true ts vs ds p
  | [], [], [], _, _, _, h => h
  | t :: ts, v :: vs, d :: ds, ps, ht, hlt, h => by
    obtain ⟨p, q, h1, h2, rfl⟩ := h
    exact ⟨p, q, Below.trod seatLaidOut (ht t (by simp)).1 (ht t (by simp)).2 h1 hb (fun x hx => hlt x (by simp [hx])), below_trodAll hb ts vs ds q (fun t' h' => ht t' (by simp [h'])) (fun x hx => hlt x (by simp [hx])) h2, rfl⟩
end
section
variable {H : Type} {enc : TypeId × Value → H} {w : World} {spare : Nat → Bool} {held : Bool}
theorem reads_of {a : Addr} {n size : Nat} {xs : List Value} (hs : 0 < size) (hl : xs.length = n * size) (h : ∀ j u, xs[j]? = some u → w.cell? (a.add j) = some u) : Reads w w.heap.size size (some a) n xs := by
  refine ⟨hl, fun hn => ?_⟩
  have h0 : 0 < xs.length := by rw [hl]; exact Nat.mul_pos hn hs
  have hc := h 0 _ (List.getElem?_eq_getElem h0)
  rw [show a.add 0 = a from by simp [Addr.add]] at hc
  obtain ⟨b, o, s⟩ := a
  have hsp : s = none := World.cell?_spot hc
  subst hsp
  refine ⟨b, o, rfl, block_lt_of_cell hc, fun j u hu => ?_⟩
  have := h j u hu
  rwa [Addr.add_lit] at this
theorem cellsS : Tryd.prog.cellsOf 9 = 1 := by kernel_rfl
/-- A list of strings, opened. -/
theorem open_strl {v : Value} {d : DataW H} {p : List MemPlace} (hv : ∃ a n c, v = .slice a n c) (h : DataW.Trod enc Tryd.prog w 0 spare held 32 v d p) :
    ∃ (A : Option Addr) (c : Nat) (l : List ByteArray), v = .slice A l.length c ∧ StrL w w.heap.size A l ∧ l.length ≤ maxLen ∧ ∀ t ∈ l, t.size ≤ maxLen := by
  obtain ⟨a0, n0, c0, rfl⟩ := hv
  obtain ⟨fuel, hf⟩ := h
  rcases open_strings Tryd.underlying32 Tryd.underlying9 cellsS hf with ⟨e, _⟩ | ⟨a, len, cap, ss, e, _, hl, hm, hss, _, hi, hz⟩
  · have e : Value.slice a0 n0 c0 = .slice none 0 0 := by simpa [Value.cells] using e
    rw [e]
    exact ⟨none, 0, [], rfl, Reads.none_, Nat.zero_le _, by simp⟩
  · have e : Value.slice a0 n0 c0 = .slice (some a) len cap := by simpa [Value.cells] using e
    rw [e]
    have hlm : len ≤ ss.length := by rw [hss]; split <;> omega
    have hlt : (ss.take len).length = len := by rw [List.length_take]; omega
    refine ⟨some a, cap, ss.take len, by rw [hlt], ?_, by omega, fun t ht => hz t (List.mem_of_mem_take ht)⟩
    refine reads_of (by omega) (by simp [svals]) fun j u hu => ?_
    have hj : j < len := by
      have := (List.getElem?_eq_some_iff.1 hu).1
      simp [svals] at this; omega
    unfold svals at hu
    rw [List.getElem?_map, List.getElem?_take_of_lt hj] at hu
    rw [hi j (by omega), ← hu, List.getElem?_eq_getElem (by omega : j < ss.length), List.getD_eq_getElem?_getD, List.getElem?_eq_getElem (by omega : j < ss.length)]
    rfl
end
end Go.Proofs.YtjjmdgiaohmjkaaDoor
