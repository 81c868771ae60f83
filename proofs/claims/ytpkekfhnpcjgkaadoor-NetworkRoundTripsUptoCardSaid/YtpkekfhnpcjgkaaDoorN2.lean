/- What the seven listed variables and the shape give the walks of the network; rules by value, opened. -/
import Derived.Test.YtpkekfhnpcjgkaaDoorN1
import Derived.Test.YtpkekfhnpcjgkaaDoorWD
import Derived.Deep.DeepHandedRow
import Derived.Shelf.Vars
import Derived.Lay
namespace Go.Proofs.YtpkekfhnpcjgkaaDoor
open Go.ChangeShapes Go.WideShapes Go.ChangeAt Go.RowKit

noncomputable def laidL7 : List (String × DataW Unit) := [("math/bits.deBruijn32tab", Rows.laid_math_bits_deBruijn32tab), ("math/bits.deBruijn64tab", Rows.laid_math_bits_deBruijn64tab), ("internal/strconv.uint64pow10", Rows.laid_internal_strconv_uint64pow10), ("unicode/utf8.acceptRanges", Rows.laid_unicode_utf8_acceptRanges), ("strconv.ErrRange", Rows.laid_strconv_ErrRange), ("strconv.ErrSyntax", Rows.laid_strconv_ErrSyntax), ("unicode/utf8.first", Rows.laid_unicode_utf8_first)]
theorem door_met7 (os : Os) (args : Array Value) : laidMetH Tryd.prog laidL7 ((World.laidAll Tryd.prog os laidL7).forCall (fun _ _ => 0) ⟨#[], args, []⟩).memory := by
  rw [MakeChecks.laidMetH_plain _ _ _ (by kernel_rfl)]; exact laidMet_laidAll _ (by kernel_rfl) (by kernel_rfl)
theorem of_laid7 {W : World} (h : laidMetH Tryd.prog laidL7 W) : LaidW W := by
  rw [MakeChecks.laidMetH_plain _ _ _ (by kernel_rfl)] at h
  have h2 : laidMet Tryd.prog (("internal/strconv.uint64pow10", Lib.tabData .u64 Lib.pow10Tab) :: [("unicode/utf8.acceptRanges", Rows.laid_unicode_utf8_acceptRanges), ("strconv.ErrRange", Rows.laid_strconv_ErrRange), ("strconv.ErrSyntax", Rows.laid_strconv_ErrSyntax), ("unicode/utf8.first", Rows.laid_unicode_utf8_first)]) W := h.tail.tail
  obtain ⟨a0, s0, hv0, hc0, hs0, hz0⟩ := laid_sentinel h2.tail.tail gRng gRngT Tryd.underlying81 row76 Tryd.underlying117 Tryd.underlying119 rfl rfl Tryd.underlying9 (by kernel_rfl) (by kernel_rfl)
  exact ⟨Lib.tabIs_of_head gTab gTabT Tryd.underlying121 Tryd.underlying66 (by kernel_rfl) (by kernel_rfl) h2, ⟨_, _, hv0⟩⟩
theorem of_laidS {W : World} (h : laidMetH Tryd.prog laidL7 W) (hs : W.ShapedOpen Tryd.prog) : LaidS W :=
  ⟨of_laid7 h, Go.Proofs.cell_of_shapedOpen_int (zero := #[.int .i64 0]) (t := 3) hs (of_decide_eq_true (by kernel_rfl)) (by kernel_rfl) rfl (by kernel_rfl) (by kernel_rfl) Tryd.underlying3⟩
section
variable {H : Type} {enc : TypeId × Value → H} {w : World} {spare : Nat → Bool} {held : Bool}
theorem fld_bool {n : Nat} {v : Value} {y : DataW H × List MemPlace} (h : DataW.trod enc Tryd.prog w 0 spare held n 4 [v] = some y) : ∃ k : Bool, v = .bool k ∧ y.2 = [] := by
  obtain ⟨k, e, hy⟩ := DataW.trod_bool Tryd.underlying4 h
  injection e with e
  exact ⟨k, e, by rw [hy]⟩
set_option maxRecDepth 100000 in
/-- A rule by value, opened. -/
theorem open_N {r : Reach} {b0 : Nat} {v : Value} {d : DataW H} {p : List MemPlace} (hv : Value.okWide Tryd.prog w r b0 42 v) (h : DataW.Trod enc Tryd.prog w 0 spare held 42 v d p) :
    ∃ (al : Bool) (ad bi lo hi : Int), v = .agg #[.bool al, .int .i64 ad, .int .i64 bi, .int .i64 lo, .int .i64 hi] ∧ p = [] := by
  obtain ⟨cs, rfl, hsz⟩ := okWide_struct Tryd.underlying42 hv
  obtain ⟨l⟩ := cs
  have hC : Tryd.prog.cellsOf 42 = 5 := by kernel_rfl
  have h3 : Tryd.prog.cellsOf 3 = 1 := by kernel_rfl
  have h4 : Tryd.prog.cellsOf 4 = 1 := by kernel_rfl
  rw [hC] at hsz
  obtain ⟨fuel, hf⟩ := h
  obtain ⟨xs, n, _, hx, _, hlen, hg⟩ := DataW.trod_struct Tryd.underlying42 hf
  match l, hsz, xs, hlen with
  | [c0, c1, c2, c3, c4], _, [y0, y1, y2, y3, y4], _ =>
    have g0 := hg 0 _ rfl
    have g1 := hg 1 _ rfl
    have g2 := hg 2 _ rfl
    have g3 := hg 3 _ rfl
    have g4 := hg 4 _ rfl
    simp [Value.cells, h3, h4] at g0 g1 g2 g3 g4
    obtain ⟨k0, rfl, e0⟩ := fld_bool g0
    obtain ⟨k1, rfl, e1, -⟩ := fld_int g1
    obtain ⟨k2, rfl, e2, -⟩ := fld_int g2
    obtain ⟨k3, rfl, e3, -⟩ := fld_int g3
    obtain ⟨k4, rfl, e4, -⟩ := fld_int g4
    simp only [Prod.mk.injEq] at hx
    exact ⟨_, _, _, _, _, rfl, by simpa [e0, e1, e2, e3, e4] using hx.2⟩
end
end Go.Proofs.YtpkekfhnpcjgkaaDoor
