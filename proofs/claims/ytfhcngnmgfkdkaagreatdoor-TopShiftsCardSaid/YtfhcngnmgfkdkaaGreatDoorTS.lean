/- Arguments opened; what the listed variables give; the law in the words of the join. -/
import Derived.Test.YtfhcngnmgfkdkaaGreatDoorTF
import Derived.Test.YtfhcngnmgfkdkaaGreatDoorTR
import Derived.Test.YtfhcngnmgfkdkaaGreatDoorRows
import Derived.ProofKit
import Derived.LaidMore
import Derived.OpenShut
import Derived.Stop.Joined
import Derived.Stop.LaidErr
import Derived.Lib.LaidTab
import Derived.WalkSmall
import Derived.Deep.Slices
import Derived.Lib.SmallJoins
import Derived.SizedLaws
namespace Go.Proofs.YtfhcngnmgfkdkaaGreatDoor
open Go.ChangeShapes Go.WideShapes Go.ChangeAt Go.RowKit Go.Deep

theorem seatOwn : ownKnob Tryz.prog.godebug = none := by kernel_rfl
noncomputable def laidL : List (String × DataW Unit) := [("math/bits.deBruijn32tab", Rows.laid_math_bits_deBruijn32tab), ("math/bits.deBruijn64tab", Rows.laid_math_bits_deBruijn64tab), ("internal/strconv.uint64pow10", Rows.laid_internal_strconv_uint64pow10), ("strconv.ErrRange", Rows.laid_strconv_ErrRange), ("strconv.ErrSyntax", Rows.laid_strconv_ErrSyntax), ("faas/code.shapes", Rows.laid_faas_code_shapes)]
theorem gSh : Tryz.prog.globalNamed "faas/code.shapes" = some 0 := by kernel_rfl
theorem gShT : (Tryz.prog.globals[0]?).map (·.type) = some 242 := by kernel_rfl
/-- The rows of the table of shapes. -/
def shD : List (List Lit) := [
  [.string [], .bool false, .bool false, .bool false, .int .i64 0, .int .i64 0],
  [.string [110, 117, 108, 108], .bool false, .bool false, .bool false, .int .i64 0, .int .i64 1],
  [.string [98, 111, 111, 108], .bool true, .bool false, .bool false, .int .i64 0, .int .i64 1],
  [.string [105, 110, 116], .bool true, .bool false, .bool false, .int .i64 0, .int .i64 1],
  [.string [115, 116, 114], .bool false, .bool true, .bool false, .int .i64 0, .int .i64 1],
  [.string [108, 111, 97, 100], .bool true, .bool false, .bool false, .int .i64 0, .int .i64 1],
  [.string [115, 116, 111, 114, 101], .bool true, .bool false, .bool false, .int .i64 1, .int .i64 0],
  [.string [112, 111, 112], .bool false, .bool false, .bool false, .int .i64 1, .int .i64 0],
  [.string [117, 110, 97, 114, 121], .bool false, .bool true, .bool false, .int .i64 1, .int .i64 1],
  [.string [98, 105, 110, 97, 114, 121], .bool false, .bool true, .bool false, .int .i64 2, .int .i64 1],
  [.string [105, 110, 100, 101, 120], .bool false, .bool false, .bool false, .int .i64 2, .int .i64 1],
  [.string [108, 105, 115, 116], .bool true, .bool false, .bool false, .int .i64 (-1), .int .i64 1],
  [.string [109, 97, 112], .bool true, .bool false, .bool true, .int .i64 (-1), .int .i64 1],
  [.string [106, 117, 109, 112], .bool true, .bool false, .bool false, .int .i64 0, .int .i64 0],
  [.string [102, 97, 108, 115, 101], .bool true, .bool false, .bool false, .int .i64 1, .int .i64 0],
  [.string [116, 101, 115, 116], .bool false, .bool false, .bool false, .int .i64 1, .int .i64 1],
  [.string [100, 117, 112], .bool false, .bool false, .bool false, .int .i64 1, .int .i64 2],
  [.string [99, 97, 108, 108], .bool true, .bool false, .bool false, .int .i64 (-1), .int .i64 1],
  [.string [98, 117, 105, 108, 116], .bool true, .bool true, .bool false, .int .i64 (-1), .int .i64 1],
  [.string [104, 111, 115, 116], .bool true, .bool true, .bool false, .int .i64 (-1), .int .i64 1],
  [.string [114, 101, 116, 117, 114, 110], .bool false, .bool false, .bool false, .int .i64 1, .int .i64 0]]
theorem shD_datum : Rows.laid_faas_code_shapes (H := Unit) = .agg (shD.map fun r => .agg (r.map .lit)) := by kernel_rfl
def litS : Lit → Sy.SV
  | .bool b => .bo b
  | .int k n => .it k n
  | .string l => .st l
  | _ => .nf
def plainL : Lit → Bool
  | .bool _ | .int _ _ | .string _ => true
  | _ => false
theorem shp_flat : Sy.shp = shD.flatten.map litS := by kernel_rfl
theorem shD_plain : shD.flatten.all plainL = true := by kernel_rfl
theorem shD_six : (shD.all fun r => Nat.beq r.length 6) = true := by kernel_rfl
theorem den_lit (E : Sy.Env) {l : Lit} (h : plainL l = true) : Sy.den E (litS l) = some l.value := by
  cases l <;> first | rfl | cases h
theorem denL_lits (E : Sy.Env) : ∀ {l : List Lit}, l.all plainL = true → Sy.denL E (l.map litS) = some (l.map Lit.value)
  | [], _ => rfl
  | x :: l, h => by
    simp only [List.all_cons, Bool.and_eq_true] at h
    simp only [List.map_cons, Sy.denL, den_lit E h.1, denL_lits E h.2]
theorem lits_one : ∀ {l : List Lit}, l.all plainL = true → (l.map litS).all Sy.SV.one = true
  | [], _ => rfl
  | x :: l, h => by
    simp only [List.all_cons, Bool.and_eq_true] at h
    simp only [List.map_cons, List.all_cons, lits_one h.2, Bool.and_true]
    cases x <;> first | rfl | cases h.1
section
variable {H : Type} {enc : TypeId × Value → H} {w : World} {spare : Nat → Bool} {held : Bool}
set_option maxRecDepth 100000 in
theorem fld_lit {n : Nat} {t : TypeId} {v : Value} {l : Lit} {p : List MemPlace} (ht : Tryz.prog.underlying t = some .bool ∨ Tryz.prog.underlying t = some (.int .i64) ∨ Tryz.prog.underlying t = some .string)
    (h : DataW.trod enc Tryz.prog w 0 spare held n t [v] = some (.lit l, p)) : v = l.value := by
  rcases ht with ht | ht | ht
  · obtain ⟨b, e, e2⟩ := DataW.trod_bool ht h
    injection e with e
    injection e2 with e2
    injection e2 with e2
    rw [e, e2]
    rfl
  · obtain ⟨k, e, e2, _⟩ := DataW.trod_int ht h
    injection e with e
    injection e2 with e2
    injection e2 with e2
    rw [e, e2]
    rfl
  · obtain ⟨s, e, e2, _⟩ := DataW.trod_string ht h
    injection e with e
    injection e2 with e2
    injection e2 with e2
    rw [e, e2]
    simp [Lit.value]
set_option maxRecDepth 100000 in
theorem shape_row {n : Nat} {cs : List Value} {r : List Lit} {p : List MemPlace} (h6 : r.length = 6) (h : DataW.trod enc Tryz.prog w 0 spare held n 241 cs = some (.agg (r.map .lit), p)) : cs = r.map Lit.value := by
  obtain ⟨xs, m, _, hx, hsz, hlen, hg⟩ := DataW.trod_struct Tryz.underlying241 h
  have hC : Tryz.prog.cellsOf 241 = 6 := by kernel_rfl
  have hS : Tryz.prog.cellsOf 9 = 1 := by kernel_rfl
  have hB : Tryz.prog.cellsOf 4 = 1 := by kernel_rfl
  have hI : Tryz.prog.cellsOf 3 = 1 := by kernel_rfl
  rw [hC] at hsz
  injection hx with hx _
  injection hx with hx
  match cs, hsz, xs, hlen, r, h6 with
  | [c0, c1, c2, c3, c4, c5], _, [y0, y1, y2, y3, y4, y5], _, [l0, l1, l2, l3, l4, l5], _ =>
    simp only [List.map_cons, List.map_nil, List.cons.injEq, and_true] at hx
    obtain ⟨e0, e1, e2, e3, e4, e5⟩ := hx
    have g0 := hg 0 _ rfl
    have g1 := hg 1 _ rfl
    have g2 := hg 2 _ rfl
    have g3 := hg 3 _ rfl
    have g4 := hg 4 _ rfl
    have g5 := hg 5 _ rfl
    simp [hS, hB, hI] at g0 g1 g2 g3 g4 g5
    obtain ⟨d0, q0⟩ := y0
    obtain ⟨d1, q1⟩ := y1
    obtain ⟨d2, q2⟩ := y2
    obtain ⟨d3, q3⟩ := y3
    obtain ⟨d4, q4⟩ := y4
    obtain ⟨d5, q5⟩ := y5
    simp only at e0 e1 e2 e3 e4 e5
    subst e0 e1 e2 e3 e4 e5
    have bS := Tryz.underlying9
    have bB := Tryz.underlying4
    have bI := Tryz.underlying3
    rw [fld_lit (.inr (.inr bS)) g0, fld_lit (.inl bB) g1, fld_lit (.inl bB) g2, fld_lit (.inl bB) g3, fld_lit (.inr (.inl bI)) g4, fld_lit (.inr (.inl bI)) g5]
    rfl
end
theorem rows_flat : ∀ (D : List (List Lit)) (cs : List Value), cs.length = 6 * D.length → (∀ (i : Nat) (r : List Lit), D[i]? = some r → (cs.drop (6 * i)).take 6 = r.map Lit.value) → cs = D.flatten.map Lit.value
  | [], cs, h, _ => by simpa using List.eq_nil_of_length_eq_zero (by simpa using h)
  | r :: D, cs, h, k => by
    have h0 := k 0 r rfl
    simp only [Nat.mul_zero, List.drop_zero] at h0
    have ih := rows_flat D (cs.drop 6) (by simp only [List.length_cons] at h; simp; omega) fun i r hr => by
      have := k (i + 1) r (by simpa using hr)
      rw [List.drop_drop]
      rwa [show 6 * (i + 1) = 6 + 6 * i by omega] at this
    rw [List.flatten_cons, List.map_append, ← h0, ← ih, List.take_append_drop]
/-- The table of shapes is as the symbolic machine takes it. -/
def ShpW (w : World) : Prop := ∃ arr ty, w.heap[0]? = some (.cells arr ty (0, 0)) ∧ Sy.CellsOk Sy.E0 Sy.shp arr
theorem ShpW.below {B : Nat} {w w' : World} (h : ShpW w) (hb : Below B w w') (hB : 0 < B) : ShpW w' := by
  obtain ⟨arr, ty, h1, h2⟩ := h
  exact ⟨arr, ty, (hb.block 0 hB).trans h1, h2⟩
theorem ShpW.size {w : World} (h : ShpW w) : 0 < w.heap.size := by
  obtain ⟨arr, ty, h1, _⟩ := h
  exact (Array.getElem?_eq_some_iff.1 h1).1
set_option maxRecDepth 100000 in
theorem shapes_of {W : World} (h : laidMet Tryz.prog [("faas/code.shapes", Rows.laid_faas_code_shapes)] W) : ShpW W := by
  obtain ⟨ps, ⟨g', t', cs, fuel, p, q, hg', ht', hvar, hd, hq, hps⟩, _, hrow⟩ := h
  obtain rfl := Option.some.inj (gSh.symm.trans hg')
  obtain rfl := Option.some.inj (gShT.symm.trans ht')
  rw [shD_datum] at hd
  obtain ⟨xs, m, _, hx, hlen, hxl, hi⟩ := DataW.trod_array Tryz.underlying242 hd
  have hC : Tryz.prog.cellsOf 242 = 126 := by kernel_rfl
  have hE : Tryz.prog.cellsOf 241 = 6 := by kernel_rfl
  rw [hC] at hlen
  rw [hE] at hi
  injection hx with hx _
  injection hx with hx
  have hD : shD.length = 21 := by kernel_rfl
  have hcs : cs.toList = shD.flatten.map Lit.value := by
    refine rows_flat shD cs.toList (by rw [hD]; exact hlen) fun i r hr => ?_
    have hin : i < 21 := by rw [← hD]; exact (List.getElem?_eq_some_iff.1 hr).1
    have h6 : r.length = 6 := by
      have := List.all_eq_true.1 shD_six r (List.mem_of_getElem? hr)
      exact Nat.eq_of_beq_eq_true this
    have h1 := hi i hin
    have hlt : i < xs.length := by omega
    rw [List.getElem?_eq_getElem hlt] at h1
    have h2 : (xs.map (·.1))[i]? = (shD.map fun r => (DataW.agg (r.map .lit) : DataW Unit))[i]? := by rw [hx]
    rw [List.getElem?_map, List.getElem?_map, hr, List.getElem?_eq_getElem hlt] at h2
    simp only [Option.map_some, Option.some.injEq] at h2
    obtain ⟨d, pl, hdp⟩ : ∃ d pl, xs[i] = (d, pl) := ⟨_, _, rfl⟩
    rw [hdp] at h1 h2
    simp only at h2
    subst h2
    rw [Nat.mul_comm] at h1
    exact shape_row h6 h1
  have hv : W.heap[0]?.bind (fun o => match o with | .cells c _ _ => some c | _ => none) = some cs := by
    have := hvar
    unfold World.var? at this
    rw [gSh] at this
    simp only [Option.bind_some] at this
    cases hh : W.heap[0]? with
    | none => rw [hh] at this; cases this
    | some o => rw [hh] at this; cases o <;> first | exact this | cases this
  have hin : MemPlace.cell 0 0 ∈ ps := by
    rw [hps]
    refine List.mem_append.2 (.inl (List.mem_append.2 (.inl ?_)))
    have hz : cs.size = 126 := by simpa using hlen
    rw [hz]
    simp [MemPlace.row]
  obtain ⟨⟨c, ty, hc⟩, _⟩ := hrow 0 0 hin
  rw [hc] at hv
  simp only [Option.bind_some, Option.some.injEq] at hv
  subst hv
  refine ⟨c, ty, hc, ?_⟩
  have he : c = (shD.flatten.map Lit.value).toArray := by
    rw [← hcs]
  rw [he, shp_flat]
  exact Sy.cellsOk_of' (denL_lits _ shD_plain) (lits_one shD_plain)
theorem of_laid {W : World} (h : laidMetH Tryz.prog laidL W) : ShpW W := by
  rw [MakeChecks.laidMetH_plain _ _ _ (by kernel_rfl)] at h
  exact shapes_of h.tail.tail.tail.tail.tail
theorem seatLaidOut : laidOutB Tryz.prog = true := by kernel_rfl
theorem law_shifts (w0 w1 w2 bk : Int) (h0 : 0 ≤ w0 ∧ w0 ≤ 65535) (h1 : 0 ≤ w1 ∧ w1 ≤ 65535) (h2 : 0 ≤ w2 ∧ w2 ≤ 65535) (h3 : 0 ≤ bk ∧ bk ≤ 255) (id : ByteArray) (hid : id.size ≤ 9223372036854775807)
    (L : Option Addr) (c : Nat) (l : List (Bool × Int)) (hll : l.length ≤ 9223372036854775807) (ht : ∀ p ∈ l, 0 ≤ p.2 ∧ p.2 ≤ 255) (w : World) (hL : Reads w w.heap.size 2 L l.length (l.flatMap btc)) (hX : ShpW w) :
    Calls Tryz.prog 3 #[.agg #[.int .u16 w0, .int .u16 w1, .int .u16 w2], .int .u8 bk, .string id, .slice L l.length c] w fun e w' => e = .returned (.bool true) ∧ Below w.heap.size w w' :=
  TopShifts_any w0 w1 w2 bk h0 h1 h2 h3 id hid L c l hll ht w hL fun W hb => by
    obtain ⟨arr, ty, h4, h5⟩ := hX.below hb hX.size
    exact Sy.double_any W arr ty h4 h5
end Go.Proofs.YtfhcngnmgfkdkaaGreatDoor
