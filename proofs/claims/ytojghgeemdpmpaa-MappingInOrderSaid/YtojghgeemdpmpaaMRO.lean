/- A run by value, opened. -/
import Derived.Test.YtojghgeemdpmpaaMDO
namespace Go.Proofs.Ytojghgeemdpmpaa
open Go.ChangeShapes Go.WideShapes Go.ChangeAt Go.RowKit Go.Deep Go.Joins

theorem cells_U8 : Try.prog.cellsOf 5 = 1 := by kernel_rfl
theorem cells_U16 : Try.prog.cellsOf 45 = 1 := by kernel_rfl
theorem cells_B : Try.prog.cellsOf 46 = 1 := by kernel_rfl
theorem cells_Run : Try.prog.cellsOf 48 = 11 := by kernel_rfl
section
variable {H : Type} {enc : TypeId × Value → H} {w : World} {spare : Nat → Bool} {held : Bool}
theorem u8_field {n : Nat} {v : Value} {y : DataW H × List MemPlace} (h : DataW.trod enc Try.prog w 0 spare held n 5 [v] = some y) : ∃ k : Int, v = .int .u8 k ∧ 0 ≤ k ∧ k ≤ 255 := by
  obtain ⟨k, e, _, hw⟩ := DataW.trod_int Try.underlying5 h
  injection e with e
  have hx : 0 ≤ k ∧ k ≤ 255 := by simpa [Lit.wf, IntKind.min, IntKind.max, IntKind.signed, IntKind.bits] using hw
  exact ⟨k, e, hx.1, hx.2⟩
theorem u16_field {n : Nat} {v : Value} {y : DataW H × List MemPlace} (h : DataW.trod enc Try.prog w 0 spare held n 45 [v] = some y) : ∃ k : Int, v = .int .u16 k ∧ 0 ≤ k ∧ k ≤ 65535 := by
  obtain ⟨k, e, _, hw⟩ := DataW.trod_int Try.underlying45 h
  injection e with e
  have hx : 0 ≤ k ∧ k ≤ 65535 := by simpa [Lit.wf, IntKind.min, IntKind.max, IntKind.signed, IntKind.bits] using hw
  exact ⟨k, e, hx.1, hx.2⟩
theorem open_bytes {fuel : Nat} {cs : List Value} {x : DataW H × List MemPlace} (h : DataW.trod enc Try.prog w 0 spare held fuel 46 cs = some x) :
    ∃ (A : Option Addr) (c : Nat) (l : List Int), cs = [.slice A l.length c] ∧ Reads w w.heap.size 1 A l.length (l.map fun v => .int .u8 v) ∧ l.length ≤ maxLen ∧ ∀ v ∈ l, 0 ≤ v ∧ v ≤ 255 := by
  rcases open_slice Try.underlying46 h with ⟨rfl, _⟩ | ⟨a, len, cap, m, n, D, Pl, rfl, _, hl, hm, hmm, _, hi⟩
  · exact ⟨none, 0, [], rfl, Reads.none_, Nat.zero_le _, by simp⟩
  · have hlm : len ≤ m := by rw [hmm]; split <;> omega
    obtain ⟨l, hll, hq⟩ := build_list (Q := fun i (x : Int) => w.cell? (a.add i) = some (.int .u8 x) ∧ 0 ≤ x ∧ x ≤ 255) len fun i hil => by
      obtain ⟨cs', hc, ht⟩ := hi i (by omega)
      rw [cells_U8, Nat.mul_one] at hc
      obtain ⟨h1, hcell⟩ := cells_split hc
      match cs', h1 with
      | [c0], _ =>
        obtain ⟨k0, rfl, b1, b2⟩ := u8_field ht
        refine ⟨k0, ?_, b1, b2⟩
        have := hcell 0 (by omega)
        rwa [add_of_add, Nat.add_zero] at this
    refine ⟨some a, cap, l, by rw [hll], ?_, by omega, fun v hv => ?_⟩
    · refine reads_of (by omega) (by simp) fun j u hu => ?_
      rw [List.getElem?_map] at hu
      cases hx : l[j]? with
      | none => rw [hx] at hu; cases hu
      | some v =>
        rw [hx] at hu
        injection hu with hu
        subst hu
        exact (hq j v hx).1
    · obtain ⟨i, hi', he⟩ := List.mem_iff_getElem.1 hv
      exact (hq i v (by rw [List.getElem?_eq_getElem hi', he])).2
theorem open_run {r : Reach} {b0 : Nat} {v : Value} {d : DataW H} {p : List MemPlace} (hv : Value.okWide Try.prog w r b0 48 v) (h : DataW.Trod enc Try.prog w 0 spare held 48 v d p) :
    ∃ (p0 p1 p2 a b f c m F : Int) (C : Nat) (Sa : Option Addr) (sc : Nat) (ss : List Int), v = .agg #[.int .i64 p0, .int .i64 p1, .int .i64 p2, .int .i64 a, .int .i64 b, .int .i64 f, .int .i64 c, .int .i64 m, .int .u8 C, .int .u16 F, .slice Sa ss.length sc] ∧
      0 ≤ F ∧ F ≤ 65535 ∧ C ≤ 255 ∧ Reads w w.heap.size 1 Sa ss.length (ss.map fun v => .int .u8 v) ∧ (∀ v ∈ ss, 0 ≤ v ∧ v ≤ 255) ∧ ss.length ≤ maxLen := by
  obtain ⟨cs, rfl, hsz⟩ := okWide_struct Try.underlying48 hv
  obtain ⟨q⟩ := cs
  rw [cells_Run] at hsz
  obtain ⟨fuel, hf0⟩ := h
  match q, hsz with
  | [c0, c1, c2, c3, c4, c5, c6, c7, c8, c9, c10], _ =>
    obtain ⟨xs, n', _, hx, _, hxl, hf⟩ := DataW.trod_struct Try.underlying48 hf0
    obtain ⟨y0, g0⟩ := field_of hf hxl 0 _ rfl cells_P
    obtain ⟨y1, g1⟩ := field_of hf hxl 1 _ rfl cells_R
    obtain ⟨y2, g2⟩ := field_of hf hxl 2 _ rfl cells_U8
    obtain ⟨y3, g3⟩ := field_of hf hxl 3 _ rfl cells_U16
    obtain ⟨y4, g4⟩ := field_of hf hxl 4 _ rfl cells_B
    obtain ⟨p0, p1, p2, rfl, rfl, rfl⟩ := open_P g0
    obtain ⟨a, b, f, c, m, rfl, rfl, rfl, rfl, rfl⟩ := open_R g1
    obtain ⟨k, rfl, hk0, hk1⟩ := u8_field g2
    obtain ⟨F, rfl, hF0, hF1⟩ := u16_field g3
    obtain ⟨Sa, sc, ss, hcs, hr, hl, hb⟩ := open_bytes g4
    have hcs2 : [c10] = [.slice Sa ss.length sc] := hcs
    injection hcs2 with hc10
    subst hc10
    have hk : (k.toNat : Int) = k := by omega
    refine ⟨p0, p1, p2, a, b, f, c, m, F, k.toNat, Sa, sc, ss, by rw [hk], hF0, hF1, by omega, hr, hb, hl⟩
end
end Go.Proofs.Ytojghgeemdpmpaa
