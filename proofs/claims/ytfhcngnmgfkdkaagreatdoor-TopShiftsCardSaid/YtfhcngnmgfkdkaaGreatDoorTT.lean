/- The arguments of TopShifts, opened. -/
import Derived.Test.YtfhcngnmgfkdkaaGreatDoorTS
namespace Go.Proofs.YtfhcngnmgfkdkaaGreatDoor
open Go.ChangeShapes Go.WideShapes Go.ChangeAt Go.RowKit Go.Deep

set_option maxRecDepth 100000 in
/-- The door's own heap meets the condition: three closed facts. -/
theorem door_met (os : Os) (args : Array Value) : laidMetH Tryz.prog laidL ((World.doorLaid Tryz.prog 400 os).forCall (fun _ _ => 0) ⟨#[], args, []⟩).memory :=
  laidMetH_of_parts3 (fuel := 8) (laidMet_of_run' 8 (by kernel_rfl) (by kernel_rfl)) (by kernel_rfl) (by kernel_rfl)
section
variable {H : Type} {enc : TypeId × Value → H}
/-- Behind a call that turns nothing old the arguments read as they did. -/
theorem below_trodAll {W W' : World} (hb : Below W.heap.size W W') : ∀ (ts : List TypeId) (vs : List Value) (ds : List (DataW H)) (p : List MemPlace), (∀ t ∈ ts, Tryz.prog.readableRec t = true ∧ t < Tryz.prog.types.size) → (∀ x ∈ p, x.block < W.heap.size) →
    DataW.TrodAll enc Tryz.prog W 0 (fun _ => true) true ts vs ds p → DataW.TrodAll enc Tryz.prog W' 0 (fun b => decide (b < W.heap.size)) true ts vs ds p
  | [], [], [], _, _, _, h => h
  | t :: ts, v :: vs, d :: ds, ps, ht, hlt, h => by
    obtain ⟨p, q, h1, h2, rfl⟩ := h
    exact ⟨p, q, Below.trod seatLaidOut (ht t (by simp)).1 (ht t (by simp)).2 h1 hb (fun x hx => hlt x (by simp [hx])), below_trodAll hb ts vs ds q (fun t' h' => ht t' (by simp [h'])) (fun x hx => hlt x (by simp [hx])) h2, rfl⟩
end
theorem build_list {α : Type} {Q : Nat → α → Prop} : ∀ n : Nat, (∀ i, i < n → ∃ x, Q i x) → ∃ l : List α, l.length = n ∧ ∀ i x, l[i]? = some x → Q i x
  | 0, _ => ⟨[], rfl, by simp⟩
  | n + 1, h => by
    obtain ⟨l, hl, hq⟩ := build_list n fun i hi => h i (by omega)
    obtain ⟨x, hx⟩ := h n (by omega)
    refine ⟨l ++ [x], by simp [hl], fun i y hy => ?_⟩
    rw [List.getElem?_append] at hy
    split at hy
    · exact hq i y hy
    · have : i - l.length = 0 := by
        rcases Nat.eq_zero_or_pos (i - l.length) with h0 | h0
        · exact h0
        · rw [List.getElem?_eq_none (by simp; omega)] at hy; cases hy
      rw [this] at hy
      simp at hy
      subst hy
      rw [show i = n from by omega]
      exact hx
section
variable {H : Type} {enc : TypeId × Value → H} {w : World} {spare : Nat → Bool} {held : Bool}
theorem cells_split {b : Addr} {n : Nat} {cs : List Value} (h : w.cells? 0 b n = some cs) : cs.length = n ∧ ∀ j, j < n → w.cell? (b.add j) = cs[j]? := by
  obtain ⟨_, h1, h2⟩ := World.cells?_some h
  exact ⟨h1, h2⟩
theorem okWide_array {P : Program} {r : Reach} {base : Nat} {t e : TypeId} {n : Nat} {v : Value} (ht : P.underlying t = some (.array n e)) (h : Value.okWide P w r base t v) : ∃ cs, v = .agg cs ∧ cs.size = P.cellsOf t := by
  simp only [Value.okWide, ht] at h
  obtain ⟨cs, h1, h2, _⟩ := h
  exact ⟨cs, h1, h2⟩
set_option maxRecDepth 100000 in
/-- The three weights, opened. -/
theorem open_ws {r : Reach} {b0 : Nat} {v : Value} {d : DataW H} {p : List MemPlace} (hv : Value.okWide Tryz.prog w r b0 23 v) (h : DataW.Trod enc Tryz.prog w 0 spare held 23 v d p) :
    ∃ a b c : Int, v = .agg #[.int .u16 a, .int .u16 b, .int .u16 c] ∧ (0 ≤ a ∧ a ≤ 65535) ∧ (0 ≤ b ∧ b ≤ 65535) ∧ (0 ≤ c ∧ c ≤ 65535) := by
  obtain ⟨cs, rfl, hsz⟩ := okWide_array Tryz.underlying23 hv
  obtain ⟨l⟩ := cs
  have hC : Tryz.prog.cellsOf 23 = 3 := by kernel_rfl
  have h1 : Tryz.prog.cellsOf 22 = 1 := by kernel_rfl
  rw [hC] at hsz
  obtain ⟨fuel, hf⟩ := h
  obtain ⟨xs, m, _, _, _, hlen, hi⟩ := DataW.trod_array Tryz.underlying23 hf
  rw [h1] at hi
  match l, hsz, xs, hlen with
  | [c0, c1, c2], _, [y0, y1, y2], _ =>
    have g0 := hi 0 (by omega)
    have g1 := hi 1 (by omega)
    have g2 := hi 2 (by omega)
    simp [Value.cells] at g0 g1 g2
    obtain ⟨k0, e0, _, w0⟩ := DataW.trod_int Tryz.underlying22 g0
    obtain ⟨k1, e1, _, w1⟩ := DataW.trod_int Tryz.underlying22 g1
    obtain ⟨k2, e2, _, w2⟩ := DataW.trod_int Tryz.underlying22 g2
    injection e0 with e0
    injection e1 with e1
    injection e2 with e2
    subst e0 e1 e2
    exact ⟨k0, k1, k2, rfl, bounds_u16 w0, bounds_u16 w1, bounds_u16 w2⟩
set_option maxRecDepth 100000 in
/-- The two cells of a moment, opened. -/
theorem bt_trod {cs' : List Value} {n : Nat} {y : DataW H × List MemPlace} (h3 : cs'.length = 2) (ht : DataW.trod enc Tryz.prog w 0 spare held n 40 cs' = some y) :
    ∃ x : Bool × Int, cs' = btc x ∧ 0 ≤ x.2 ∧ x.2 ≤ 255 := by
  have hB : Tryz.prog.cellsOf 4 = 1 := by kernel_rfl
  have hU : Tryz.prog.cellsOf 5 = 1 := by kernel_rfl
  match cs', h3 with
  | [c0, c1], _ =>
    obtain ⟨xs, n', _, _, _, hxl, hf⟩ := DataW.trod_struct Tryz.underlying40 ht
    match xs, hxl with
    | [y0, y1], _ =>
      have g0 := hf 0 _ rfl
      have g1 := hf 1 _ rfl
      simp [hB, hU] at g0 g1
      obtain ⟨b, e0, _⟩ := DataW.trod_bool Tryz.underlying4 g0
      obtain ⟨k, e1, _, w1⟩ := DataW.trod_int Tryz.underlying5 g1
      injection e0 with e0
      injection e1 with e1
      subst e0 e1
      exact ⟨(b, k), rfl, bounds_u8 w1⟩
set_option maxRecDepth 100000 in
theorem open_bts {v : Value} {d : DataW H} {p : List MemPlace} (hv : ∃ a n c, v = .slice a n c) (h : DataW.Trod enc Tryz.prog w 0 spare held 24 v d p) :
    ∃ (A : Option Addr) (c : Nat) (l : List (Bool × Int)), v = .slice A l.length c ∧ Reads w w.heap.size 2 A l.length (l.flatMap btc) ∧ l.length ≤ 9223372036854775807 ∧ ∀ x ∈ l, 0 ≤ x.2 ∧ x.2 ≤ 255 := by
  have hC : Tryz.prog.cellsOf 40 = 2 := by kernel_rfl
  obtain ⟨a0, n0, c0, rfl⟩ := hv
  obtain ⟨fuel, hf⟩ := h
  rcases open_slice Tryz.underlying24 hf with ⟨e, _⟩ | ⟨a, len, cap, m, n, D, Pl, e, _, hl, hm, hmm, _, hi⟩
  · have e : Value.slice a0 n0 c0 = .slice none 0 0 := by simpa [Value.cells] using e
    rw [e]
    exact ⟨none, 0, [], rfl, Reads.none_, Nat.zero_le _, by simp⟩
  · have e : Value.slice a0 n0 c0 = .slice (some a) len cap := by simpa [Value.cells] using e
    rw [e]
    have hlm : len ≤ m := by rw [hmm]; split <;> omega
    obtain ⟨l, hll, hq⟩ := build_list (Q := fun i (s : Bool × Int) => (0 ≤ s.2 ∧ s.2 ≤ 255) ∧ w.cell? (a.add (i * 2)) = some (.bool s.1) ∧ w.cell? (a.add (i * 2 + 1)) = some (.int .u8 s.2)) len fun i hil => by
      obtain ⟨cs', hc, ht⟩ := hi i (by omega)
      rw [hC] at hc
      obtain ⟨h4, hcell⟩ := cells_split hc
      obtain ⟨s, rfl, hz⟩ := bt_trod h4 ht
      have e0 := hcell 0 (by omega)
      have e1 := hcell 1 (by omega)
      rw [add_of_add] at e0 e1
      exact ⟨s, hz, e0, e1⟩
    have hlen : l.length ≤ 9223372036854775807 := by
      have : maxLen = 9223372036854775807 := by decide
      omega
    refine ⟨some a, cap, l, by rw [hll], ⟨flat_len btc_len l, fun hn => ?_⟩, hlen, fun s hs => ?_⟩
    · obtain ⟨_, f0, -⟩ := hq 0 _ (List.getElem?_eq_getElem hn)
      obtain ⟨b, o, sp⟩ := a
      rw [Nat.zero_mul, show (⟨b, o, sp⟩ : Addr).add 0 = ⟨b, o, sp⟩ from by simp [Addr.add]] at f0
      have hsp : sp = none := World.cell?_spot f0
      subst hsp
      refine ⟨b, o, rfl, block_lt_of_cell f0, fun j u hu => ?_⟩
      have hj : j < l.length * 2 := by
        rw [← flat_len btc_len l]
        exact (List.getElem?_eq_some_iff.1 hu).1
      have hi2 : j / 2 < l.length := by omega
      have hx := List.getElem?_eq_getElem hi2
      have hfl := flat_get btc_len l (j / 2) (j % 2) _ hx (by omega)
      rw [show j / 2 * 2 + j % 2 = j from by omega] at hfl
      rw [hfl] at hu
      obtain ⟨_, f1, f2⟩ := hq _ _ hx
      rw [Addr.add_lit] at f1 f2
      rcases Nat.mod_two_eq_zero_or_one j with h0 | h0
      · rw [h0] at hu
        simp only [btc, List.getElem?_cons_zero, Option.some.injEq] at hu
        subst hu
        exact cell_at f1 (by omega)
      · rw [h0] at hu
        simp only [btc, List.getElem?_cons_succ, List.getElem?_cons_zero, Option.some.injEq] at hu
        subst hu
        exact cell_at f2 (by omega)
    · obtain ⟨k, hk⟩ := List.getElem?_of_mem hs
      exact (hq k s hk).1
end
end Go.Proofs.YtfhcngnmgfkdkaaGreatDoor
