/- The walks of the delays. -/
import Derived.Test.YtojghgeemdpmpaaMBA
import Derived.Laws.EntriesVeiled
namespace Go.Proofs.Ytojghgeemdpmpaa.BO
open Go.RowKit

theorem cell_far (w : World) (p a : Addr) (v : Value) (h : p.block ≠ a.block) : (w.setCell p v).cell? a = w.cell? a := World.cell?_setCell_other w p a v (fun e => h (by rw [e]))
/-- A cell of the caller's own, written by a closure: below it nothing has turned. -/
structure CellIs (w0 w : World) (bn : Nat) (x : Int) : Prop where
  low : Below bn w0 w
  cell : w.cell? ⟨bn, 0, none⟩ = some (.int .i64 x)
  free : w.frozen? ⟨bn, 0, none⟩ = false
  size : bn < w.heap.size
theorem CellIs.alloc {w0 w : World} {bn : Nat} {x : Int} (h : CellIs w0 w bn x) (o : Obj) : CellIs w0 (w.alloc o) bn x := by
  have hb : Below w.heap.size w (w.alloc o) := (Below.refl _ _).alloc (Nat.le_refl _) _
  exact ⟨h.low.trans (hb.mono (Nat.le_of_lt h.size)), by rw [hb.cell (p := ⟨bn, 0, none⟩) h.size]; exact h.cell, by rw [hb.frozen (p := ⟨bn, 0, none⟩) h.size]; exact h.free, by simp; have := h.size; omega⟩
theorem CellIs.set {w0 w : World} {bn : Nat} {x : Int} (h : CellIs w0 w bn x) (y : Int) : CellIs w0 (w.setCell ⟨bn, 0, none⟩ (.int .i64 y)) bn y :=
  ⟨h.low.setCell (Nat.le_refl _) _, World.cell?_setCell_same _ _ _ h.cell, by simp; exact h.free, by simp; exact h.size⟩
/-- The boxed policy. -/
structure Box (w : World) (H : Nat) (a b f c m : Int) : Prop where
  c0 : w.cell? ⟨H, 0, none⟩ = some (.int .i64 a)
  c1 : w.cell? ⟨H, 1, none⟩ = some (.int .i64 b)
  c2 : w.cell? ⟨H, 2, none⟩ = some (.int .i64 f)
  c3 : w.cell? ⟨H, 3, none⟩ = some (.int .i64 c)
  c4 : w.cell? ⟨H, 4, none⟩ = some (.int .i64 m)
theorem Box.set {w : World} {H : Nat} {a b f c m : Int} (h : Box w H a b f c m) {p : Addr} (v : Value) (hp : p.block ≠ H) : Box (w.setCell p v) H a b f c m :=
  ⟨by rw [cell_far _ _ _ _ hp]; exact h.c0, by rw [cell_far _ _ _ _ hp]; exact h.c1, by rw [cell_far _ _ _ _ hp]; exact h.c2, by rw [cell_far _ _ _ _ hp]; exact h.c3, by rw [cell_far _ _ _ _ hp]; exact h.c4⟩
theorem Box.below {w w' : World} {H : Nat} {a b f c m : Int} (h : Box w H a b f c m) (hb : Below w.heap.size w w') (hH : H < w.heap.size) : Box w' H a b f c m :=
  ⟨(hb.cell (p := ⟨H, 0, none⟩) hH).trans h.c0, (hb.cell (p := ⟨H, 1, none⟩) hH).trans h.c1, (hb.cell (p := ⟨H, 2, none⟩) hH).trans h.c2, (hb.cell (p := ⟨H, 3, none⟩) hH).trans h.c3, (hb.cell (p := ⟨H, 4, none⟩) hH).trans h.c4⟩
theorem Box.new (w : World) (a b f c m : Int) (T : TypeId) : Box (w.alloc (.cells #[.int .i64 a, .int .i64 b, .int .i64 f, .int .i64 c, .int .i64 m] T)) w.heap.size a b f c m := by
  have h : ∀ j u, [Value.int .i64 a, .int .i64 b, .int .i64 f, .int .i64 c, .int .i64 m][j]? = some u → (w.alloc (.cells #[.int .i64 a, .int .i64 b, .int .i64 f, .int .i64 c, .int .i64 m] T)).cell? ⟨w.heap.size, j, none⟩ = some u := by
    intro j u hu
    rw [cell_of_row _ _ _ _ T (0, 0) (heap_alloc_new w _)]
    simpa using hu
  exact ⟨h 0 _ rfl, h 1 _ rfl, h 2 _ rfl, h 3 _ rfl, h 4 _ rfl⟩
set_option maxHeartbeats 400000 in
theorem D1_any (k d t x : Int) (bn ba : Nat) (w : World) (hc : w.cell? ⟨bn, 0, none⟩ = some (.int .i64 x)) (hf : w.frozen? ⟨bn, 0, none⟩ = false) (ha : w.cell? ⟨ba, 0, none⟩ = some (.int .i64 t)) (hba : ba < bn) :
    Calls Try.prog 66 #[.int .i64 k, .int .i64 d, .pointer (some ⟨bn, 0, none⟩), .pointer (some ⟨ba, 0, none⟩)] w fun e w' => e = .returned (.bool (decide (k < t))) ∧ w.setCell ⟨bn, 0, none⟩ (.int .i64 d) = w' := by
  go_enter Try.func66, Try.ntmps66
  go_wp2
  go_ret
  exact ⟨rfl, rfl⟩
theorem mul_bd {d f c : Int} (h1 : 1 ≤ d) (h2 : d ≤ c) (hc : c ≤ 1073741824) (h3 : 1 ≤ f) (h4 : f ≤ 10) : 0 ≤ d * f ∧ d * f ≤ 10737418240 := by
  have h5 := Int.mul_le_mul_of_nonneg_left h4 (show 0 ≤ d by omega)
  have h6 := Int.mul_nonneg (show 0 ≤ d by omega) (show 0 ≤ f by omega)
  omega
set_option maxHeartbeats 1000000 in
theorem delays_D (a b f c m t : Int) (bn ba : Nat) (w : World) (hok : RP.ok ⟨a, b, f, c, m⟩ = true) (h : CellIs w w bn 0) (ha : w.cell? ⟨ba, 0, none⟩ = some (.int .i64 t)) (hba : ba < bn) (ht1 : 1 ≤ t) (ht2 : t < a) :
    Calls Try.prog 65 #[.agg #[.int .i64 a, .int .i64 b, .int .i64 f, .int .i64 c, .int .i64 m], .func (.func 66) #[] #[.pointer (some ⟨bn, 0, none⟩), .pointer (some ⟨ba, 0, none⟩)]] w fun e w' => e = .returned (.tuple #[]) ∧ CellIs w w' bn (dl b f c (t.toNat - 1)) := by
  have hbd := (RP.ok_iff _).1 hok
  simp only at hbd
  obtain ⟨-, a2, b1, b2, f1, f2, c1, c2, -, -⟩ := hbd
  have hdl := dl_bd b1 f1 c1
  have HD := Lib.hid hdl
  have HB0 := Box.new w a b f c m 27
  have hsz := h.size
  have hC := h.alloc (.cells #[.int .i64 a, .int .i64 b, .int .i64 f, .int .i64 c, .int .i64 m] 27)
  have hA : (w.alloc (.cells #[.int .i64 a, .int .i64 b, .int .i64 f, .int .i64 c, .int .i64 m] 27)).cell? ⟨ba, 0, none⟩ = some (.int .i64 t) := by
    rw [((Below.refl w.heap.size w).alloc (Nat.le_refl _) _).cell (p := ⟨ba, 0, none⟩) (by show ba < w.heap.size; omega)]; exact ha
  have HH := Lib.hid (And.intro HB0 (And.intro hC hA))
  clear hdl HB0 hC hA ha h hok
  go_enter Try.func65, Try.ntmps65
  go_wp2_with fail
  go_loopw [4, 5] (fun d k wr => ∃ (i : Nat) (x : Int), 1 ≤ i ∧ (i : Int) ≤ t ∧ k = .int .i64 i ∧ d = .int .i64 (dl b f c (i - 1)) ∧ CellIs w wr bn x ∧ Box wr w.heap.size a b f c m ∧ wr.cell? ⟨ba, 0, none⟩ = some (.int .i64 t)) (fun _ k _ => 20 - (intOf k).toNat)
  case atStart => exact ⟨1, 0, Nat.le_refl _, ht1, rfl, rfl, HH.out.2.1, HH.out.1, HH.out.2.2⟩
  case round =>
    obtain ⟨i, x, hi1, hi2, rfl, rfl, hcl, hbx, hta⟩ := hrel
    obtain ⟨d1, d2, -⟩ := HD.out (i - 1)
    have hmin := dl_min (b := b) (f := f) (c := c) (i - 1)
    rw [show i - 1 + 1 = i by omega] at hmin
    obtain ⟨m1, m2⟩ := mul_bd d1 d2 c2 f1 f2
    have hbx2 := hbx.set (p := ⟨bn, 0, none⟩) (.int .i64 (dl b f c (i - 1))) (show bn ≠ w.heap.size by omega)
    have hcl2 := hcl.set (dl b f c (i - 1))
    have hta2 : (wr.setCell ⟨bn, 0, none⟩ (.int .i64 (dl b f c (i - 1)))).cell? ⟨ba, 0, none⟩ = some (.int .i64 t) := by
      rw [cell_far _ _ _ _ (show bn ≠ ba by omega)]; exact hta
    have HX := Lib.hid (And.intro hcl (And.intro hcl2 (And.intro hbx2 hta2)))
    have HT := Lib.hid hta
    clear hcl hcl2 hbx2 hta2 hta
    obtain ⟨q0, q1, q2, q3, q4⟩ := hbx
    have HM := Lib.hid hmin
    clear hmin
    generalize hdq : dl b f c (i - 1) = d at *
    have HQ := Lib.hid hdq
    clear hdq
    go_wp2_with fail
    try rw [Int.min_eq_left d2]
    refine (D1_any (i : Int) d t x bn ba wr HX.out.1.cell HX.out.1.free HT.out hba).mono ?_
    rintro e w1 ⟨rfl, rfl⟩
    obtain ⟨hcl, hcl2, hbx2, hta2⟩ := HX.out
    clear q0 q1 q2 q3 q4 HT
    by_cases hit : (i : Int) < t
    · have hdec : decide ((i : Int) < t) = true := decide_eq_true hit
      rw [hdec]
      have HY := Lib.hid (And.intro hcl2 (And.intro hbx2 hta2))
      obtain ⟨q0, q1, q2, q3, q4⟩ := hbx2
      clear hcl hcl2 hta2 hdec HX
      generalize wr.setCell ⟨bn, 0, none⟩ (.int .i64 d) = wx at *
      have hmin := HM.out
      go_wp2_with fail
      go_roundw
      case rel => exact ⟨i + 1, d, by omega, by omega, by go_num, by rw [← HQ.out, dl_if, show i - 1 + 1 = i + 1 - 1 by omega], HY.out.1, HY.out.2.1, HY.out.2.2⟩
      case measure => simp [intOf]; omega
    · have hdec : decide ((i : Int) < t) = false := decide_eq_false hit
      rw [hdec]
      go_wp2_with fail
      refine bodyPost_ret (results_none (by rfl) _ _ _) rfl ⟨rfl, ?_⟩
      rw [show t.toNat - 1 = i - 1 by omega, HQ.out]
      exact hcl2
end Go.Proofs.Ytojghgeemdpmpaa.BO
