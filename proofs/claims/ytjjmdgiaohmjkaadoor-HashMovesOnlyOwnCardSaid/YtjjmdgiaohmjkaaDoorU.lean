/- Small words for the walks: results, cells of boxed values, worlds behind calls. -/
import Derived.Test.YtjjmdgiaohmjkaaDoorProg
import Derived.WalkKit
import Derived.WalkSpells
import Derived.WalkLawsBesides
import Derived.BigQuiet
import Derived.BigGuardPart
import Derived.Deep.Draws
import Derived.Deep.QuietTactic
import Derived.Deep.RegionHeld3
import Derived.Lib.Hide
import Derived.Lib.QuietBelow
import Derived.Laws.StructEq
import Derived.Outline
namespace Go.Proofs.YtjjmdgiaohmjkaaDoor
open Go.RowKit
open Go.Sort (grow)

theorem ret_bool {a b : Bool} (h : a = b) : Ending.returned (.bool a) = .returned (.bool b) := by rw [h]
theorem ret_int {k : IntKind} {a b : Int} (h : a = b) : Ending.returned (.int k a) = .returned (.int k b) := by rw [h]
theorem below_drewN' (B : Nat) (w : World) (n : Nat) : Below B w (w.drewN n) := ⟨rfl, rfl, rfl, Nat.le_refl _, fun _ _ => rfl⟩
theorem bcell {W w1 : World} (hb : Below W.heap.size W w1) : (∀ b o, b < W.heap.size → w1.cell? ⟨b, o, none⟩ = W.cell? ⟨b, o, none⟩) ∧ (∀ b o, b < W.heap.size → w1.frozen? ⟨b, o, none⟩ = W.frozen? ⟨b, o, none⟩) :=
  ⟨fun b o h => hb.cell (p := ⟨b, o, none⟩) h, fun b o h => hb.frozen (p := ⟨b, o, none⟩) h⟩
/-- The cells of a block hold a row of values. -/
def CellsAt (w : World) (H : Nat) (l : List Value) : Prop := ∀ j v, l[j]? = some v → w.cell? ⟨H, j, none⟩ = some v
theorem CellsAt.below {w w' : World} {H : Nat} {l : List Value} (h : CellsAt w H l) (hb : Below w.heap.size w w') (hH : H < w.heap.size) : CellsAt w' H l :=
  fun j v hj => (hb.cell (p := ⟨H, j, none⟩) hH).trans (h j v hj)
theorem CellsAt.new (w : World) (l : Array Value) (T : TypeId) : CellsAt (w.alloc (.cells l T)) w.heap.size l.toList := by
  intro j v hj
  rw [cell_of_row _ _ _ _ T (0, 0) (heap_alloc_new w _)]
  simpa using hj
theorem CellsAt.alloc {w : World} {H : Nat} {l : List Value} (h : CellsAt w H l) (hH : H < w.heap.size) (o : Obj) : CellsAt (w.alloc o) H l :=
  h.below ((Below.refl _ _).alloc (Nat.le_refl _) _) hH
/-- A block that is known whole. -/
def Blk (w : World) (g : Nat) (t : TypeId) (cs : Array Value) : Prop := w.heap[g]? = some (.cells cs t (0, 0))
section
variable {w w' : World} {g : Nat} {t : TypeId} {cs : Array Value}
theorem Blk.lt (h : Blk w g t cs) : g < w.heap.size := by
  rcases Nat.lt_or_ge g w.heap.size with hlt | hge
  · exact hlt
  · unfold Blk at h; rw [Array.getElem?_eq_none hge] at h; cases h
theorem Blk.cell (h : Blk w g t cs) (i : Nat) : w.cell? ⟨g, i, none⟩ = cs[i]? := cell_of_row w g i cs t (0, 0) h
theorem Blk.frozen (h : Blk w g t cs) (i : Nat) : w.frozen? ⟨g, i, none⟩ = false := by
  unfold Blk at h
  simp [World.frozen?, h]
theorem Blk.new (w : World) (t : TypeId) (cs : Array Value) : Blk (w.alloc (.cells cs t)) w.heap.size t cs := heap_alloc_new w _
theorem Blk.new1 (w : World) (o : Obj) (t : TypeId) (cs : Array Value) : Blk ((w.alloc o).alloc (.cells cs t)) (w.heap.size + 1) t cs := by simpa using Blk.new (w.alloc o) t cs
theorem Blk.new2 (w : World) (o o' : Obj) (t : TypeId) (cs : Array Value) : Blk (((w.alloc o).alloc o').alloc (.cells cs t)) (w.heap.size + 2) t cs := by simpa using Blk.new ((w.alloc o).alloc o') t cs
theorem Blk.new3 (w : World) (o o' o2 : Obj) (t : TypeId) (cs : Array Value) : Blk ((((w.alloc o).alloc o').alloc o2).alloc (.cells cs t)) (w.heap.size + 3) t cs := by simpa using Blk.new (((w.alloc o).alloc o').alloc o2) t cs
theorem Blk.new4 (w : World) (o o' o2 o3 : Obj) (t : TypeId) (cs : Array Value) : Blk (((((w.alloc o).alloc o').alloc o2).alloc o3).alloc (.cells cs t)) (w.heap.size + 4) t cs := by simpa using Blk.new ((((w.alloc o).alloc o').alloc o2).alloc o3) t cs
theorem Blk.drew (h : Blk w g t cs) : Blk w.drew g t cs := h
theorem Blk.drewN (h : Blk w g t cs) (n : Nat) : Blk (w.drewN n) g t cs := h
theorem Blk.alloc (h : Blk w g t cs) (o : Obj) : Blk (w.alloc o) g t cs := (Below.heap_alloc w o g h.lt).trans h
theorem Blk.below {B : Nat} (h : Blk w g t cs) (hb : Below B w w') (hg : g < B) : Blk w' g t cs := (hb.block g hg).trans h
theorem Blk.on (h : Blk w g t cs) (hb : Below w.heap.size w w') : Blk w' g t cs := (hb.block g h.lt).trans h
theorem Blk.far (h : Blk w g t cs) {p : Addr} (hp : g ≠ p.block) (u : Value) : Blk (w.setCell p u) g t cs := (Below.heap_setCell w p u g hp).trans h
theorem Blk.set_ (h : Blk w g t cs) (i : Nat) (u : Value) : Blk (w.setCell ⟨g, i, none⟩ u) g t (cs.setIfInBounds i u) := by
  unfold Blk at h ⊢
  simp [World.setCell, Array.getElem?_modify, h]
end
/-- Two stores into a block at or above the bound. -/
theorem below_set2 {B : Nat} {w w1 : World} (h : Below B w w1) {H : Nat} (hH : B ≤ H) (x y : Value) : Below B w ((w1.setCell ⟨H, 0, none⟩ x).setCell ⟨H, 1, none⟩ y) :=
  (h.setCell (p := ⟨H, 0, none⟩) hH x).setCell (p := ⟨H, 1, none⟩) hH y
def tup2 (x : Int × Int) : Value := .tuple #[.int .i64 x.1, .int .i64 x.2]
theorem ret_tup2 {x : Int × Int} {a b : Int} (h : x = (a, b)) : Ending.returned (.tuple #[.int .i64 a, .int .i64 b]) = .returned (tup2 x) := by subst h; rfl
theorem ret_tup2' {x : Int × Int} {a b : Int} (h1 : x.1 = a) (h2 : x.2 = b) : Ending.returned (.tuple #[.int .i64 a, .int .i64 b]) = .returned (tup2 x) := by subst h1 h2; rfl
/-- A test between two integers, in the walk's own spelling. -/
def inB (n lo hi : Int) : Bool := decide (lo ≤ n) && decide (n ≤ hi)
theorem inB_iff {n lo hi : Int} : inB n lo hi = true ↔ lo ≤ n ∧ n ≤ hi := by simp [inB]
theorem inB_yes {n lo hi : Int} (h : lo ≤ n ∧ n ≤ hi) : inB n lo hi = true := inB_iff.2 h
theorem inB_no {n lo hi : Int} (h : ¬ (lo ≤ n ∧ n ≤ hi)) : inB n lo hi = false := by
  cases e : inB n lo hi with
  | false => rfl
  | true => exact absurd (inB_iff.1 e) h
end Go.Proofs.YtjjmdgiaohmjkaaDoor
