/- The walks of a collector's small methods. -/
import Derived.Test.YtfgohjoamifpiaaWB
namespace Go.Proofs.Ytfgohjoamifpiaa
open Go.RowKit
open Go.Sort (grow)

/-- The cells of package batch's collector, and of the reference's. -/
def layC (p : Pol) (v : Value) (first now : Int) : Array Value := #[.int .i64 p.size, .int .i64 p.cells, .int .i64 p.window, v, .int .i64 first, .int .i64 now, .bool true]
def layD (p : Pol) (v : Value) (first now : Int) : Array Value := #[.bool true, .int .i64 p.size, .int .i64 p.cells, .int .i64 p.window, .int .i64 now, .int .i64 first, v]
abbrev ColC (p : Pol) := Col 61 (layC p)
abbrev ColD (p : Pol) := Col 73 (layD p)

section
variable {p : Pol} {w : World} {base g c : Nat} {A : Option Addr} {xs : List RecX} {first now : Int}
set_option maxHeartbeats 400000 in
theorem lenC_any (h : ColC p w base g A c xs first now) (hn : xs.length ≤ 1000000) : Calls Try.prog 26 #[.pointer (some ⟨g, 0, none⟩)] w fun e w' => e = .returned (.int .i64 xs.length) ∧ w = w' := by
  have k3 : w.cell? ⟨g, 3, none⟩ = some (.slice A xs.length c) := h.cell 3
  clear h
  go_enter Try.func26, Try.ntmps26
  go_wp2
  go_ret
  exact ⟨rfl, rfl⟩
set_option maxHeartbeats 400000 in
theorem lenD_any (h : ColD p w base g A c xs first now) (hn : xs.length ≤ 1000000) : Calls Try.prog 27 #[.pointer (some ⟨g, 0, none⟩)] w fun e w' => e = .returned (.int .i64 xs.length) ∧ w = w' := by
  have k3 : w.cell? ⟨g, 6, none⟩ = some (.slice A xs.length c) := h.cell 6
  have k0 : w.cell? ⟨g, 0, none⟩ = some (.bool true) := h.cell 0
  clear h
  go_enter Try.func27, Try.ntmps27
  go_wp2
  go_ret
  exact ⟨rfl, rfl⟩
def dueOf (p : Pol) (xs : List RecX) (first : Int) : Int := if xs.isEmpty then 0 else first + p.window
set_option maxHeartbeats 400000 in
theorem dueC_any (h : ColC p w base g A c xs first now) (hn : xs.length ≤ 1000000) (hf : 0 ≤ first ∧ first ≤ 1073741824) (hp : 0 ≤ p.window ∧ p.window ≤ 1073741824) :
    Calls Try.prog 24 #[.pointer (some ⟨g, 0, none⟩)] w fun e w' => e = .returned (.tuple #[.int .i64 (dueOf p xs first), .bool (!xs.isEmpty)]) ∧ Below w.heap.size w w' := by
  have k3 : w.cell? ⟨g, 3, none⟩ = some (.slice A xs.length c) := h.cell 3
  have k2 : w.cell? ⟨g, 2, none⟩ = some (.int .i64 p.window) := h.cell 2
  have k4 : w.cell? ⟨g, 4, none⟩ = some (.int .i64 first) := h.cell 4
  clear h
  obtain ⟨f1, f2⟩ := hf
  obtain ⟨p1, p2⟩ := hp
  cases xs with
  | nil =>
    go_enter Try.func24, Try.ntmps24
    go_wp2
    go_ret2
    exact ⟨rfl, Below.refl _ _⟩
  | cons x xs =>
    simp only [dueOf, List.isEmpty_cons]
    have hl : (x :: xs).length = xs.length + 1 := rfl
    rw [hl] at k3 hn
    clear hl
    have g0 : ((xs.length : Int) + 1 == 0) = false := beq_eq_false_iff_ne.2 (by omega)
    have g1 : IntKind.i64.wrap (first + p.window) = first + p.window := IntWalk.i64_in _ (by omega)
    go_enter Try.func24, Try.ntmps24
    go_wp2_with fail
    go_quiet (fail)
    go_wp2
    go_ret2
    exact ⟨rfl, World.below_drewN' _ _ _⟩
set_option maxHeartbeats 400000 in
theorem dueD_any (h : ColD p w base g A c xs first now) (hn : xs.length ≤ 1000000) (hf : 0 ≤ first ∧ first ≤ 1073741824) (hp : 0 ≤ p.window ∧ p.window ≤ 1073741824) :
    Calls Try.prog 25 #[.pointer (some ⟨g, 0, none⟩)] w fun e w' => e = .returned (.tuple #[.int .i64 (dueOf p xs first), .bool (!xs.isEmpty)]) ∧ Below w.heap.size w w' := by
  have k3 : w.cell? ⟨g, 6, none⟩ = some (.slice A xs.length c) := h.cell 6
  have k2 : w.cell? ⟨g, 3, none⟩ = some (.int .i64 p.window) := h.cell 3
  have k4 : w.cell? ⟨g, 5, none⟩ = some (.int .i64 first) := h.cell 5
  have k0 : w.cell? ⟨g, 0, none⟩ = some (.bool true) := h.cell 0
  clear h
  obtain ⟨f1, f2⟩ := hf
  obtain ⟨p1, p2⟩ := hp
  cases xs with
  | nil =>
    go_enter Try.func25, Try.ntmps25
    go_wp2
    go_ret2
    exact ⟨rfl, Below.refl _ _⟩
  | cons x xs =>
    simp only [dueOf, List.isEmpty_cons]
    have hl : (x :: xs).length = xs.length + 1 := rfl
    rw [hl] at k3 hn
    clear hl
    have g0 : ((xs.length : Int) + 1 == 0) = false := beq_eq_false_iff_ne.2 (by omega)
    have g1 : IntKind.i64.wrap (first + p.window) = first + p.window := IntWalk.i64_in _ (by omega)
    go_enter Try.func25, Try.ntmps25
    go_wp2_with fail
    go_quiet (fail)
    go_wp2
    go_ret2
    exact ⟨rfl, World.below_drewN' _ _ _⟩
set_option maxHeartbeats 400000 in
theorem take_any (h : ColC p w base g A c xs first now) (hn : xs.length ≤ 1000000) :
    Calls Try.prog 35 #[.pointer (some ⟨g, 0, none⟩)] w fun e w' => e = .returned (.slice A xs.length c) ∧ w.setCell ⟨g, 3, none⟩ (.slice none 0 0) = w' := by
  have k3 : w.cell? ⟨g, 3, none⟩ = some (.slice A xs.length c) := h.cell 3
  have f3 : w.frozen? ⟨g, 3, none⟩ = false := h.frozen 3
  clear h
  go_enter Try.func35, Try.ntmps35
  go_wp2
  go_ret
  exact ⟨rfl, rfl⟩
end
end Go.Proofs.Ytfgohjoamifpiaa
