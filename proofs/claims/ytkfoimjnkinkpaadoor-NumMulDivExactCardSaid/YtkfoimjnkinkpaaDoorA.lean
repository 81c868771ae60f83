/- The walks of the small functions on integers. -/
import Derived.Test.YtkfoimjnkinkpaaDoorRows
import Derived.Test.YtkfoimjnkinkpaaDoorShelf
import Derived.WalkKit
import Derived.WalkSpells
import Derived.WalkLawsBesides
import Derived.BigQuiet
import Derived.BigGuardPart
import Derived.Deep.Draws
import Derived.Lib.Hide
namespace Go.Proofs.YtkfoimjnkinkpaaDoor
open Go.RowKit

theorem ret_bool {a b : Bool} (h : a = b) : Ending.returned (.bool a) = .returned (.bool b) := by rw [h]
theorem ret_int {k : IntKind} {a b : Int} (h : a = b) : Ending.returned (.int k a) = .returned (.int k b) := by rw [h]
theorem below_drewN' (B : Nat) (w : World) (n : Nat) : Below B w (w.drewN n) := ⟨rfl, rfl, rfl, Nat.le_refl _, fun _ _ => rfl⟩

/-- A valid integer. -/
def vI (n : Int) : Bool := decide (-1000000000000 ≤ n) && decide (n ≤ 1000000000000)
theorem vI_iff (n : Int) : vI n = true ↔ -1000000000000 ≤ n ∧ n ≤ 1000000000000 := by simp [vI]
theorem vI_false (n : Int) : vI n = false ↔ n < -1000000000000 ∨ 1000000000000 < n := by
  unfold vI
  simp only [Bool.and_eq_false_iff, decide_eq_false_iff_not]
  omega
theorem Valid_any (n : Int) (w : World) : Calls Tryd.prog 13 #[.int .i64 n] w fun e w' => e = .returned (.bool (vI n)) ∧ w' = w := by
  go_enter Tryd.func13, Tryd.ntmps13
  go_wp2
  all_goals
    go_ret
    refine ⟨ret_bool ?_, rfl⟩
    first | (symm; rw [vI_iff]; omega) | (symm; rw [vI_false]; omega) | (simp [vI, *]; done)
theorem rValid_any (n : Int) (w : World) : Calls Tryd.prog 14 #[.int .i64 n] w fun e w' => e = .returned (.bool (vI n)) ∧ w' = w := by
  go_enter Tryd.func14, Tryd.ntmps14
  go_wp2
  all_goals
    go_ret
    refine ⟨ret_bool ?_, rfl⟩
    first | (symm; rw [vI_iff]; omega) | (symm; rw [vI_false]; omega) | (simp [vI, *]; done)
theorem valid_any (b o c : Nat) (zs : List Int) (w : World) (hc : ∀ j z, zs[j]? = some z → w.cell? ⟨b, o + j, none⟩ = some (.int .i64 z)) (hn : zs.length ≤ 1000) :
    Calls Tryd.prog 36 #[.slice (some ⟨b, o, none⟩) zs.length c] w fun e w' => e = .returned (.bool (zs.all vI)) ∧ w' = w := by
  go_enter Tryd.func36, Tryd.ntmps36
  go_wp2
  go_loop [4, 7] (fun _ i => ∃ k : Nat, k ≤ zs.length ∧ i = .int .i64 k ∧ (zs.take k).all vI = true) (fun _ i => zs.length - (Lib.intOf i).toNat)
  case atStart => exact ⟨0, Nat.zero_le _, rfl, rfl⟩
  case round =>
    obtain ⟨k, hk, rfl, hall⟩ := hrel
    by_cases hlt : k < zs.length
    · have c0 := hc k _ (List.getElem?_eq_getElem hlt)
      have HA := Lib.hid hall
      have htk := List.take_succ_eq_append_getElem hlt
      have HT := Lib.hid htk
      clear hall htk
      go_wp2_with fail
      refine (Valid_any _ _).mono ?_
      rintro e w' ⟨rfl, rfl⟩
      cases hv : vI zs[k]
      · have hz : zs.all vI = false := by
          rw [List.all_eq_false]
          exact ⟨_, List.getElem_mem hlt, by simp [hv]⟩
        have HZ := Lib.hid hz
        clear hz hv
        go_wp2
        go_ret
        exact ⟨ret_bool HZ.out.symm, rfl⟩
      · have hn2 : (zs.take (k + 1)).all vI = true := by rw [HT.out, List.all_append, HA.out]; simp [hv]
        have HN := Lib.hid hn2
        clear hn2 hv
        go_wp2
        go_round
        case rel => exact ⟨k + 1, by omega, by go_num, HN.out⟩
        case measure => simp [Lib.intOf]; omega
    · obtain rfl : k = zs.length := by omega
      rw [List.take_length] at hall
      have HZ := Lib.hid hall
      clear hall
      go_wp2
      go_ret
      exact ⟨ret_bool HZ.out.symm, rfl⟩
/-- A new block of integers, as 'valid' gets it. -/
theorem valid2 (a b : Int) (w : World) (T : TypeId) (g : Nat) (hg : g = w.heap.size) :
    Calls Tryd.prog 36 #[.slice (some ⟨g, 0, none⟩) 2 2] (w.alloc (.cells #[.int .i64 a, .int .i64 b] T)) fun e w' => e = .returned (.bool (vI a && vI b)) ∧ w' = w.alloc (.cells #[.int .i64 a, .int .i64 b] T) := by
  subst hg
  have := valid_any w.heap.size 0 2 [a, b] (w.alloc (.cells #[.int .i64 a, .int .i64 b] T)) (by
    intro j z hz
    rw [Nat.zero_add, cell_of_row _ _ _ _ T (0, 0) (heap_alloc_new w _)]
    match j, hz with
    | 0, hz => simpa using hz
    | 1, hz => simpa using hz
    | j + 2, hz => simp at hz) (by simp)
  simpa using this
theorem valid3 (a b c : Int) (w : World) (T : TypeId) (g : Nat) (hg : g = w.heap.size) :
    Calls Tryd.prog 36 #[.slice (some ⟨g, 0, none⟩) 3 3] (w.alloc (.cells #[.int .i64 a, .int .i64 b, .int .i64 c] T)) fun e w' => e = .returned (.bool (vI a && (vI b && vI c))) ∧ w' = w.alloc (.cells #[.int .i64 a, .int .i64 b, .int .i64 c] T) := by
  subst hg
  have := valid_any w.heap.size 0 3 [a, b, c] (w.alloc (.cells #[.int .i64 a, .int .i64 b, .int .i64 c] T)) (by
    intro j z hz
    rw [Nat.zero_add, cell_of_row _ _ _ _ T (0, 0) (heap_alloc_new w _)]
    match j, hz with
    | 0, hz => simpa using hz
    | 1, hz => simpa using hz
    | 2, hz => simpa using hz
    | j + 3, hz => simp at hz) (by simp)
  simpa using this
end Go.Proofs.YtkfoimjnkinkpaaDoor
