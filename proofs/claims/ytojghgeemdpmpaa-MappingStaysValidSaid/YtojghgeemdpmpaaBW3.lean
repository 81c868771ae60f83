/- The walks of the reference's sums of cells, and whether a record fits. -/
import Derived.Test.YtojghgeemdpmpaaBW2
import Derived.Deep.QuietTactic
namespace Go.Proofs.Ytojghgeemdpmpaa
open Go.RowKit

set_option maxHeartbeats 400000 in
theorem cells_any (A : Option Addr) (c : Nat) (l : List RecX) (w : World) (hl : RecsAt w w.heap.size A l) (hb : sumBody l ≤ 904238362656460) (hn : l.length ≤ 1000000) :
    Calls Try.prog 64 #[.slice A l.length c] w fun e w' => e = .returned (.int .i64 (sumBody l : Nat)) ∧ w' = w := by
  go_enter Try.func64, Try.ntmps64
  go_wp2
  go_loop [3, 4, 7] (fun t _ i => ∃ k : Nat, k ≤ l.length ∧ i = .int .i64 k ∧ t = .int .i64 (sumBody (l.take k) : Nat)) (fun _ _ i => l.length - (intOf i).toNat)
  case atStart => exact ⟨0, Nat.zero_le _, rfl, by simp [sumBody]⟩
  case round =>
    obtain ⟨k, hk, rfl, rfl⟩ := hrel
    have hsl := sumBody_le l k
    by_cases hlt : k < l.length
    · obtain ⟨b, o, rfl, hbl, hc⟩ := hl.get hlt
      have c9 : w.cell? ⟨b, o + k * 10 + 3 + 6, none⟩ = some (.slice l[k].ba l[k].r.body.length l[k].bc) := cell_at (hc 9 _ rfl) (by omega)
      have hss := sumBody_snoc l k hlt
      have hsl1 := sumBody_le l (k + 1)
      have HS : Hid (sumBody (l.take (k + 1)) = sumBody (l.take k) + l[k].r.body.length) := hss
      have hq : sumBody (l.take k) + l[k].r.body.length ≤ 904238362656460 := by omega
      clear hss hsl1 hc
      go_wp2
      go_round
      case rel => exact ⟨k + 1, by omega, by go_num, by rw [HS.out]; go_num⟩
      case measure => simp [intOf]; omega
    · obtain rfl : k = l.length := by omega
      rw [List.take_length]
      go_wp2
      go_ret
      exact ⟨rfl, rfl⟩
theorem World.below_drewN' (B : Nat) (w : World) (n : Nat) : Below B w (w.drewN n) := ⟨rfl, rfl, rfl, Nat.le_refl _, fun _ _ => rfl⟩
set_option maxHeartbeats 400000 in
theorem rfits_any (m r t : Int) (A : Option Addr) (c : Nat) (l : List RecX) (x : RecX) (w : World) (hl : RecsAt w w.heap.size A l) (hb : sumBody l + x.r.body.length ≤ 904238362656460) (hn : l.length ≤ 1000000) :
    Calls Try.prog 56 #[.slice A l.length c, .agg x.cells.toArray, .agg #[.int .i64 m, .int .i64 r, .int .i64 t]] w fun e w' => e = .returned (.bool (fitsB m r l x)) ∧ Below w.heap.size w w' := by
  have hq : x.r.body.length ≤ 904238362656460 := by omega
  have hq2 : sumBody l ≤ 904238362656460 := by omega
  have hq3 : sumBody l + x.r.body.length ≤ 904238362656460 := hb
  simp only [RecX.cells]
  by_cases h0 : l.length = 0
  · have g0 : ((l.length : Int) == 0) = true := by simp [h0]
    have HF : Hid (fitsB m r l x = true) := by have : l = [] := List.eq_nil_of_length_eq_zero h0; subst this; rfl
    go_enter Try.func56, Try.ntmps56
    go_wp2_with fail
    go_quiet (fail)
    go_wp2
    go_ret
    exact ⟨ret_bool HF.out.symm, ((Below.refl _ _).alloc (Nat.le_refl _) _ |>.alloc (by simp) _).trans (World.below_drewN' _ _ _)⟩
  · have g0 : ((l.length : Int) == 0) = false := beq_eq_false_iff_ne.2 (by omega)
    have hemp : l.isEmpty = false := by cases l <;> simp at h0 ⊢
    have HE : Hid (fitsB m r l x = (decide ((l.length : Int) < m) && decide ((sumBody l + x.r.body.length : Nat) ≤ r))) := by simp [Hid, fitsB, hemp]
    clear hemp
    by_cases h1 : (l.length : Int) < m
    · go_enter Try.func56, Try.ntmps56
      go_wp2_with fail
      go_quiet ((go_at_call 64; exact Calls.quiet_of_same (cells_any A c l _ ((hl.below (((Below.refl _ _).alloc (Nat.le_refl _) _ |>.alloc (by simp) _).trans (World.below_drewN' _ _ _))).more (by simp; omega)) hq2 hn)))
      go_wp2
      go_ret
      exact ⟨ret_bool (fits_a HE.out h1 rfl), ((Below.refl _ _).alloc (Nat.le_refl _) _ |>.alloc (by simp) _).trans (World.below_drewN' _ _ _)⟩
    · have g1 : decide ((l.length : Int) < m) = false := by simp; omega
      have H1 : Hid (m ≤ (l.length : Int)) := by show m ≤ (l.length : Int); omega
      go_enter Try.func56, Try.ntmps56
      go_wp2_with fail
      go_quiet (fail)
      go_wp2
      go_ret
      exact ⟨ret_bool (fits_b HE.out H1.out), ((Below.refl _ _).alloc (Nat.le_refl _) _ |>.alloc (by simp) _).trans (World.below_drewN' _ _ _)⟩
end Go.Proofs.Ytojghgeemdpmpaa
