/- The walks of small functions. -/
import Derived.Test.YtojghgeemdpmpaaBW1
import Derived.BigGuardPart
import Derived.Laws.EntriesVeiled
namespace Go.Proofs.Ytojghgeemdpmpaa
open Go.RowKit

/-- A batch policy. -/
structure Pol where
  size : Int
  cells : Int
  window : Int
def Pol.val (p : Pol) : Value := .agg #[.int .i64 p.size, .int .i64 p.cells, .int .i64 p.window]
def Pol.bad (p : Pol) : Bool := decide (p.size < 1) || decide (32 < p.size) || decide (p.cells < 1) || decide (6400 < p.cells) || decide (p.window < 0) || decide (1073741824 < p.window)
def checkE (p : Pol) : Int := if p.bad = true then 2 else 0

theorem check_yes {s c n : Int} (h : s < 1 ∨ 32 < s ∨ c < 1 ∨ 6400 < c ∨ n < 0 ∨ 1073741824 < n) : 2 = checkE ⟨s, c, n⟩ := by
  unfold checkE Pol.bad
  rw [if_pos]
  simp only [Bool.or_eq_true, decide_eq_true_eq]
  omega
theorem check_no {s c n : Int} (h : 1 ≤ s ∧ s ≤ 32 ∧ 1 ≤ c ∧ c ≤ 6400 ∧ 0 ≤ n ∧ n ≤ 1073741824) : 0 = checkE ⟨s, c, n⟩ := by
  unfold checkE Pol.bad
  rw [if_neg]
  simp only [Bool.or_eq_true, decide_eq_true_eq]
  omega
set_option maxHeartbeats 400000 in
theorem check_any (s c n : Int) (w : World) :
    Calls Try.prog 27 #[.agg #[.int .i64 s, .int .i64 c, .int .i64 n]] w fun e w' => e = .returned (.int .i64 (checkE ⟨s, c, n⟩)) ∧ Below w.heap.size w w' := by
  go_enter Try.func27, Try.ntmps27
  go_wp2
  all_goals
    go_ret
    first
      | exact ⟨ret_int (check_yes (by omega)), (Below.refl _ _).alloc (Nat.le_refl _) _⟩
      | exact ⟨ret_int (check_no (by omega)), (Below.refl _ _).alloc (Nat.le_refl _) _⟩
set_option maxHeartbeats 400000 in
theorem rcheck_any (s c n : Int) (w : World) :
    Calls Try.prog 54 #[.agg #[.int .i64 s, .int .i64 c, .int .i64 n]] w fun e w' => e = .returned (.int .i64 (checkE ⟨s, c, n⟩)) ∧ Below w.heap.size w w' := by
  go_enter Try.func54, Try.ntmps54
  go_wp2
  all_goals
    go_ret
    first
      | exact ⟨ret_int (check_yes (by omega)), (Below.refl _ _).alloc (Nat.le_refl _) _⟩
      | exact ⟨ret_int (check_no (by omega)), (Below.refl _ _).alloc (Nat.le_refl _) _⟩
set_option maxHeartbeats 400000 in
theorem weigh_any (x : RecX) (w : World) :
    Calls Try.prog 62 #[.agg x.cells.toArray] w fun e w' => e = .returned (.int .i64 x.r.body.length) ∧ Below w.heap.size w w' := by
  simp only [RecX.cells]
  go_enter Try.func62, Try.ntmps62
  go_wp2
  go_ret
  exact ⟨rfl, (Below.refl _ _).alloc (Nat.le_refl _) _⟩
set_option maxHeartbeats 400000 in
theorem records_any (s c n : Int) (w : World) :
    Calls Try.prog 52 #[.agg #[.int .i64 s, .int .i64 c, .int .i64 n]] w fun e w' => e = .returned (.agg #[.int .i64 s, .int .i64 c, .func (.func 62) #[] #[]]) ∧ Below w.heap.size w w' := by
  go_enter Try.func52, Try.ntmps52
  go_wp2
  exact bodyPost_ret (v := .agg #[.int .i64 s, .int .i64 c, .func (.func 62) #[] #[]]) (by simp [results, Try.results52, go_sem]) rfl ⟨rfl, by repeat (first | exact Below.refl _ _ | (refine Below.alloc ?_ (by simp) _) | (refine Below.setCell ?_ (by simp) _))⟩

/-! ### fits -/
def fitsB (most room : Int) (l : List RecX) (x : RecX) : Bool := l.isEmpty || (decide ((l.length : Int) < most) && decide ((sumBody l + x.r.body.length : Nat) ≤ room))
theorem fits_a {F : Bool} {p q : Nat} {n m r : Int} (h : F = (decide (n < m) && decide ((p : Int) ≤ r))) (hn : n < m) (e : q = p) : decide ((q : Int) ≤ r) = F := by
  subst e
  simp [h, hn]
theorem fits_b {F : Bool} {p : Nat} {n m r : Int} (h : F = (decide (n < m) && decide ((p : Int) ≤ r))) (hn : m ≤ n) : false = F := by
  rw [h, decide_eq_false (by omega), Bool.false_and]
set_option maxHeartbeats 400000 in
theorem fits_any (m r : Int) (A : Option Addr) (c : Nat) (l : List RecX) (x : RecX) (w : World) (hl : RecsAt w w.heap.size A l) (hb : sumBody l + x.r.body.length ≤ 904238362656460) (hn : l.length ≤ 1000000) :
    Calls Try.prog 63 #[.agg #[.int .i64 m, .int .i64 r, .func (.func 62) #[] #[]], .slice A l.length c, .agg x.cells.toArray] w fun e w' => e = .returned (.bool (fitsB m r l x)) ∧ Below w.heap.size w w' := by
  go_enter Try.func63, Try.ntmps63
  simp only [RecX.cells]
  go_wp2_with fail
  refine (weigh_any x _).mono ?_
  rintro e w1 ⟨rfl, hb1⟩
  obtain ⟨hc1, hf1⟩ := bcell hb1
  have hz1 := hb1.size
  simp only [World.size_alloc] at hc1 hf1 hz1
  have d0 : w1.cell? ⟨w.heap.size, 0, none⟩ = some (.int .i64 m) := by rw [hc1 _ _ (by omega)]; go_simp
  have d1 : w1.cell? ⟨w.heap.size, 1, none⟩ = some (.int .i64 r) := by rw [hc1 _ _ (by omega)]; go_simp
  have d2 : w1.cell? ⟨w.heap.size, 2, none⟩ = some (.func (.func 62) #[] #[]) := by rw [hc1 _ _ (by omega)]; go_simp
  have hw1 : Below w.heap.size w w1 := (((Below.refl _ _).alloc (Nat.le_refl _) _).alloc (by simp) _).trans (hb1.mono (by simp; omega))
  have hl1 : RecsAt w1 w.heap.size A l := ⟨hl.1.below hw1, fun x hx => (hl.2 x hx).below hw1⟩
  clear hc1 hf1
  go_wp2_with fail
  go_loopw [7, 16] (fun t i wr => ∃ k : Nat, k ≤ l.length ∧ i = .int .i64 k ∧ t = .int .i64 (x.r.body.length + sumBody (l.take k) : Nat) ∧ Below w1.heap.size w1 wr) (fun _ i _ => l.length - (intOf i).toNat)
  case atStart => exact ⟨0, Nat.zero_le _, rfl, by simp [sumBody], Below.refl _ _⟩
  case round =>
    obtain ⟨k, hk, rfl, rfl, hbr⟩ := hrel
    obtain ⟨hcr, hfr⟩ := bcell hbr
    have hzr := hbr.size
    have e0 : wr.cell? ⟨w.heap.size, 0, none⟩ = some (.int .i64 m) := by rw [hcr _ _ (by omega)]; exact d0
    have e1 : wr.cell? ⟨w.heap.size, 1, none⟩ = some (.int .i64 r) := by rw [hcr _ _ (by omega)]; exact d1
    have e2 : wr.cell? ⟨w.heap.size, 2, none⟩ = some (.func (.func 62) #[] #[]) := by rw [hcr _ _ (by omega)]; exact d2
    have hz2 : w.heap.size < wr.heap.size := by omega
    have hwr : Below w.heap.size w wr := hw1.trans (hbr.mono (by omega))
    have hlr : RecsAt wr w.heap.size A l := hl1.below (hbr.mono (by omega))
    have hsl := sumBody_le l k
    clear hcr hfr d0 d1 d2 hl1 hl
    by_cases hlt : k < l.length
    · obtain ⟨b, o, rfl, hbl, ⟨c0, c1, c2, c3, c4, c5, c6, c7, c8, c9⟩⟩ := hlr.ten hlt
      have hss := sumBody_snoc l k hlt
      have hsl1 := sumBody_le l (k + 1)
      have HS : Hid (sumBody (l.take (k + 1)) = sumBody (l.take k) + l[k].r.body.length) := hss
      have hq : x.r.body.length + (sumBody (l.take k) + l[k].r.body.length) ≤ 904238362656460 := by omega
      clear hss hsl1
      go_wp2_with fail
      refine (weigh_any l[k] _).mono ?_
      rintro e w2 ⟨rfl, hb2⟩
      go_wp2_with fail
      go_roundw
      case rel => exact ⟨k + 1, by omega, by go_num, by rw [HS.out]; go_num, hbr.trans (((Below.refl _ _).alloc hzr _).trans (hb2.mono (by simp; omega)))⟩
      case measure => simp [intOf]; omega
    · obtain rfl : k = l.length := by omega
      rw [List.take_length]
      by_cases h0 : l.length = 0
      · go_wp2
        go_ret
        exact ⟨ret_bool (by have : l = [] := List.eq_nil_of_length_eq_zero h0; subst this; rfl), hwr⟩
      · have hemp : l.isEmpty = false := by cases l <;> simp at h0 ⊢
        have HE : Hid (fitsB m r l x = (decide ((l.length : Int) < m) && decide ((sumBody l + x.r.body.length : Nat) ≤ r))) := by simp [Hid, fitsB, hemp]
        clear hemp
        go_wp2
        all_goals go_ret
        · exact ⟨ret_bool (fits_a HE.out (by omega) (Nat.add_comm _ _)), hwr⟩
        · exact ⟨ret_bool (fits_b HE.out (by omega)), hwr⟩
end Go.Proofs.Ytojghgeemdpmpaa
