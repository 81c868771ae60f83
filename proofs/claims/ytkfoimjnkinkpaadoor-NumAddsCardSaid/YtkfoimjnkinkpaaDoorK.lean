/- The walks of sums, differences and products. -/
import Derived.Test.YtkfoimjnkinkpaaDoorI
import Derived.Lib.MinMax
namespace Go.Proofs.YtkfoimjnkinkpaaDoor
open Go.RowKit

def resI (n : Int) : Int × Int := if vI n = true then (n, 0) else (0, 8)
theorem resI_yes {n : Int} (h : vI n = true) : resI n = (n, 0) := by unfold resI; rw [if_pos h]
theorem resI_no {n : Int} (h : vI n = false) : resI n = (0, 8) := by unfold resI; rw [if_neg (by rw [h]; simp)]
theorem result_any (n : Int) (w : World) : Calls Tryd.prog 40 #[.int .i64 n] w fun e w' => e = .returned (tup2 (resI n)) ∧ w = w' := by
  go_enter Tryd.func40, Tryd.ntmps40
  go_wp2_with fail
  refine (Valid_any _ _).mono ?_
  rintro e w1 ⟨rfl, rfl⟩
  cases hv : vI n
  · have HD := Lib.hid (resI_no hv)
    clear hv
    go_wp2
    go_ret2
    exact ⟨ret_tup2 HD.out, rfl⟩
  · have HD := Lib.hid (resI_yes hv)
    clear hv
    go_wp2
    go_ret2
    exact ⟨ret_tup2 HD.out, rfl⟩
theorem rresult_any (n : Int) (w : World) : Calls Tryd.prog 42 #[.int .i64 n] w fun e w' => e = .returned (tup2 (resI n)) ∧ w = w' := by
  go_enter Tryd.func42, Tryd.ntmps42
  go_wp2_with fail
  refine (rValid_any _ _).mono ?_
  rintro e w1 ⟨rfl, rfl⟩
  cases hv : vI n
  · have HD := Lib.hid (resI_no hv)
    clear hv
    go_wp2
    go_ret2
    exact ⟨ret_tup2 HD.out, rfl⟩
  · have HD := Lib.hid (resI_yes hv)
    clear hv
    go_wp2
    go_ret2
    exact ⟨ret_tup2 HD.out, rfl⟩

def addI (a b : Int) : Int × Int := if (vI a && vI b) = true then resI (a + b) else (0, 2)
def subI (a b : Int) : Int × Int := if (vI a && vI b) = true then resI (a - b) else (0, 2)
def mulI (a b : Int) : Int × Int := if (vI a && vI b) = true then resI (a * b) else (0, 2)
theorem bnd2 {a b : Int} (h : (vI a && vI b) = true) : -1000000000000 ≤ a ∧ a ≤ 1000000000000 ∧ -1000000000000 ≤ b ∧ b ≤ 1000000000000 := by
  rw [Bool.and_eq_true, vI_iff, vI_iff] at h
  omega
theorem Add_any (a b : Int) (w : World) : Calls Tryd.prog 26 #[.int .i64 a, .int .i64 b] w fun e w' => e = .returned (tup2 (addI a b)) ∧ Below w.heap.size w w' := by
  go_enter Tryd.func26, Tryd.ntmps26
  go_wp2_with fail
  refine (valid2 a b _ _ _ rfl).mono ?_
  rintro e w1 ⟨rfl, rfl⟩
  have hlow : Below w.heap.size w (w.alloc (.cells #[.int .i64 a, .int .i64 b] 3)) := (Below.refl _ _).alloc (Nat.le_refl _) _
  generalize w.alloc (.cells #[.int .i64 a, .int .i64 b] 3) = W at *
  cases hv : (vI a && vI b)
  · have HD : Hid (addI a b = (0, 2)) := by show addI a b = _; unfold addI; rw [if_neg (by rw [hv]; simp)]
    clear hv
    go_wp2
    go_ret2
    exact ⟨ret_tup2 HD.out, hlow⟩
  · have HD : Hid (addI a b = resI (a + b)) := by show addI a b = _; unfold addI; rw [if_pos hv]
    obtain ⟨a1, a2, b1, b2⟩ := bnd2 hv
    clear hv
    go_wp2_with fail
    refine (result_any _ _).mono ?_
    rintro e w2 ⟨rfl, rfl⟩
    simp only [tup2]
    rw [← HD.out]
    go_wp2
    go_ret2
    exact ⟨rfl, hlow⟩
theorem rAdd_any (a b : Int) (w : World) : Calls Tryd.prog 29 #[.int .i64 a, .int .i64 b] w fun e w' => e = .returned (tup2 (addI a b)) ∧ Below w.heap.size w w' := by
  have hno : (vI a && vI b) = false → addI a b = (0, 2) := fun hv => by unfold addI; rw [if_neg (by rw [hv]; simp)]
  have hyes : (vI a && vI b) = true → addI a b = resI (a + b) := fun hv => by unfold addI; rw [if_pos hv]
  have HH := Lib.hid (And.intro hno hyes)
  clear hno hyes
  go_enter Tryd.func29, Tryd.ntmps29
  go_wp2_with fail
  refine (rValid_any _ _).mono ?_
  rintro e w1 ⟨rfl, rfl⟩
  cases ha : vI a
  · have HD := Lib.hid (HH.out.1 (by rw [ha]; rfl))
    clear ha
    go_wp2
    go_ret2
    exact ⟨ret_tup2 HD.out, Below.refl _ _⟩
  · have HA := Lib.hid ha
    clear ha
    go_wp2_with fail
    refine (rValid_any _ _).mono ?_
    rintro e w1 ⟨rfl, rfl⟩
    cases hb : vI b
    · have HD := Lib.hid (HH.out.1 (by rw [HA.out, hb]; rfl))
      clear hb
      go_wp2
      go_ret2
      exact ⟨ret_tup2 HD.out, Below.refl _ _⟩
    · have hv : (vI a && vI b) = true := by rw [HA.out, hb]; rfl
      have HD := Lib.hid (HH.out.2 hv)
      obtain ⟨a1, a2, b1, b2⟩ := bnd2 hv
      clear hb hv
      go_wp2_with fail
      refine (rresult_any _ _).mono ?_
      rintro e w2 ⟨rfl, rfl⟩
      simp only [tup2]
      rw [← HD.out]
      go_wp2
      go_ret2
      exact ⟨rfl, Below.refl _ _⟩
theorem Sub_any (a b : Int) (w : World) : Calls Tryd.prog 27 #[.int .i64 a, .int .i64 b] w fun e w' => e = .returned (tup2 (subI a b)) ∧ Below w.heap.size w w' := by
  go_enter Tryd.func27, Tryd.ntmps27
  go_wp2_with fail
  refine (valid2 a b _ _ _ rfl).mono ?_
  rintro e w1 ⟨rfl, rfl⟩
  have hlow : Below w.heap.size w (w.alloc (.cells #[.int .i64 a, .int .i64 b] 3)) := (Below.refl _ _).alloc (Nat.le_refl _) _
  generalize w.alloc (.cells #[.int .i64 a, .int .i64 b] 3) = W at *
  cases hv : (vI a && vI b)
  · have HD : Hid (subI a b = (0, 2)) := by show subI a b = _; unfold subI; rw [if_neg (by rw [hv]; simp)]
    clear hv
    go_wp2
    go_ret2
    exact ⟨ret_tup2 HD.out, hlow⟩
  · have HD : Hid (subI a b = resI (a - b)) := by show subI a b = _; unfold subI; rw [if_pos hv]
    obtain ⟨a1, a2, b1, b2⟩ := bnd2 hv
    clear hv
    go_wp2_with fail
    refine (result_any _ _).mono ?_
    rintro e w2 ⟨rfl, rfl⟩
    simp only [tup2]
    rw [← HD.out]
    go_wp2
    go_ret2
    exact ⟨rfl, hlow⟩
theorem rSub_any (a b : Int) (w : World) : Calls Tryd.prog 30 #[.int .i64 a, .int .i64 b] w fun e w' => e = .returned (tup2 (subI a b)) ∧ Below w.heap.size w w' := by
  have hno : (vI a && vI b) = false → subI a b = (0, 2) := fun hv => by unfold subI; rw [if_neg (by rw [hv]; simp)]
  have hyes : (vI a && vI b) = true → subI a b = resI (a - b) := fun hv => by unfold subI; rw [if_pos hv]
  have HH := Lib.hid (And.intro hno hyes)
  clear hno hyes
  go_enter Tryd.func30, Tryd.ntmps30
  go_wp2_with fail
  refine (rValid_any _ _).mono ?_
  rintro e w1 ⟨rfl, rfl⟩
  cases ha : vI a
  · have HD := Lib.hid (HH.out.1 (by rw [ha]; rfl))
    clear ha
    go_wp2
    go_ret2
    exact ⟨ret_tup2 HD.out, Below.refl _ _⟩
  · have HA := Lib.hid ha
    clear ha
    go_wp2_with fail
    refine (rValid_any _ _).mono ?_
    rintro e w1 ⟨rfl, rfl⟩
    cases hb : vI b
    · have HD := Lib.hid (HH.out.1 (by rw [HA.out, hb]; rfl))
      clear hb
      go_wp2
      go_ret2
      exact ⟨ret_tup2 HD.out, Below.refl _ _⟩
    · have hv : (vI a && vI b) = true := by rw [HA.out, hb]; rfl
      have HD := Lib.hid (HH.out.2 hv)
      obtain ⟨a1, a2, b1, b2⟩ := bnd2 hv
      clear hb hv
      go_wp2_with fail
      refine (rresult_any _ _).mono ?_
      rintro e w2 ⟨rfl, rfl⟩
      simp only [tup2]
      rw [← HD.out]
      go_wp2
      go_ret2
      exact ⟨rfl, Below.refl _ _⟩

theorem amount_any (n : Int) (w : World) (h1 : -1000000000000 ≤ n) (h2 : n ≤ 1000000000000) : Calls Tryd.prog 41 #[.int .i64 n] w fun e w' => e = .returned (.int .u64 (n.natAbs : Int)) ∧ w = w' := by
  rcases Int.lt_or_le n 0 with h | h
  all_goals
    go_enter Tryd.func41, Tryd.ntmps41
    go_wp2
    go_ret
    exact ⟨ret_int (by omega), rfl⟩
theorem ramount_any (n : Int) (w : World) (h1 : -1000000000000 ≤ n) (h2 : n ≤ 1000000000000) : Calls Tryd.prog 43 #[.int .i64 n] w fun e w' => e = .returned (.int .i64 (n.natAbs : Int)) ∧ w = w' := by
  rcases Int.lt_or_le n 0 with h | h
  all_goals
    go_enter Tryd.func43, Tryd.ntmps43
    go_wp2
    go_ret
    exact ⟨ret_int (by omega), rfl⟩
theorem mul_abs (a b : Int) : vI (a * b) = decide (a.natAbs * b.natAbs ≤ 1000000000000) := by
  have h := Int.natAbs_mul a b
  rw [← h]
  generalize a * b = p
  rw [Bool.eq_iff_iff, vI_iff, decide_eq_true_iff]
  omega
theorem mulI_far {a b : Int} (hv : (vI a && vI b) = true) (h : 1000000000000 < a.natAbs * b.natAbs) : mulI a b = (0, 8) := by
  unfold mulI
  rw [if_pos hv, resI_no]
  rw [mul_abs, decide_eq_false_iff_not]
  omega
theorem mulI_ok {a b : Int} (hv : (vI a && vI b) = true) (h : a.natAbs * b.natAbs ≤ 1000000000000) : mulI a b = (a * b, 0) ∧ -1000000000000 ≤ a * b ∧ a * b ≤ 1000000000000 := by
  have h' : vI (a * b) = true := by rw [mul_abs, decide_eq_true_iff]; exact h
  refine ⟨?_, (vI_iff _).1 h'⟩
  unfold mulI
  rw [if_pos hv, resI_yes h']
theorem abs_prod {a b : Int} (h : (vI a && vI b) = true) : a.natAbs * b.natAbs ≤ 1000000000000 * 1000000000000 := by
  obtain ⟨a1, a2, b1, b2⟩ := bnd2 h
  exact Nat.mul_le_mul (by omega) (by omega)
set_option maxHeartbeats 400000 in
theorem Mul_any (a b : Int) (w : World) : Calls Tryd.prog 28 #[.int .i64 a, .int .i64 b] w fun e w' => e = .returned (tup2 (mulI a b)) ∧ Below w.heap.size w w' := by
  go_enter Tryd.func28, Tryd.ntmps28
  go_wp2_with fail
  refine (valid2 a b _ _ _ rfl).mono ?_
  rintro e w1 ⟨rfl, rfl⟩
  have hlow : Below w.heap.size w (w.alloc (.cells #[.int .i64 a, .int .i64 b] 3)) := (Below.refl _ _).alloc (Nat.le_refl _) _
  generalize w.alloc (.cells #[.int .i64 a, .int .i64 b] 3) = W at *
  cases hv : (vI a && vI b)
  · have HD : Hid (mulI a b = (0, 2)) := by show mulI a b = _; unfold mulI; rw [if_neg (by rw [hv]; simp)]
    clear hv
    go_wp2
    go_ret2
    exact ⟨ret_tup2 HD.out, hlow⟩
  · have HV := Lib.hid hv
    obtain ⟨a1, a2, b1, b2⟩ := bnd2 hv
    clear hv
    go_wp2_with fail
    refine (amount_any a _ a1 a2).mono ?_
    rintro e w2 ⟨rfl, rfl⟩
    go_wp2_with fail
    refine (amount_any b _ b1 b2).mono ?_
    rintro e w2 ⟨rfl, rfl⟩
    go_wp2_with fail
    refine (Tryd.bits_Mul64 a.natAbs b.natAbs (by omega) (by omega) _).mono ?_
    rintro e w2 ⟨rfl, rfl⟩
    have hp := abs_prod HV.out
    by_cases hle : a.natAbs * b.natAbs ≤ 1000000000000
    · obtain ⟨hok, c1, c2⟩ := mulI_ok HV.out hle
      have HD := Lib.hid hok
      clear hok
      have e1 : a.natAbs * b.natAbs / 18446744073709551616 = 0 := by omega
      have e2 : a.natAbs * b.natAbs % 18446744073709551616 = a.natAbs * b.natAbs := by omega
      rw [e1, e2]
      clear e1 e2 hp
      generalize a.natAbs * b.natAbs = p at *
      go_wp2
      go_ret2
      exact ⟨ret_tup2 HD.out, hlow⟩
    · have HD := Lib.hid (mulI_far HV.out (by omega))
      have hor : 0 < a.natAbs * b.natAbs / 18446744073709551616 ∨ (a.natAbs * b.natAbs / 18446744073709551616 ≤ 0 ∧ 1000000000000 < a.natAbs * b.natAbs % 18446744073709551616) := by omega
      clear hp hle
      generalize a.natAbs * b.natAbs / 18446744073709551616 = hi at *
      generalize a.natAbs * b.natAbs % 18446744073709551616 = lo at *
      rcases hor with h | ⟨h, h'⟩
      all_goals
        go_wp2
        go_ret2
        exact ⟨ret_tup2 HD.out, hlow⟩
theorem quo_test {x y : Nat} (hx : 0 < x) : (1000000000000 / (x : Int) < (y : Int)) ↔ 1000000000000 < x * y := by
  have h : (1000000000000 / (x : Int)) = ((1000000000000 / x : Nat) : Int) := rfl
  rw [h, Int.ofNat_lt, Nat.div_lt_iff_lt_mul hx, Nat.mul_comm]
set_option maxHeartbeats 400000 in
theorem rMul_any (a b : Int) (w : World) : Calls Tryd.prog 31 #[.int .i64 a, .int .i64 b] w fun e w' => e = .returned (tup2 (mulI a b)) ∧ Below w.heap.size w w' := by
  have hno : (vI a && vI b) = false → mulI a b = (0, 2) := fun hv => by unfold mulI; rw [if_neg (by rw [hv]; simp)]
  have hyes : (vI a && vI b) = true → mulI a b = resI (a * b) := fun hv => by unfold mulI; rw [if_pos hv]
  have HH := Lib.hid (And.intro hno hyes)
  clear hno hyes
  go_enter Tryd.func31, Tryd.ntmps31
  go_wp2_with fail
  refine (rValid_any _ _).mono ?_
  rintro e w1 ⟨rfl, rfl⟩
  cases ha : vI a
  · have HD := Lib.hid (HH.out.1 (by rw [ha]; rfl))
    clear ha
    go_wp2
    go_ret2
    exact ⟨ret_tup2 HD.out, Below.refl _ _⟩
  · have HA := Lib.hid ha
    clear ha
    go_wp2_with fail
    refine (rValid_any _ _).mono ?_
    rintro e w1 ⟨rfl, rfl⟩
    cases hb : vI b
    · have HD := Lib.hid (HH.out.1 (by rw [HA.out, hb]; rfl))
      clear hb
      go_wp2
      go_ret2
      exact ⟨ret_tup2 HD.out, Below.refl _ _⟩
    · have hv : (vI a && vI b) = true := by rw [HA.out, hb]; rfl
      have HV := Lib.hid hv
      obtain ⟨a1, a2, b1, b2⟩ := bnd2 hv
      clear hb hv
      by_cases h0 : a = 0
      · have HD := Lib.hid (mulI_ok HV.out (by rw [h0]; simp)).1
        subst h0
        rw [Int.zero_mul] at HD
        go_wp2_with fail
        refine (rresult_any _ _).mono ?_
        rintro e w2 ⟨rfl, rfl⟩
        rw [resI_yes (by decide)]
        simp only [tup2]
        go_wp2
        go_ret2
        exact ⟨ret_tup2 HD.out, Below.refl _ _⟩
      · have hne : (a != 0) = true := by simpa using h0
        have ha1 : (1 : Int) ≤ (a.natAbs : Int) := by omega
        clear h0
        go_wp2_with fail
        refine (ramount_any b _ b1 b2).mono ?_
        rintro e w2 ⟨rfl, rfl⟩
        go_wp2_with fail
        refine (ramount_any a _ a1 a2).mono ?_
        rintro e w2 ⟨rfl, rfl⟩
        have hq := quo_test (x := a.natAbs) (y := b.natAbs) (by omega)
        by_cases hle : a.natAbs * b.natAbs ≤ 1000000000000
        · have hnlt : ¬ (1000000000000 / (a.natAbs : Int) < (b.natAbs : Int)) := fun h => by have := hq.1 h; omega
          obtain ⟨hok, c1, c2⟩ := mulI_ok HV.out hle
          have HD := Lib.hid (HH.out.2 HV.out)
          clear hq hok hle
          go_wp2_with fail
          refine (rresult_any _ _).mono ?_
          rintro e w2 ⟨rfl, rfl⟩
          simp only [tup2]
          rw [← HD.out]
          go_wp2
          go_ret2
          exact ⟨rfl, Below.refl _ _⟩
        · have hlt : 1000000000000 / (a.natAbs : Int) < (b.natAbs : Int) := hq.2 (by omega)
          have HD := Lib.hid (mulI_far HV.out (by omega))
          clear hq hle
          go_wp2
          go_ret2
          exact ⟨ret_tup2 HD.out, Below.refl _ _⟩
end Go.Proofs.YtkfoimjnkinkpaaDoor
