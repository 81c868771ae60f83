/- The walks of MulDiv and its reference. -/
import Derived.Test.YtkfoimjnkinkpaaDoorZ
import Derived.Test.YtkfoimjnkinkpaaDoorI
import Derived.Deep.QuietTactic
namespace Go.Proofs.YtkfoimjnkinkpaaDoor
open Go.RowKit

/-- bits.Div64 below the divisor. -/
theorem Div64_any (x1 x0 y : Nat) (hx1 : x1 < y) (hx0 : x0 < 18446744073709551616) (hy : y < 18446744073709551616) (w : World) :
    Calls Tryd.prog 38 #[.int .u64 x1, .int .u64 x0, .int .u64 y] w fun e w' => e = .returned (.tuple #[.int .u64 (((x1 * (4294967296 * 4294967296) + x0) / y : Nat) : Int), .int .u64 (((x1 * (4294967296 * 4294967296) + x0) % y : Nat) : Int)]) ∧ Below w.heap.size w w' := by
  by_cases h0 : x1 = 0
  · subst h0
    rw [Nat.zero_mul, Nat.zero_add]
    exact Div64_zero x0 y hx1 hx0 hy w
  · obtain ⟨s, Y, yh, yl, U, t, u1, u0, qa, pa, ra, va, vb, d1, vc, m1, qb, pb, rb, ve, vf, d0, vg, R, D⟩ := divN_of x1 x0 y hx1 hx0 hy
    refine (Div64_core D hx1 (by omega) hy w).mono ?_
    rintro e w' ⟨rfl, rfl⟩
    exact ⟨rfl, Below.refl _ _⟩
/-- The quotient of a product, where it fits. -/
def mdN (a b c : Nat) : Int × Int := if c = 0 then (0, 9) else if a * b / c ≤ 1000000000000 then (((a * b / c : Nat) : Int), 0) else (0, 8)
def mdI (a b c : Int) : Int × Int := if (vI a && (vI b && vI c)) = true ∧ 0 ≤ a ∧ 0 ≤ b ∧ 0 ≤ c then mdN a.toNat b.toNat c.toNat else (0, 2)
theorem word_split (p : Nat) : p / 18446744073709551616 * (4294967296 * 4294967296) + p % 18446744073709551616 = p := by omega
theorem high_far {p c : Nat} (hc : 0 < c) (h : c ≤ p / 18446744073709551616) : 1000000000000 < p / c := by
  have h1 : c * 18446744073709551616 ≤ p := by omega
  have h2 : 18446744073709551616 ≤ p / c := by rw [Nat.le_div_iff_mul_le hc, Nat.mul_comm]; exact h1
  omega
set_option maxHeartbeats 1000000 in
theorem MulDiv_any (a b c : Int) (w : World) : Calls Tryd.prog 21 #[.int .i64 a, .int .i64 b, .int .i64 c] w fun e w' => e = .returned (tup2 (mdI a b c)) ∧ Below w.heap.size w w' := by
  go_enter Tryd.func21, Tryd.ntmps21
  go_wp2_with fail
  refine (valid3 a b c _ _ _ rfl).mono ?_
  rintro e w1 ⟨rfl, rfl⟩
  have hlow : Below w.heap.size w (w.alloc (.cells #[.int .i64 a, .int .i64 b, .int .i64 c] 3)) := (Below.refl _ _).alloc (Nat.le_refl _) _
  have hz := hlow.size
  generalize w.alloc (.cells #[.int .i64 a, .int .i64 b, .int .i64 c] 3) = W at *
  cases hv : (vI a && (vI b && vI c))
  · have HD : Hid (mdI a b c = (0, 2)) := by show mdI a b c = _; unfold mdI; rw [if_neg (by rw [hv]; simp)]
    clear hv
    go_wp2
    go_ret2
    exact ⟨ret_tup2 HD.out, hlow⟩
  · have HV := Lib.hid hv
    have hbd : (-1000000000000 ≤ a ∧ a ≤ 1000000000000) ∧ (-1000000000000 ≤ b ∧ b ≤ 1000000000000) ∧ -1000000000000 ≤ c ∧ c ≤ 1000000000000 := by
      rw [Bool.and_eq_true, Bool.and_eq_true, vI_iff, vI_iff, vI_iff] at hv; exact hv
    clear hv
    by_cases hn : 0 ≤ a ∧ 0 ≤ b ∧ 0 ≤ c
    · obtain ⟨a0, b0, c0⟩ := hn
      have HD0 : Hid (mdI a b c = mdN a.toNat b.toNat c.toNat) := by show mdI a b c = _; unfold mdI; rw [if_pos ⟨HV.out, a0, b0, c0⟩]
      obtain ⟨x, rfl⟩ := Int.eq_ofNat_of_zero_le a0
      obtain ⟨y, rfl⟩ := Int.eq_ofNat_of_zero_le b0
      obtain ⟨z, rfl⟩ := Int.eq_ofNat_of_zero_le c0
      rw [Int.toNat_natCast, Int.toNat_natCast, Int.toNat_natCast] at HD0
      obtain ⟨⟨-, a2⟩, ⟨-, b2⟩, -, c2⟩ := hbd
      by_cases hz0 : z = 0
      · have HD := Lib.hid (show mdN x y z = (0, 9) by unfold mdN; rw [if_pos hz0])
        subst hz0
        go_wp2_with fail
        all_goals try (exfalso; omega)
        all_goals
          go_ret2
          exact ⟨ret_tup2 (HD0.out.trans HD.out), hlow⟩
      · have hzb : ((z : Int) == 0) = false := beq_eq_false_iff_ne.2 (by omega)
        have hHi := high_far (p := x * y) (c := z) (by omega)
        have hSp := word_split (x * y)
        have HP := Lib.hid (And.intro hHi hSp)
        clear hHi hSp
        have hN : mdN x y z = if x * y / z ≤ 1000000000000 then (((x * y / z : Nat) : Int), 0) else (0, 8) := by unfold mdN; rw [if_neg hz0]
        have HN := Lib.hid hN
        clear hN
        go_wp2_with fail
        all_goals try (exfalso; omega)
        all_goals
          refine (Tryd.bits_Mul64 x y (by omega) (by omega) _).mono ?_
          rintro e w2 ⟨rfl, rfl⟩
          have hlo : x * y % 18446744073709551616 < 18446744073709551616 := Nat.mod_lt _ (by omega)
          have HL := Lib.hid hlo
          clear hlo
          generalize hhi : x * y / 18446744073709551616 = hi at *
          generalize hlo : x * y % 18446744073709551616 = lo at *
          clear hhi hlo
          by_cases hge : z ≤ hi
          · have HD := Lib.hid (HN.out.trans (if_neg (by have := HP.out.1 hge; omega)))
            go_wp2_with fail
            go_ret2
            exact ⟨ret_tup2 (HD0.out.trans HD.out), hlow⟩
          · go_wp2_with fail
            refine (Div64_any hi lo z (by omega) HL.out (by omega) _).mono ?_
            rintro e w3 ⟨rfl, hb3⟩
            have k3 := hlow.trans (hb3.mono hz)
            rw [HP.out.2]
            generalize x * y / z = q at *
            by_cases hq : q ≤ 1000000000000
            · have HD := Lib.hid (HN.out.trans (if_pos hq))
              go_wp2_with fail
              go_ret2
              exact ⟨ret_tup2 (HD0.out.trans HD.out), k3⟩
            · have HD := Lib.hid (HN.out.trans (if_neg hq))
              go_wp2_with fail
              go_ret2
              exact ⟨ret_tup2 (HD0.out.trans HD.out), k3⟩
    · have HD : Hid (mdI a b c = (0, 2)) := by show mdI a b c = _; unfold mdI; rw [if_neg (fun h => hn h.2)]
      go_wp2_with fail
      all_goals try (exfalso; omega)
      all_goals
        go_ret2
        exact ⟨ret_tup2 HD.out, hlow⟩
/-! ### the reference -/
def carI (q r c : Int) : Int × Int := if c ≤ r then (q + 1, r - c) else (q, r)
theorem carry_any (q r c : Int) (w : World) (hq0 : 0 ≤ q) (hq : q ≤ 9000000000000000000) (hr0 : 0 ≤ r) (hr : r ≤ 9000000000000000000) (_hc : 0 ≤ c) :
    Calls Tryd.prog 39 #[.int .i64 q, .int .i64 r, .int .i64 c] w fun e w' => e = .returned (tup2 (carI q r c)) ∧ w = w' := by
  by_cases h : c ≤ r
  · have HD := Lib.hid (show carI q r c = (q + 1, r - c) from if_pos h)
    go_enter Tryd.func39, Tryd.ntmps39
    go_wp2
    go_ret2
    exact ⟨ret_tup2 HD.out, rfl⟩
  · have HD := Lib.hid (show carI q r c = (q, r) from if_neg h)
    go_enter Tryd.func39, Tryd.ntmps39
    go_wp2
    go_ret2
    exact ⟨ret_tup2 HD.out, rfl⟩
theorem carI_nat {q r c : Nat} {A : Nat} (h : q * c + r = A) (hr : r < 2 * c) : ∃ q' r' : Nat, carI q r c = ((q' : Int), (r' : Int)) ∧ q' * c + r' = A ∧ r' < c ∧ q' ≤ q + 1 := by
  unfold carI
  split
  · refine ⟨q + 1, r - c, ?_, ?_, by omega, Nat.le_refl _⟩
    · rw [show ((r - c : Nat) : Int) = (r : Int) - c by omega]; simp
    · rw [Nat.add_mul]; omega
  · exact ⟨q, r, rfl, h, by omega, by omega⟩
theorem i64_and_nat (a b : Nat) (ha : a < 9223372036854775808) (hb : b < 9223372036854775808) : bits .and .i64 (a : Int) (b : Int) = ((a &&& b : Nat) : Int) := by
  have hx : a &&& b < 2 ^ 63 := Nat.and_lt_two_pow _ (by omega)
  show IntKind.i64.wrap ((BitVec.ofInt 64 (a : Int) &&& BitVec.ofInt 64 (b : Int)).toNat : Int) = _
  have h1 : (BitVec.ofInt 64 (a : Int)).toNat = a := by rw [BitVec.ofInt_natCast, BitVec.toNat_ofNat]; exact Nat.mod_eq_of_lt (by omega)
  have h2 : (BitVec.ofInt 64 (b : Int)).toNat = b := by rw [BitVec.ofInt_natCast, BitVec.toNat_ofNat]; exact Nat.mod_eq_of_lt (by omega)
  rw [BitVec.toNat_and, h1, h2]
  exact IntWalk.i64_in _ (by omega)
theorem and_bit (a j : Nat) (ha : a < 9223372036854775808) (hj : j ≤ 40) : bits .and .i64 (a : Int) ((2 ^ j : Nat) : Int) = (((a / 2 ^ j % 2) * 2 ^ j : Nat) : Int) := by
  have hlt : 2 ^ j ≤ 2 ^ 40 := Nat.pow_le_pow_right (by omega) hj
  rw [i64_and_nat a (2 ^ j) ha (by omega)]
  congr 1
  have h2 : a.testBit j = decide (a / 2 ^ j % 2 = 1) := Nat.testBit_eq_decide_div_mod_eq
  refine Nat.eq_of_testBit_eq fun i => ?_
  rw [Nat.testBit_and, Nat.testBit_two_pow]
  rcases Nat.mod_two_eq_zero_or_one (a / 2 ^ j) with h | h
  · by_cases e : j = i
    · subst e; simp [h2, h]
    · simp [e, h]
  · by_cases e : j = i
    · subst e; simp [h2, h]
    · simp [e, h]
/-- The bit m of the loop, and the bits of a that are done. -/
def BitR (a m A : Nat) : Prop := (m = 0 ∧ A = a) ∨ (∃ j, j ≤ 40 ∧ m = 2 ^ j ∧ A = a / (2 * m))
theorem bit_step {a m A : Nat} (h : BitR a m A) (hm : 0 < m) (ha : a ≤ 1000000000000) : ∃ d : Nat, d < 2 ∧ BitR a (m / 2) (2 * A + d) ∧ m ≤ 1099511627776 ∧ bits .and .i64 (a : Int) (m : Int) = ((d * m : Nat) : Int) := by
  rcases h with ⟨h, _⟩ | ⟨j, hj, rfl, rfl⟩
  · omega
  · have hlt : 2 ^ j ≤ 2 ^ 40 := Nat.pow_le_pow_right (by omega) hj
    refine ⟨a / 2 ^ j % 2, Nat.mod_lt _ (by omega), ?_, hlt, and_bit a j (by omega) hj⟩
    have hA : 2 * (a / (2 * 2 ^ j)) + a / 2 ^ j % 2 = a / 2 ^ j := by
      rw [Nat.mul_comm 2 (2 ^ j), ← Nat.div_div_eq_div_mul]; omega
    rw [hA]
    cases j with
    | zero => exact .inl ⟨by simp, by simp⟩
    | succ j => exact .inr ⟨j, by omega, by rw [Nat.pow_succ]; omega, by rw [Nat.pow_succ]; congr 1; omega⟩
theorem bit_start (a : Nat) (ha : a ≤ 1000000000000) : BitR a 1099511627776 0 := .inr ⟨40, Nat.le_refl _, rfl, by rw [Nat.div_eq_of_lt]; omega⟩
theorem bit_mono {a m A : Nat} (h : BitR a m A) : A ≤ a := by
  rcases h with ⟨_, rfl⟩ | ⟨j, _, _, rfl⟩
  · exact Nat.le_refl _
  · exact Nat.div_le_self _ _
theorem quo_of {q c r p : Nat} (h : q * c + r = p) (hr : r < c) : p / c = q := by
  rw [← h, Nat.mul_comm, Nat.mul_add_div (by omega), Nat.div_eq_of_lt hr, Nat.add_zero]
theorem mdI_no {a b c : Int} (h : (vI a && (vI b && vI c)) = false) : mdI a b c = (0, 2) := by unfold mdI; rw [if_neg (by rw [h]; simp)]
theorem carI_ints (q r c : Nat) {A : Nat} (h : q * c + r = A) (hr : r < c) : ∃ q' r' : Nat, carI (2 * (q : Int)) (2 * (r : Int)) (c : Int) = ((q' : Int), (r' : Int)) ∧ q' * c + r' = 2 * A ∧ r' < c ∧ q' ≤ 2 * q + 1 := by
  have := carI_nat (q := 2 * q) (r := 2 * r) (A := 2 * A) (by rw [Nat.mul_assoc, ← Nat.mul_add, h]) (by omega)
  simpa using this
theorem far_quo {u z v A x y : Nat} (h : u * z + v = A * y) (hA : A ≤ x) (hu : 1000000000000 < u) (hz : 0 < z) : 1000000000000 < x * y / z := by
  have h1 : A * y ≤ x * y := Nat.mul_le_mul_right _ hA
  have h2 : u ≤ x * y / z := by rw [Nat.le_div_iff_mul_le hz]; omega
  omega
set_option maxHeartbeats 2000000 in
set_option maxRecDepth 100000 in
theorem rMulDiv_any (a b c : Int) (w : World) : Calls Tryd.prog 22 #[.int .i64 a, .int .i64 b, .int .i64 c] w fun e w' => e = .returned (tup2 (mdI a b c)) ∧ Below w.heap.size w w' := by
  cases ha : vI a
  · have HD := Lib.hid (mdI_no (a := a) (b := b) (c := c) (by rw [ha]; rfl))
    have HA := Lib.hid ha
    clear ha
    go_enter Tryd.func22, Tryd.ntmps22
    go_wp2_with fail
    refine (rValid_any _ _).mono ?_
    rintro e w1 ⟨rfl, rfl⟩
    rw [HA.out]
    go_wp2
    go_ret2
    exact ⟨ret_tup2 HD.out, Below.refl _ _⟩
  cases hb : vI b
  · have HD := Lib.hid (mdI_no (a := a) (b := b) (c := c) (by rw [hb]; simp))
    have HA := Lib.hid (And.intro ha hb)
    clear ha hb
    go_enter Tryd.func22, Tryd.ntmps22
    go_wp2_with fail
    refine (rValid_any _ _).mono ?_
    rintro e w1 ⟨rfl, rfl⟩
    rw [HA.out.1]
    go_wp2_with fail
    refine (rValid_any _ _).mono ?_
    rintro e w1 ⟨rfl, rfl⟩
    rw [HA.out.2]
    go_wp2
    go_ret2
    exact ⟨ret_tup2 HD.out, Below.refl _ _⟩
  have hgo : ∀ K : Bool, vI c = K → (K = false → mdI a b c = (0, 2)) := fun K hK h => mdI_no (by rw [hK, h]; simp)
  have HA := Lib.hid (And.intro ha hb)
  have HK := Lib.hid hgo
  have hab : (-1000000000000 ≤ a ∧ a ≤ 1000000000000) ∧ (-1000000000000 ≤ b ∧ b ≤ 1000000000000) := ⟨(vI_iff a).1 ha, (vI_iff b).1 hb⟩
  clear ha hb hgo
  obtain ⟨⟨a1, a2⟩, b1, b2⟩ := hab
  cases hc : vI c
  · have HD := Lib.hid (HK.out _ hc rfl)
    have HC := Lib.hid hc
    clear hc
    go_enter Tryd.func22, Tryd.ntmps22
    go_wp2_with fail
    refine (rValid_any _ _).mono ?_
    rintro e w1 ⟨rfl, rfl⟩
    rw [HA.out.1]
    go_wp2_with fail
    refine (rValid_any _ _).mono ?_
    rintro e w1 ⟨rfl, rfl⟩
    rw [HA.out.2]
    go_wp2_with fail
    refine (rValid_any _ _).mono ?_
    rintro e w1 ⟨rfl, rfl⟩
    rw [HC.out]
    go_wp2
    go_ret2
    exact ⟨ret_tup2 HD.out, Below.refl _ _⟩
  have HC := Lib.hid hc
  obtain ⟨c1, c2⟩ := (vI_iff c).1 hc
  clear hc
  by_cases hn : 0 ≤ a ∧ 0 ≤ b ∧ 0 ≤ c
  · obtain ⟨a0, b0, c0⟩ := hn
    have HD0 : Hid (mdI a b c = mdN a.toNat b.toNat c.toNat) := by show mdI a b c = _; unfold mdI; rw [if_pos ⟨by rw [HA.out.1, HA.out.2, HC.out]; rfl, a0, b0, c0⟩]
    obtain ⟨x, rfl⟩ := Int.eq_ofNat_of_zero_le a0
    obtain ⟨y, rfl⟩ := Int.eq_ofNat_of_zero_le b0
    obtain ⟨z, rfl⟩ := Int.eq_ofNat_of_zero_le c0
    rw [Int.toNat_natCast, Int.toNat_natCast, Int.toNat_natCast] at HD0
    clear a0 b0 c0 a1 b1 c1
    by_cases hz0 : z = 0
    · have HD := Lib.hid (show mdN x y z = (0, 9) by unfold mdN; rw [if_pos hz0])
      subst hz0
      go_enter Tryd.func22, Tryd.ntmps22
      go_wp2_with fail
      refine (rValid_any _ _).mono ?_
      rintro e w1 ⟨rfl, rfl⟩
      rw [HA.out.1]
      go_wp2_with fail
      refine (rValid_any _ _).mono ?_
      rintro e w1 ⟨rfl, rfl⟩
      rw [HA.out.2]
      go_wp2_with fail
      refine (rValid_any _ _).mono ?_
      rintro e w1 ⟨rfl, rfl⟩
      rw [show vI 0 = true from by decide]
      go_wp2
      all_goals try (exfalso; omega)
      go_ret2
      exact ⟨ret_tup2 (HD0.out.trans HD.out), Below.refl _ _⟩
    · have hzb : ((z : Int) == 0) = false := beq_eq_false_iff_ne.2 (by omega)
      have hz1 : 1 ≤ z := by omega
      have hN : mdN x y z = if x * y / z ≤ 1000000000000 then (((x * y / z : Nat) : Int), 0) else (0, 8) := by unfold mdN; rw [if_neg hz0]
      have HN := Lib.hid hN
      clear hN hz0
      go_enter Tryd.func22, Tryd.ntmps22
      go_wp2_with fail
      refine (rValid_any _ _).mono ?_
      rintro e w1 ⟨rfl, rfl⟩
      rw [HA.out.1]
      go_wp2_with fail
      refine (rValid_any _ _).mono ?_
      rintro e w1 ⟨rfl, rfl⟩
      rw [HA.out.2]
      go_wp2_with fail
      refine (rValid_any _ _).mono ?_
      rintro e w1 ⟨rfl, rfl⟩
      rw [HC.out]
      go_wp2_with fail
      all_goals try (exfalso; omega)
      go_loopw [8, 9, 10] (fun q r m wr => ∃ u v k A : Nat, q = .int .i64 u ∧ r = .int .i64 v ∧ m = .int .i64 k ∧ BitR x k A ∧ u * z + v = A * y ∧ v < z ∧ u ≤ 1000000000000 ∧ Below w1.heap.size w1 wr) (fun _ _ m _ => (Lib.intOf m).toNat)
      case atStart => exact ⟨0, 0, 1099511627776, 0, rfl, rfl, rfl, bit_start x (by omega), by simp, by omega, by omega, Below.refl _ _⟩
      case round =>
        obtain ⟨u, v, k, A, rfl, rfl, rfl, hB, hsum, hv, hu, hbw⟩ := hrel
        by_cases hk : 0 < k
        · obtain ⟨d, hd, hB2, hkb, hbit⟩ := bit_step hB hk (by omega)
          obtain ⟨u1, v1, e1, s1, l1, m1⟩ := carI_ints u v z hsum hv
          have H1 := Lib.hid (And.intro e1 (And.intro s1 hB2))
          have HS := Lib.hid hsum
          clear e1 s1 hB hsum hB2
          have hyq : y / z ≤ y := Nat.div_le_self _ _
          have hyr : y % z < z := Nat.mod_lt _ hz1
          go_wp2_with fail
          refine (carry_any _ _ _ _ (by omega) (by omega) (by omega) (by omega) (by omega)).mono ?_
          rintro e w2 ⟨rfl, rfl⟩
          rw [H1.out.1]
          simp only [tup2]
          rcases (show d = 0 ∨ d = 1 by omega) with rfl | rfl
          · rw [Nat.zero_mul] at hbit
            rw [Nat.add_zero] at H1
            by_cases hf : 1000000000000 < u1
            · have HD := Lib.hid (HN.out.trans (if_neg (by have := far_quo (by rw [H1.out.2.1, ← Nat.mul_assoc]) (bit_mono H1.out.2.2) hf hz1; omega)))
              go_wp2_with fail
              go_ret2
              exact ⟨ret_tup2 (HD0.out.trans HD.out), hbw⟩
            · go_wp2_with fail
              go_roundw
              case rel => exact ⟨u1, v1, k / 2, 2 * A, rfl, rfl, by go_num, H1.out.2.2, by rw [H1.out.2.1, Nat.mul_assoc], l1, by omega, hbw⟩
              case measure => simp [Lib.intOf]; omega
          · rw [Nat.one_mul] at hbit
            have hk1 : ((k : Int) != 0) = true := by rw [bne_iff_ne]; omega
            go_wp2_with fail
            obtain ⟨dq, hdq⟩ : ∃ dq, dq = y / z := ⟨_, rfl⟩
            obtain ⟨dr, hdr⟩ : ∃ dr, dr = y % z := ⟨_, rfl⟩
            rw [← hdq] at hyq
            rw [← hdr] at hyr
            have t1 : (y : Int).tdiv (z : Int) = (dq : Int) := by rw [hdq]; rfl
            have t2 : (y : Int).tmod (z : Int) = (dr : Int) := by rw [hdr]; rfl
            have t3 : (y : Int) / (z : Int) = (dq : Int) := by rw [hdq]; rfl
            have t4 : (y : Int) % (z : Int) = (dr : Int) := by rw [hdr]; rfl
            have t5 : IntKind.i64.wrap (dq : Int) = (dq : Int) := IntWalk.i64_in _ (by omega)
            have t6 : IntKind.i64.wrap ((u1 : Int) + (dq : Int)) = (u1 : Int) + (dq : Int) := IntWalk.i64_in _ (by omega)
            have t7 : IntKind.i64.wrap ((v1 : Int) + (dr : Int)) = (v1 : Int) + (dr : Int) := IntWalk.i64_in _ (by omega)
            have hd2 : z * dq + dr = y := by rw [hdq, hdr]; exact Nat.div_add_mod y z
            obtain ⟨u2, v2, e2, s2, l2, m2⟩ := carI_nat (q := u1 + dq) (r := v1 + dr) (c := z) (A := (2 * A + 1) * y) (by rw [Nat.add_mul, Nat.add_mul, Nat.one_mul, Nat.mul_assoc, ← H1.out.2.1, Nat.mul_comm dq z]; omega) (by omega)
            have e3 : carI ((u1 : Int) + (dq : Int)) ((v1 : Int) + (dr : Int)) (z : Int) = ((u2 : Int), (v2 : Int)) := by rw [← Int.natCast_add, ← Int.natCast_add]; exact e2
            have hcc : ∀ W, Calls Tryd.prog 39 #[.int .i64 ((u1 : Int) + (dq : Int)), .int .i64 ((v1 : Int) + (dr : Int)), .int .i64 (z : Int)] W fun e w' => e = .returned (.tuple #[.int .i64 (u2 : Int), .int .i64 (v2 : Int)]) ∧ w' = W :=
              fun W => (carry_any ((u1 : Int) + (dq : Int)) ((v1 : Int) + (dr : Int)) z W (by omega) (by omega) (by omega) (by omega) (by omega)).mono fun e w' h => ⟨by rw [h.1, e3]; rfl, h.2.symm⟩
            have HCC := Lib.hid hcc
            have H2 := Lib.hid s2
            have HD2 := Lib.hid hd2
            clear hcc hdq hdr e2 e3 s2 hd2
            have hzne : z ≠ 0 := by omega
            have hzi : (1 : Int) ≤ (z : Int) := by omega
            have hyi : (0 : Int) ≤ (y : Int) := by omega
            go_quiet ((go_at_call 39; exact Calls.quiet_of_same (HCC.out _)))
            have hbn : ∀ n, Below w1.heap.size w1 (wr.drewN n) := fun n => hbw.trans (below_drewN' _ _ _)
            by_cases hf : 1000000000000 < u2
            · have HD := Lib.hid (HN.out.trans (if_neg (by have := far_quo H2.out (bit_mono H1.out.2.2) hf hz1; omega)))
              have HBN := Lib.hid hbn
              clear hbn
              go_wp2_with fail
              go_ret2
              exact ⟨ret_tup2 (HD0.out.trans HD.out), HBN.out _⟩
            · have HBN := Lib.hid hbn
              clear hbn
              go_wp2_with fail
              go_roundw
              case rel => exact ⟨u2, v2, k / 2, 2 * A + 1, rfl, rfl, by go_num, H1.out.2.2, H2.out, l2, by omega, HBN.out _⟩
              case measure => simp [Lib.intOf]; omega
        · obtain rfl : k = 0 := by omega
          have hA : A = x := by rcases hB with ⟨_, h⟩ | ⟨j, _, h, _⟩; exact h; have := Nat.pow_pos (n := j) (show 0 < 2 by omega); omega
          subst hA
          have hq := quo_of hsum hv
          have HD := Lib.hid (HN.out.trans (by rw [hq, if_pos hu]))
          clear hq hsum hB
          go_wp2_with fail
          go_ret2
          exact ⟨ret_tup2 (HD0.out.trans HD.out), hbw⟩
  · have HD : Hid (mdI a b c = (0, 2)) := by show mdI a b c = _; unfold mdI; rw [if_neg (fun h => hn h.2)]
    go_enter Tryd.func22, Tryd.ntmps22
    go_wp2_with fail
    refine (rValid_any _ _).mono ?_
    rintro e w1 ⟨rfl, rfl⟩
    rw [HA.out.1]
    go_wp2_with fail
    refine (rValid_any _ _).mono ?_
    rintro e w1 ⟨rfl, rfl⟩
    rw [HA.out.2]
    go_wp2_with fail
    refine (rValid_any _ _).mono ?_
    rintro e w1 ⟨rfl, rfl⟩
    rw [HC.out]
    go_wp2_with fail
    all_goals try (exfalso; omega)
    all_goals
      go_ret2
      exact ⟨ret_tup2 HD.out, Below.refl _ _⟩
end Go.Proofs.YtkfoimjnkinkpaaDoor
