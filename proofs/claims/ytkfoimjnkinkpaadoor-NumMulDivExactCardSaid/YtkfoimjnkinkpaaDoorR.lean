/- The walk of NumMulDivExact. -/
import Derived.Test.YtkfoimjnkinkpaaDoorK2
namespace Go.Proofs.YtkfoimjnkinkpaaDoor
open Go.RowKit

theorem prod_parts (p1 p2 p3 p4 : Nat) : (p1 * 1000000000000 + (p2 + p3) * 1000000 + p4) / 1000000000000 = p1 + (p2 + p3) / 1000000 + (p4 + (p2 + p3) % 1000000 * 1000000) / 1000000000000 ∧
    (p1 * 1000000000000 + (p2 + p3) * 1000000 + p4) % 1000000000000 = (p4 + (p2 + p3) % 1000000 * 1000000) % 1000000000000 := by omega
theorem prod_spread (ah al bh bl : Nat) : (ah * 1000000 + al) * (bh * 1000000 + bl) = ah * bh * 1000000000000 + (ah * bl + al * bh) * 1000000 + al * bl := by
  have h1 : ah * 1000000 * (bh * 1000000) = ah * bh * 1000000000000 := by rw [Nat.mul_mul_mul_comm]
  have h2 : ah * 1000000 * bl = ah * bl * 1000000 := Nat.mul_right_comm _ _ _
  have h3 : al * (bh * 1000000) = al * bh * 1000000 := (Nat.mul_assoc _ _ _).symm
  rw [Nat.add_mul, Nat.mul_add, Nat.mul_add, h1, h2, h3]
  omega
set_option maxHeartbeats 1000000 in
theorem product_any (a b : Nat) (w : World) (ha : a ≤ 1000000000000) (hb : b ≤ 1000000000000) :
    Calls Tryd.prog 23 #[.int .i64 a, .int .i64 b] w fun e w' => e = .returned (.tuple #[.int .i64 ((a * b / 1000000000000 : Nat) : Int), .int .i64 ((a * b % 1000000000000 : Nat) : Int)]) ∧ w = w' := by
  obtain ⟨ah, hah⟩ : ∃ ah, ah = a / 1000000 := ⟨_, rfl⟩
  obtain ⟨al, hal⟩ : ∃ al, al = a % 1000000 := ⟨_, rfl⟩
  obtain ⟨bh, hbh⟩ : ∃ bh, bh = b / 1000000 := ⟨_, rfl⟩
  obtain ⟨bl, hbl⟩ : ∃ bl, bl = b % 1000000 := ⟨_, rfl⟩
  have e1 : (a : Int) / 1000000 = (ah : Int) := by omega
  have e2 : (a : Int) % 1000000 = (al : Int) := by omega
  have e3 : (b : Int) / 1000000 = (bh : Int) := by omega
  have e4 : (b : Int) % 1000000 = (bl : Int) := by omega
  have q1 : ah * bh ≤ 1000000 * 1000000 := Nat.mul_le_mul (by omega) (by omega)
  have q2 : ah * bl ≤ 1000000 * 1000000 := Nat.mul_le_mul (by omega) (by omega)
  have q3 : al * bh ≤ 1000000 * 1000000 := Nat.mul_le_mul (by omega) (by omega)
  have q4 : al * bl ≤ 1000000 * 1000000 := Nat.mul_le_mul (by omega) (by omega)
  have hab : a * b = ah * bh * 1000000000000 + (ah * bl + al * bh) * 1000000 + al * bl := by
    rw [← prod_spread, show ah * 1000000 + al = a by omega, show bh * 1000000 + bl = b by omega]
  obtain ⟨P1, P2⟩ := prod_parts (ah * bh) (ah * bl) (al * bh) (al * bl)
  rw [← hab] at P1 P2
  clear hab hah hal hbh hbl
  have m1 : (ah : Int) * (bh : Int) = ((ah * bh : Nat) : Int) := by simp
  have m2 : (ah : Int) * (bl : Int) = ((ah * bl : Nat) : Int) := by simp
  have m3 : (al : Int) * (bh : Int) = ((al * bh : Nat) : Int) := by simp
  have m4 : (al : Int) * (bl : Int) = ((al * bl : Nat) : Int) := by simp
  generalize ah * bh = p1 at *
  generalize ah * bl = p2 at *
  generalize al * bh = p3 at *
  generalize al * bl = p4 at *
  have HP := Lib.hid (And.intro P1 P2)
  clear P1 P2
  generalize a * b / 1000000000000 = X at *
  generalize a * b % 1000000000000 = Y at *
  go_enter Tryd.func23, Tryd.ntmps23
  go_wp2_with fail
  go_ret2
  refine ⟨?_, rfl⟩
  have hX := HP.out.1
  have hY := HP.out.2
  refine congrArg (fun x : Int × Int => Ending.returned (.tuple #[.int .i64 x.1, .int .i64 x.2])) (?_ : (_, _) = ((X : Int), (Y : Int)))
  refine Prod.ext ?_ ?_
  · show _ = (X : Int)
    omega
  · show _ = (Y : Int)
    omega
/-- What a result without an error says. -/
theorem mdI_cases (a b c : Int) : ((mdI a b c).2 ≠ 0) ∨ ∃ x y z q : Nat, a = x ∧ b = y ∧ c = z ∧ x ≤ 1000000000000 ∧ y ≤ 1000000000000 ∧ 0 < z ∧ z ≤ 1000000000000 ∧ q ≤ 1000000000000 ∧ mdI a b c = ((q : Int), 0) ∧ q * z ≤ x * y ∧ x * y < q * z + z := by
  by_cases h : (vI a && (vI b && vI c)) = true ∧ 0 ≤ a ∧ 0 ≤ b ∧ 0 ≤ c
  · obtain ⟨hv, a0, b0, c0⟩ := h
    have hbd := hv
    rw [Bool.and_eq_true, Bool.and_eq_true, vI_iff, vI_iff, vI_iff] at hbd
    obtain ⟨x, rfl⟩ := Int.eq_ofNat_of_zero_le a0
    obtain ⟨y, rfl⟩ := Int.eq_ofNat_of_zero_le b0
    obtain ⟨z, rfl⟩ := Int.eq_ofNat_of_zero_le c0
    have e : mdI x y z = mdN x y z := by unfold mdI; rw [if_pos ⟨hv, a0, b0, c0⟩, Int.toNat_natCast, Int.toNat_natCast, Int.toNat_natCast]
    rw [e]
    unfold mdN
    split
    · exact .inl (by decide)
    · rename_i hz
      split
      · rename_i hq
        have h1 := Nat.div_add_mod (x * y) z
        have h2 := Nat.mod_lt (x * y) (show 0 < z by omega)
        rw [Nat.mul_comm] at h1
        generalize x * y / z = q at *
        exact .inr ⟨x, y, z, q, rfl, rfl, rfl, by omega, by omega, by omega, by omega, hq, rfl, by omega, by omega⟩
      · exact .inl (by decide)
  · refine .inl ?_
    unfold mdI
    rw [if_neg h]
    decide
set_option maxHeartbeats 1000000 in
theorem law_exact (a b c : Int) (w : World) (hX : LaidW w) :
    Calls Tryd.prog 7 #[.int .i64 a, .int .i64 b, .int .i64 c] w fun e w' => e = .returned (.bool true) ∧ Below w.heap.size w w' := by
  have HX := Lib.hid hX
  clear hX
  have hc := mdI_cases a b c
  have HC := Lib.hid hc
  clear hc
  go_enter Tryd.func7, Tryd.ntmps7
  go_wp2_with fail
  refine (MulDiv_any a b c _).mono ?_
  rintro e w1 ⟨rfl, k1⟩
  simp only [tup2]
  go_wp2_with fail
  refine (rMulDiv_any a b c _).mono ?_
  rintro e w2 ⟨rfl, hb2⟩
  have k2 := k1.trans (hb2.mono k1.size)
  clear hb2
  simp only [tup2]
  rcases HC.out with hne | ⟨x, y, z, q, rfl, rfl, rfl, hx, hy, hz0, hz, hq, he, hl1, hl2⟩
  · generalize mdI a b c = R at *
    obtain ⟨v, er⟩ := R
    have hne' : (er != 0) = true := by simpa using hne
    clear hne
    go_wp2_with fail
    refine (awake_any _ (HX.out.below k2).tab).mono ?_
    rintro e w3 ⟨rfl, hb3⟩
    have k3 := k2.trans (hb3.mono k2.size)
    go_wp2
    go_ret
    exact ⟨rfl, k3⟩
  · rw [he]
    clear he
    obtain ⟨H, hH⟩ : ∃ H, H = x * y / 1000000000000 := ⟨_, rfl⟩
    obtain ⟨L, hL⟩ : ∃ L, L = x * y % 1000000000000 := ⟨_, rfl⟩
    obtain ⟨X, hXe⟩ : ∃ X, X = q * z / 1000000000000 := ⟨_, rfl⟩
    obtain ⟨Y, hYe⟩ : ∃ Y, Y = q * z % 1000000000000 := ⟨_, rfl⟩
    have H1 := Lib.hid (And.intro hH (And.intro hL (And.intro hXe (And.intro hYe (And.intro hl1 hl2)))))
    clear hH hL hXe hYe hl1 hl2
    go_wp2_with fail
    refine (product_any x y _ hx hy).mono ?_
    rintro e w3 ⟨rfl, rfl⟩
    rw [← H1.out.1, ← H1.out.2.1]
    go_wp2_with fail
    refine (product_any q z _ hq hz).mono ?_
    rintro e w3 ⟨rfl, rfl⟩
    rw [← H1.out.2.2.1, ← H1.out.2.2.2.1]
    obtain ⟨hH, hL, hXe, hYe, hl1, hl2⟩ := H1.out
    have f1 : X < H ∨ (X = H ∧ Y ≤ L) := by omega
    have f2 : H < X + (Y + z) / 1000000000000 ∨ (X + (Y + z) / 1000000000000 = H ∧ L < (Y + z) % 1000000000000) := by omega
    have hLb : L < 1000000000000 := by omega
    have hYb : Y < 1000000000000 := by omega
    have hXb : X ≤ 1000000000000 := by have : q * z ≤ 1000000000000 * 1000000000000 := Nat.mul_le_mul hq hz; omega
    have hHb : H ≤ 1000000000000 := by have : x * y ≤ 1000000000000 * 1000000000000 := Nat.mul_le_mul hx hy; omega
    clear hH hL hXe hYe hl1 hl2 H1
    obtain ⟨dq, hdq⟩ : ∃ dq, dq = (Y + z) / 1000000000000 := ⟨_, rfl⟩
    obtain ⟨dr, hdr⟩ : ∃ dr, dr = (Y + z) % 1000000000000 := ⟨_, rfl⟩
    rw [← hdq, ← hdr] at f2
    have e1 : ((Y : Int) + (z : Int)) / 1000000000000 = (dq : Int) := by omega
    have e2 : ((Y : Int) + (z : Int)) % 1000000000000 = (dr : Int) := by omega
    have hdqb : dq ≤ 2 := by omega
    clear hdq hdr
    have HA := HX
    rcases f1 with f1 | ⟨rfl, f1⟩
    all_goals
      rcases f2 with f2 | ⟨f2, f3⟩
      all_goals
        go_wp2_with fail
        all_goals try (exfalso; omega)
        all_goals
          refine (awake_any _ (HX.out.below k2).tab).mono ?_
          rintro e w4 ⟨rfl, hb4⟩
          have k4 := k2.trans (hb4.mono k2.size)
          go_wp2
          go_ret
          exact ⟨rfl, k4⟩
end Go.Proofs.YtkfoimjnkinkpaaDoor
