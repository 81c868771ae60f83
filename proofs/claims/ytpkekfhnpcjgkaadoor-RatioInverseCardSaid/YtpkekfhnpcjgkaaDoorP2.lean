/- Long division of two words by one, in plain words: one digit of the quotient (B: the base). -/
import Derived.Lib.BitFns
namespace Go.Proofs.YtpkekfhnpcjgkaaDoor

/-- What a guess q of the digit (with its rest r) bears: it is not less than the digit. -/
structure Guess (B Y yh yl U u q r : Nat) : Prop where
  sum : q * yh + r = U
  up : (U * B + u) / Y ≤ q
section
variable {B Y yh yl U u q r : Nat}
theorem spread (q : Nat) (hY : Y = yh * B + yl) : q * Y = q * yh * B + q * yl := by rw [hY, Nat.mul_add, Nat.mul_assoc]
theorem guess_first (hY : Y = yh * B + yl) (hyh : 0 < yh) (hu : u < B) : Guess B Y yh yl U u (U / yh) (U % yh) := by
  refine ⟨by rw [Nat.mul_comm]; exact Nat.div_add_mod U yh, ?_⟩
  rw [Nat.le_div_iff_mul_le hyh]
  have h1 := Nat.div_mul_le_self (U * B + u) Y
  generalize (U * B + u) / Y = Q at h1 ⊢
  rw [spread Q hY] at h1
  have h2 : Q * yh * B < (U + 1) * B := by rw [Nat.add_mul]; omega
  have := Nat.lt_of_mul_lt_mul_right h2
  omega
theorem guess_bound (hY : Y = yh * B + yl) (hl : yl < B) (hyh : B ≤ 2 * yh) (hU : U < Y) (h : Guess B Y yh yl U u q r) : q ≤ B + 1 := by
  rcases Nat.lt_or_ge (B + 1) q with hq | hq
  · have h1 := h.sum
    have h2 : (B + 2) * yh ≤ q * yh := Nat.mul_le_mul_right _ hq
    rw [Nat.add_mul, Nat.mul_comm B yh] at h2
    omega
  · exact hq
theorem digit_lt (hU : U < Y) (hu : u < B) : (U * B + u) / Y < B := by
  rw [Nat.div_lt_iff_lt_mul (by omega), Nat.mul_comm B Y]
  have h : (U + 1) * B ≤ Y * B := Nat.mul_le_mul_right _ hU
  rw [Nat.add_mul] at h
  omega
/-- The guess is too great: one less still is not too small. -/
theorem guess_less (hY : Y = yh * B + yl) (hU : U < Y) (hu : u < B) (h : Guess B Y yh yl U u q r) (hgo : B ≤ q ∨ r * B + u < q * yl) :
    0 < q ∧ Guess B Y yh yl U u (q - 1) (r + yh) := by
  have hQ : (U * B + u) / Y < q := by
    rcases hgo with hg | hg
    · exact Nat.lt_of_lt_of_le (digit_lt hU hu) hg
    · rw [Nat.div_lt_iff_lt_mul (by omega), spread q hY]
      have h1 : (q * yh + r) * B = U * B := by rw [h.sum]
      rw [Nat.add_mul] at h1
      omega
  have hq0 : 0 < q := Nat.lt_of_le_of_lt (Nat.zero_le _) hQ
  obtain ⟨p, rfl⟩ : ∃ p, q = p + 1 := ⟨q - 1, by omega⟩
  refine ⟨hq0, ?_, Nat.le_of_lt_succ hQ⟩
  have h1 := h.sum
  rw [Nat.add_mul, Nat.one_mul] at h1
  rw [Nat.add_sub_cancel]
  omega
/-- The guess fits: it is the digit. -/
theorem guess_end (hY : Y = yh * B + yl) (hU : U < Y) (h : Guess B Y yh yl U u q r) (hstop : q * yl ≤ r * B + u) : q = (U * B + u) / Y := by
  refine Nat.le_antisymm ?_ h.up
  rw [Nat.le_div_iff_mul_le (by omega), spread q hY]
  have h1 : (q * yh + r) * B = U * B := by rw [h.sum]
  rw [Nat.add_mul] at h1
  omega
theorem guess_break (hY : Y = yh * B + yl) (hl : yl < B) (hU : U < Y) (h : Guess B Y yh yl U u q r) (hq : q ≤ B) (hr : B ≤ r) : q = (U * B + u) / Y := by
  refine guess_end hY hU h ?_
  have h1 : q * yl ≤ B * yl := Nat.mul_le_mul_right _ hq
  have h2 : B * yl ≤ B * B := Nat.mul_le_mul_left _ (by omega)
  have h3 : B * B ≤ r * B := Nat.mul_le_mul_right _ hr
  omega
end
/-- The two digits together, and the shift undone. -/
theorem two_digits {B hi lo y P Y un32 un1 un0 un10 d1 d0 m1 : Nat} (hy : 0 < y) (hP : 0 < P) (hYe : Y = y * P) (hN : (hi * (B * B) + lo) * P = un32 * (B * B) + un10)
    (h10 : un10 = un1 * B + un0)
    (e1 : d1 = (un32 * B + un1) / Y) (em : m1 = (un32 * B + un1) % Y) (e0 : d0 = (m1 * B + un0) / Y) :
    d1 * B + d0 = (hi * (B * B) + lo) / y ∧ (m1 * B + un0 - d0 * Y) / P = (hi * (B * B) + lo) % y := by
  have hY0 : 0 < Y := by rw [hYe]; exact Nat.mul_pos hy hP
  have a1 := Nat.div_add_mod (un32 * B + un1) Y
  rw [← e1, ← em] at a1
  have a0 := Nat.div_add_mod (m1 * B + un0) Y
  rw [← e0] at a0
  have l0 := Nat.mod_lt (m1 * B + un0) hY0
  generalize hR : (m1 * B + un0) % Y = R at a0 l0
  have hsum : (hi * (B * B) + lo) * P = Y * (d1 * B + d0) + R := by
    have b1 : (Y * d1 + m1) * B = (un32 * B + un1) * B := by rw [a1]
    rw [Nat.add_mul, Nat.add_mul, Nat.mul_assoc un32] at b1
    rw [hN, h10, Nat.mul_add, ← Nat.mul_assoc Y d1 B]
    omega
  have hdiv : (hi * (B * B) + lo) / y = d1 * B + d0 := by
    have h1 : (hi * (B * B) + lo) / y = ((hi * (B * B) + lo) * P) / (y * P) := (Nat.mul_div_mul_right _ _ hP).symm
    rw [h1, ← hYe, hsum, Nat.mul_add_div hY0, Nat.div_eq_of_lt l0, Nat.add_zero]
  refine ⟨hdiv.symm, ?_⟩
  have hsub : m1 * B + un0 - d0 * Y = R := by rw [Nat.mul_comm d0 Y]; omega
  rw [hsub]
  have h2 : R = ((hi * (B * B) + lo) % y) * P := by
    have h3 : ((hi * (B * B) + lo) * P) % (y * P) = ((hi * (B * B) + lo) % y) * P := Nat.mul_mod_mul_right _ _ _
    rw [← h3, ← hYe, hsum, Nat.mul_add_mod, Nat.mod_eq_of_lt l0]
  rw [h2, Nat.mul_div_cancel _ hP]
end Go.Proofs.YtpkekfhnpcjgkaaDoor
