/- Quotients and remainders, plain; the walk of NumQuotients. -/
import Derived.Test.YtkfoimjnkinkpaaDoorE
namespace Go.Proofs.YtkfoimjnkinkpaaDoor
open Go.RowKit

theorem dm_spec (a b : Int) (hv : (vI a && vI b) = true) (hb : b ≠ 0) :
    (dmI a b).2.2 = 0 ∧ (dmI a b).1 * b + (dmI a b).2.1 = a ∧ (0 < b → 0 ≤ (dmI a b).2.1 ∧ (dmI a b).2.1 < b) ∧ (b < 0 → (dmI a b).2.1 ≤ 0 ∧ b < (dmI a b).2.1) := by
  have h1 : a.tdiv b * b + a.tmod b = a := by have := Int.mul_tdiv_add_tmod a b; rw [Int.mul_comm] at this; exact this
  have h2 : (a.tmod b).natAbs = a.natAbs % b.natAbs := Int.natAbs_tmod a b
  have h3 := Nat.mod_lt a.natAbs (show 0 < b.natAbs by omega)
  unfold dmI
  rw [if_neg (by rw [hv]; simp), if_neg hb]
  generalize a.tdiv b = q at *
  generalize a.tmod b = r at *
  split
  · rename_i hc
    obtain ⟨hc1, hc2⟩ := hc
    refine ⟨rfl, ?_, fun hp => ?_, fun hp => ?_⟩
    · show (q - 1) * b + (r + b) = a
      rw [Int.sub_mul]; omega
    · show 0 ≤ r + b ∧ r + b < b
      have : r < 0 := by
        rcases Int.lt_or_le r 0 with h | h
        · exact h
        · exact absurd (⟨fun h' => by omega, fun h' => by omega⟩ : r < 0 ↔ b < 0) hc2
      omega
    · show r + b ≤ 0 ∧ b < r + b
      have : 0 ≤ r := by
        rcases Int.lt_or_le r 0 with h | h
        · exact absurd (⟨fun _ => hp, fun _ => h⟩ : r < 0 ↔ b < 0) hc2
        · exact h
      omega
  · rename_i hc
    have hc' : r = 0 ∨ (r < 0 ↔ b < 0) := by
      by_cases h0 : r = 0
      · exact .inl h0
      · exact .inr (Classical.byContradiction fun h => hc ⟨h0, h⟩)
    refine ⟨rfl, h1, fun hp => ?_, fun hp => ?_⟩
    · show 0 ≤ r ∧ r < b
      rcases hc' with h | h
      · omega
      · have : ¬ r < 0 := fun h' => by have := h.1 h'; omega
        omega
    · show r ≤ 0 ∧ b < r
      rcases hc' with h | h
      · omega
      · have : r < 0 := h.2 hp
        omega
theorem quo_zero {x b s : Int} (h : x * b = s) (hs : s.natAbs < b.natAbs) : x = 0 := by
  have hd : b ∣ s := ⟨x, by rw [← h, Int.mul_comm]⟩
  have h0 := Int.eq_zero_of_dvd_of_natAbs_lt_natAbs hd hs
  rw [h0] at h
  rcases Int.mul_eq_zero.1 h with h | h
  · exact h
  · subst h; simp at hs
theorem cd_spec (a b : Int) (hv : (vI a && vI b) = true) (hb : b ≠ 0) : (cdI a b).2 = 0 ∧ (dmI (-a) b).2.2 = 0 ∧ (cdI a b).1 = -(dmI (-a) b).1 := by
  have hv' : (vI (-a) && vI b) = true := by
    rw [Bool.and_eq_true, vI_iff, vI_iff] at hv ⊢
    omega
  obtain ⟨e1, e2, e3, e4⟩ := dm_spec a b hv hb
  obtain ⟨f1, f2, f3, f4⟩ := dm_spec (-a) b hv' hb
  refine ⟨e1, f1, ?_⟩
  unfold cdI
  generalize dmI a b = D at *
  generalize dmI (-a) b = F at *
  obtain ⟨q, r, e⟩ := D
  obtain ⟨p, t, g⟩ := F
  simp only at *
  split
  · rename_i hr
    have : (q + p) * b = -t := by rw [Int.add_mul]; omega
    have := quo_zero this (by rcases Int.lt_or_le 0 b with h | h; have := f3 h; omega; have := f4 (by omega); omega)
    omega
  · rename_i hr
    have : (q + 1 + p) * b = b - r - t := by rw [Int.add_mul, Int.add_mul]; omega
    have := quo_zero this (by rcases Int.lt_or_le 0 b with h | h; have := f3 h; have := e3 h; omega; have := f4 (by omega); have := e4 (by omega); omega)
    omega
end Go.Proofs.YtkfoimjnkinkpaaDoor
