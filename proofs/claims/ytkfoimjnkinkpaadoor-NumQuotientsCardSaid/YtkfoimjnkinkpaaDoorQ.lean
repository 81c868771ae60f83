/- The walk of NumQuotients. -/
import Derived.Test.YtkfoimjnkinkpaaDoorF
import Derived.Test.YtkfoimjnkinkpaaDoorN
namespace Go.Proofs.YtkfoimjnkinkpaaDoor
open Go.RowKit

theorem dm_not (a b : Int) (h : (dmI a b).2.2 ≠ 0) : dmI a b = (0, 0, 2) ∨ (dmI a b = (0, 0, 9) ∧ b = 0) := by
  unfold dmI at h ⊢
  split
  · exact .inl rfl
  · split
    · rename_i hb; exact .inr ⟨rfl, hb⟩
    · rename_i h1 h2
      rw [if_neg h1, if_neg h2] at h
      split at h <;> exact absurd rfl h
theorem dm_yes (a b : Int) (h : (dmI a b).2.2 = 0) : (vI a && vI b) = true ∧ b ≠ 0 := by
  unfold dmI at h
  split at h
  · cases h
  · rename_i h1
    split at h
    · cases h
    · rename_i h2
      exact ⟨by simpa using h1, h2⟩
set_option maxHeartbeats 1000000 in
theorem law_quotients (a b : Int) (w : World) (hX : LaidW w) :
    Calls Tryd.prog 6 #[.int .i64 a, .int .i64 b] w fun e w' => e = .returned (.bool true) ∧ Below w.heap.size w w' := by
  have HX := Lib.hid hX
  clear hX
  go_enter Tryd.func6, Tryd.ntmps6
  go_wp2_with fail
  refine (DivMod_any a b _).mono ?_
  rintro e w1 ⟨rfl, k1⟩
  by_cases he : (dmI a b).2.2 = 0
  · obtain ⟨hv, hb0⟩ := dm_yes a b he
    obtain ⟨-, s1, s2, s3⟩ := dm_spec a b hv hb0
    obtain ⟨c1, c2, c3⟩ := cd_spec a b hv hb0
    have hbd : (-1000000000000 ≤ a ∧ a ≤ 1000000000000) ∧ -1000000000000 ≤ b ∧ b ≤ 1000000000000 := by rw [Bool.and_eq_true, vI_iff, vI_iff] at hv; exact hv
    obtain ⟨⟨a1, a2⟩, b1, b2⟩ := hbd
    have hsum : (((dmI a b).1 * b + (dmI a b).2.1) != a) = false := by rw [s1]; simp
    have hp1 : -3000000000000 ≤ (dmI a b).1 * b := by rcases Int.lt_or_gt_of_ne hb0 with h | h; (have := s3 h; omega); (have := s2 h; omega)
    have hp2 : (dmI a b).1 * b ≤ 3000000000000 := by rcases Int.lt_or_gt_of_ne hb0 with h | h; (have := s3 h; omega); (have := s2 h; omega)
    have hd : dmI a b = ((dmI a b).1, (dmI a b).2.1, 0) := by rw [← he]
    have HC := Lib.hid (And.intro c1 (And.intro c2 c3))
    have HS := Lib.hid (And.intro s2 s3)
    have HB := Lib.hid hb0
    clear c1 c2 c3 s1 s2 s3 he hv hb0
    rw [hd]
    simp only [tup3]
    clear hd
    generalize (dmI a b).1 = q at *
    generalize (dmI a b).2.1 = r at *
    have hrb : (b < 0 ∧ r ≤ 0 ∧ b < r) ∨ (0 < b ∧ 0 ≤ r ∧ r < b) := by
      rcases Int.lt_or_gt_of_ne HB.out with hb | hb
      · exact .inl ⟨hb, HS.out.2 hb⟩
      · exact .inr ⟨hb, HS.out.1 hb⟩
    rcases hrb with ⟨hb, r1, r2⟩ | ⟨hb, r1, r2⟩
    all_goals
      go_wp2_with fail
      all_goals try (exfalso; omega)
      refine (CeilDiv_any a b _).mono ?_
      rintro e w2 ⟨rfl, hb2⟩
      have k2 := k1.trans (hb2.mono k1.size)
      clear hb2
      simp only [tup2]
      rw [HC.out.1, HC.out.2.2]
      go_wp2_with fail
      refine (DivMod_any (-a) b _).mono ?_
      rintro e w3 ⟨rfl, hb3⟩
      have k3 := k2.trans (hb3.mono k2.size)
      clear hb3
      simp only [tup3]
      rw [HC.out.2.1]
      have hd1 := (dm_bd (-a) b).1
      have hd2 := (dm_bd (-a) b).2.1
      generalize (dmI (-a) b).1 = q2 at *
      generalize (dmI (-a) b).2.1 = r2' at *
      go_wp2_with fail
      refine (awake_any _ (HX.out.below k3).tab).mono ?_
      rintro e w4 ⟨rfl, hb4⟩
      have k4 := k3.trans (hb4.mono k3.size)
      go_wp2
      go_ret
      exact ⟨rfl, k4⟩
  · rcases dm_not a b he with h | ⟨h, rfl⟩
    all_goals
      rw [h]
      simp only [tup3]
      clear h he
      go_wp2_with fail
      refine (awake_any _ (HX.out.below k1).tab).mono ?_
      rintro e w2 ⟨rfl, hb2⟩
      have k2 := k1.trans (hb2.mono k1.size)
      go_wp2
      go_ret
      exact ⟨rfl, k2⟩
end Go.Proofs.YtkfoimjnkinkpaaDoor
