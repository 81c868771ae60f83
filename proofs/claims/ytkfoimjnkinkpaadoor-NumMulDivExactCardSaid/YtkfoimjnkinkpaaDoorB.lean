/- The walks of the divisions. -/
import Derived.Test.YtkfoimjnkinkpaaDoorA
namespace Go.Proofs.YtkfoimjnkinkpaaDoor
open Go.RowKit

def dmI (a b : Int) : Int × Int × Int :=
  if (vI a && vI b) = false then (0, 0, 2) else if b = 0 then (0, 0, 9)
  else if a.tmod b ≠ 0 ∧ ¬ (a.tmod b < 0 ↔ b < 0) then (a.tdiv b - 1, a.tmod b + b, 0) else (a.tdiv b, a.tmod b, 0)
def tup3 (x : Int × Int × Int) : Value := .tuple #[.int .i64 x.1, .int .i64 x.2.1, .int .i64 x.2.2]

theorem quo_bd {a b : Int} (a1 : -1000000000000 ≤ a) (a2 : a ≤ 1000000000000) (b1 : -1000000000000 ≤ b) (b2 : b ≤ 1000000000000) (hb : b ≠ 0) :
    -1000000000000 ≤ a.tdiv b ∧ a.tdiv b ≤ 1000000000000 ∧ -1000000000000 ≤ a.tmod b ∧ a.tmod b ≤ 1000000000000 := by
  have h1 := Int.natAbs_tdiv_le_natAbs a b
  have h2 : (a.tmod b).natAbs = a.natAbs % b.natAbs := Int.natAbs_tmod a b
  have h3 := Nat.mod_lt a.natAbs (show 0 < b.natAbs by omega)
  omega
theorem DivMod_any (a b : Int) (w : World) : Calls Tryd.prog 17 #[.int .i64 a, .int .i64 b] w fun e w' => e = .returned (tup3 (dmI a b)) ∧ Below w.heap.size w w' := by
  go_enter Tryd.func17, Tryd.ntmps17
  go_wp2_with fail
  refine (valid2 a b _ _ _ rfl).mono ?_
  rintro e w1 ⟨rfl, rfl⟩
  have hlow : Below w.heap.size w (w.alloc (.cells #[.int .i64 a, .int .i64 b] 3)) := (Below.refl _ _).alloc (Nat.le_refl _) _
  generalize w.alloc (.cells #[.int .i64 a, .int .i64 b] 3) = W at *
  cases hv : (vI a && vI b)
  · have HD : Hid (dmI a b = (0, 0, 2)) := by show dmI a b = _; unfold dmI; rw [if_pos hv]
    clear hv
    go_wp2
    go_ret3
    exact ⟨by rw [HD.out]; rfl, hlow⟩
  · by_cases hb : b = 0
    · have HD : Hid (dmI a b = (0, 0, 9)) := by show dmI a b = _; unfold dmI; rw [if_neg (by rw [hv]; simp), if_pos hb]
      clear hv
      subst hb
      go_wp2
      go_ret3
      exact ⟨by rw [HD.out]; rfl, hlow⟩
    · have hab := hv
      rw [Bool.and_eq_true, vI_iff, vI_iff] at hab
      obtain ⟨⟨a1, a2⟩, b1, b2⟩ := hab
      obtain ⟨q1, q2, r1, r2⟩ := quo_bd a1 a2 b1 b2 hb
      have HD : Hid (dmI a b = if a.tmod b ≠ 0 ∧ ¬ (a.tmod b < 0 ↔ b < 0) then (a.tdiv b - 1, a.tmod b + b, 0) else (a.tdiv b, a.tmod b, 0)) := by
        show dmI a b = _; unfold dmI; rw [if_neg (by rw [hv]; simp), if_neg hb]
      clear hv
      go_wp2_with fail
      go_quiet (fail)
      generalize a.tdiv b = q at *
      generalize a.tmod b = r at *
      go_wp2
      all_goals
        go_ret3
        refine ⟨?_, hlow.trans (below_drewN' _ _ _)⟩
        rw [HD.out]
      · rename_i h1 h2
        have h2' : ¬ (r < 0 ↔ b < 0) := by
          by_cases h3 : r < 0 <;> by_cases h4 : b < 0 <;> simp [h3, h4] at h2 ⊢
        rw [if_pos ⟨h1, h2'⟩]; rfl
      · rename_i h1 h2
        have h2' : (r < 0 ↔ b < 0) := by
          by_cases h3 : r < 0 <;> by_cases h4 : b < 0 <;> simp [h3, h4] at h2 ⊢
        rw [if_neg (fun h => h.2 h2')]; rfl
      · rename_i h1
        rw [if_neg (fun h => h.1 h1)]; rfl
theorem rDivMod_any (a b : Int) (w : World) : Calls Tryd.prog 19 #[.int .i64 a, .int .i64 b] w fun e w' => e = .returned (tup3 (dmI a b)) ∧ Below w.heap.size w w' := by
  cases hv : (vI a && vI b)
  · have HD : Hid (dmI a b = (0, 0, 2)) := by show dmI a b = _; unfold dmI; rw [if_pos hv]
    cases ha : vI a
    · go_enter Tryd.func19, Tryd.ntmps19
      go_wp2_with fail
      refine (rValid_any _ _).mono ?_
      rintro e w1 ⟨rfl, rfl⟩
      rw [ha]
      clear hv ha
      go_wp2
      go_ret3
      exact ⟨by rw [HD.out]; rfl, Below.refl _ _⟩
    · have hb : vI b = false := by simpa [ha] using hv
      go_enter Tryd.func19, Tryd.ntmps19
      go_wp2_with fail
      refine (rValid_any _ _).mono ?_
      rintro e w1 ⟨rfl, rfl⟩
      rw [ha]
      go_wp2_with fail
      refine (rValid_any _ _).mono ?_
      rintro e w1 ⟨rfl, rfl⟩
      rw [hb]
      clear hv ha hb
      go_wp2
      go_ret3
      exact ⟨by rw [HD.out]; rfl, Below.refl _ _⟩
  · have hab := hv
    rw [Bool.and_eq_true] at hab
    obtain ⟨ha, hb'⟩ := hab
    go_enter Tryd.func19, Tryd.ntmps19
    go_wp2_with fail
    refine (rValid_any _ _).mono ?_
    rintro e w1 ⟨rfl, rfl⟩
    rw [ha]
    go_wp2_with fail
    refine (rValid_any _ _).mono ?_
    rintro e w1 ⟨rfl, rfl⟩
    rw [hb']
    have hlow := Below.refl w1.heap.size w1
    have HAB := Lib.hid (And.intro ha hb')
    clear ha hb'
    by_cases hb : b = 0
    · have HD : Hid (dmI a b = (0, 0, 9)) := by show dmI a b = _; unfold dmI; rw [if_neg (by rw [hv]; simp), if_pos hb]
      clear hv
      subst hb
      go_wp2
      go_ret3
      exact ⟨by rw [HD.out]; rfl, hlow⟩
    · obtain ⟨a1, a2⟩ := (vI_iff a).1 HAB.out.1
      obtain ⟨b1, b2⟩ := (vI_iff b).1 HAB.out.2
      obtain ⟨q1, q2, r1, r2⟩ := quo_bd a1 a2 b1 b2 hb
      have HD : Hid (dmI a b = if a.tmod b ≠ 0 ∧ ¬ (a.tmod b < 0 ↔ b < 0) then (a.tdiv b - 1, a.tmod b + b, 0) else (a.tdiv b, a.tmod b, 0)) := by
        show dmI a b = _; unfold dmI; rw [if_neg (by rw [hv]; simp), if_neg hb]
      clear hv
      go_wp2_with fail
      go_quiet (fail)
      generalize a.tdiv b = q at *
      generalize a.tmod b = r at *
      go_wp2
      all_goals
        go_ret3
        refine ⟨?_, hlow.trans (below_drewN' _ _ _)⟩
        rw [HD.out]
      · rename_i h1 h2
        have h2' : ¬ (r < 0 ↔ b < 0) := by
          by_cases h3 : r < 0 <;> by_cases h4 : b < 0 <;> simp [h3, h4] at h2 ⊢
        rw [if_pos ⟨h1, h2'⟩]; rfl
      · rename_i h1 h2
        have h2' : (r < 0 ↔ b < 0) := by
          by_cases h3 : r < 0 <;> by_cases h4 : b < 0 <;> simp [h3, h4] at h2 ⊢
        rw [if_neg (fun h => h.2 h2')]; rfl
      · rename_i h1
        rw [if_neg (fun h => h.1 h1)]; rfl
theorem dm_bd (a b : Int) : -1000000000001 ≤ (dmI a b).1 ∧ (dmI a b).1 ≤ 1000000000001 ∧ ((dmI a b).2.2 = 0 ∨ ((dmI a b).2.2 = 2 ∨ (dmI a b).2.2 = 9) ∧ (dmI a b).2.1 = 0) := by
  unfold dmI
  split
  · simp
  · rename_i hv
    split
    · simp
    · rename_i hb
      simp only [Bool.not_eq_false, Bool.and_eq_true, vI_iff] at hv
      obtain ⟨q1, q2, r1, r2⟩ := quo_bd hv.1.1 hv.1.2 hv.2.1 hv.2.2 hb
      split
      · refine ⟨?_, ?_, .inl rfl⟩
        · show -1000000000001 ≤ a.tdiv b - 1; omega
        · show a.tdiv b - 1 ≤ 1000000000001; omega
      · refine ⟨?_, ?_, .inl rfl⟩
        · show -1000000000001 ≤ a.tdiv b; omega
        · show a.tdiv b ≤ 1000000000001; omega
def cdI (a b : Int) : Int × Int := (if (dmI a b).2.1 = 0 then (dmI a b).1 else (dmI a b).1 + 1, (dmI a b).2.2)
def tup2 (x : Int × Int) : Value := .tuple #[.int .i64 x.1, .int .i64 x.2]
theorem CeilDiv_any (a b : Int) (w : World) : Calls Tryd.prog 18 #[.int .i64 a, .int .i64 b] w fun e w' => e = .returned (tup2 (cdI a b)) ∧ Below w.heap.size w w' := by
  obtain ⟨d1, d2, d3⟩ := dm_bd a b
  have HC : Hid (cdI a b = (if (dmI a b).2.1 = 0 then (dmI a b).1 else (dmI a b).1 + 1, (dmI a b).2.2)) := rfl
  go_enter Tryd.func18, Tryd.ntmps18
  go_wp2_with fail
  refine (DivMod_any a b _).mono ?_
  rintro e w1 ⟨rfl, hb⟩
  simp only [tup3]
  generalize dmI a b = D at *
  obtain ⟨q, r, er⟩ := D
  simp only at d1 d2 d3 HC ⊢
  by_cases hr : r = 0
  · have HR : Hid (cdI a b = (q, er)) := by show _ = _; rw [HC.out, if_pos hr]
    clear HC
    go_wp2
    go_ret2
    exact ⟨by rw [HR.out]; rfl, hb⟩
  · have HR : Hid (cdI a b = (q + 1, er)) := by show _ = _; rw [HC.out, if_neg hr]
    clear HC
    go_wp2
    go_ret2
    exact ⟨by rw [HR.out]; rfl, hb⟩
theorem rCeilDiv_any (a b : Int) (w : World) : Calls Tryd.prog 20 #[.int .i64 a, .int .i64 b] w fun e w' => e = .returned (tup2 (cdI a b)) ∧ Below w.heap.size w w' := by
  obtain ⟨d1, d2, d3⟩ := dm_bd a b
  have HC : Hid (cdI a b = (if (dmI a b).2.1 = 0 then (dmI a b).1 else (dmI a b).1 + 1, (dmI a b).2.2)) := rfl
  go_enter Tryd.func20, Tryd.ntmps20
  go_wp2_with fail
  refine (rDivMod_any a b _).mono ?_
  rintro e w1 ⟨rfl, hb⟩
  simp only [tup3]
  generalize dmI a b = D at *
  obtain ⟨q, r, er⟩ := D
  simp only at d1 d2 d3 HC ⊢
  by_cases hr : r = 0
  · have HR : Hid (cdI a b = (q, er)) := by show _ = _; rw [HC.out, if_pos hr]
    subst hr
    clear HC d3
    go_wp2
    all_goals
      go_ret2
      exact ⟨by rw [HR.out]; rfl, hb⟩
  · have he : er = 0 := by omega
    subst he
    have HR : Hid (cdI a b = (q + 1, 0)) := by show _ = _; rw [HC.out, if_neg hr]
    clear HC d3
    go_wp2
    go_ret2
    exact ⟨by rw [HR.out]; rfl, hb⟩
end Go.Proofs.YtkfoimjnkinkpaaDoor
