/- States of mappings: the checks of both sides. -/
import Derived.Test.YtojghgeemdpmpaaMBD
import Derived.Test.YtojghgeemdpmpaaBWJ
namespace Go.Proofs.Ytojghgeemdpmpaa
open Go.RowKit

/-- A state of a mapping. -/
structure MS where
  sh : Int
  nx : Int
  fl : Int
  ac : Int
  fi : Int
  wa : Int
  li : Int
def MS.cs (s : MS) : Array Value := #[.int .i64 s.sh, .int .i64 s.nx, .int .i64 s.fl, .int .i64 s.ac, .int .i64 s.fi, .int .i64 s.wa, .int .i64 s.li]
def MS.rng (s : MS) : Prop := 0 ≤ s.sh ∧ s.sh ≤ 7 ∧ 0 ≤ s.nx ∧ s.nx ≤ 999999999968 ∧ 0 ≤ s.fl ∧ s.fl ≤ 32 ∧ 0 ≤ s.li ∧ s.li ≤ 32 ∧ 0 ≤ s.ac ∧ s.ac ≤ 10 ∧ 0 ≤ s.fi ∧ s.fi ≤ 1073741824 ∧ 0 ≤ s.wa ∧ s.wa ≤ 2147483648
def MS.bad (s : MS) : Prop := 0 < s.fl ∧ (s.ac = 0 ∨ (s.li ≠ 0 ∧ s.li < s.fl))
instance (s : MS) : Decidable s.rng := by unfold MS.rng; infer_instance
instance (s : MS) : Decidable s.bad := by unfold MS.bad; infer_instance
def MS.e (s : MS) : Int := if s.rng then (if s.bad then 10 else 0) else 2
theorem MS.e_range {s : MS} (h : ¬ s.rng) : 2 = s.e := by unfold MS.e; rw [if_neg h]
theorem MS.e_bad {s : MS} (h : s.rng) (h' : s.bad) : 10 = s.e := by unfold MS.e; rw [if_pos h, if_pos h']
theorem MS.e_ok {s : MS} (h : s.rng) (h' : ¬ s.bad) : 0 = s.e := by unfold MS.e; rw [if_pos h, if_neg h']
section
variable {sh nx fl ac fi wa li : Int}
theorem me_range (h : ¬ (0 ≤ sh ∧ sh ≤ 7 ∧ 0 ≤ nx ∧ nx ≤ 999999999968 ∧ 0 ≤ fl ∧ fl ≤ 32 ∧ 0 ≤ li ∧ li ≤ 32 ∧ 0 ≤ ac ∧ ac ≤ 10 ∧ 0 ≤ fi ∧ fi ≤ 1073741824 ∧ 0 ≤ wa ∧ wa ≤ 2147483648)) : 2 = MS.e ⟨sh, nx, fl, ac, fi, wa, li⟩ := MS.e_range h
theorem me_bad (h : 0 ≤ sh ∧ sh ≤ 7 ∧ 0 ≤ nx ∧ nx ≤ 999999999968 ∧ 0 ≤ fl ∧ fl ≤ 32 ∧ 0 ≤ li ∧ li ≤ 32 ∧ 0 ≤ ac ∧ ac ≤ 10 ∧ 0 ≤ fi ∧ fi ≤ 1073741824 ∧ 0 ≤ wa ∧ wa ≤ 2147483648) (h' : 0 < fl ∧ (ac = 0 ∨ (li ≠ 0 ∧ li < fl))) : 10 = MS.e ⟨sh, nx, fl, ac, fi, wa, li⟩ := MS.e_bad h h'
theorem me_ok (h : 0 ≤ sh ∧ sh ≤ 7 ∧ 0 ≤ nx ∧ nx ≤ 999999999968 ∧ 0 ≤ fl ∧ fl ≤ 32 ∧ 0 ≤ li ∧ li ≤ 32 ∧ 0 ≤ ac ∧ ac ≤ 10 ∧ 0 ≤ fi ∧ fi ≤ 1073741824 ∧ 0 ≤ wa ∧ wa ≤ 2147483648) (h' : ¬ (0 < fl ∧ (ac = 0 ∨ (li ≠ 0 ∧ li < fl)))) : 0 = MS.e ⟨sh, nx, fl, ac, fi, wa, li⟩ := MS.e_ok h h'
end
theorem MS.ok_iff {s : MS} : s.e = 0 ↔ s.rng ∧ ¬ s.bad := by unfold MS.e; split <;> (try split) <;> simp_all
theorem decide_cases (p : Prop) [Decidable p] : (p ∧ decide p = true) ∨ (¬ p ∧ decide p = false) := by by_cases h : p <;> simp [h]

set_option maxHeartbeats 4000000 in
set_option maxRecDepth 20000 in
theorem MCheck_any (s : MS) (w : World) :
    Calls Try.prog 12 #[.agg s.cs] w fun e w' => e = .returned (.int .i64 s.e) ∧ Below w.heap.size w w' := by
  obtain ⟨sh, nx, fl, ac, fi, wa, li⟩ := s
  simp only [MS.cs]
  rcases decide_cases (wa ≤ 2147483648) with ⟨h1, h1b⟩ | ⟨h1, h1b⟩ <;> rcases decide_cases (li < fl) with ⟨h2, h2b⟩ | ⟨h2, h2b⟩
  all_goals
    go_enter Try.func12, Try.ntmps12
    go_wp2
  all_goals try (exfalso; omega)
  all_goals
    go_ret
    refine ⟨ret_int ?_, (Below.refl _ _).alloc (Nat.le_refl _) _⟩
    first
      | exact me_range (by omega)
      | exact me_bad (by omega) (by omega)
      | exact me_ok (by omega) (by omega)
set_option maxHeartbeats 4000000 in
set_option maxRecDepth 20000 in
theorem rMCheck_any (s : MS) (w : World) :
    Calls Try.prog 13 #[.agg s.cs] w fun e w' => e = .returned (.int .i64 s.e) ∧ Below w.heap.size w w' := by
  obtain ⟨sh, nx, fl, ac, fi, wa, li⟩ := s
  simp only [MS.cs]
  rcases decide_cases (wa ≤ 2147483648) with ⟨h1, h1b⟩ | ⟨h1, h1b⟩ <;> rcases decide_cases (li < fl) with ⟨h2, h2b⟩ | ⟨h2, h2b⟩
  all_goals
    go_enter Try.func13, Try.ntmps13
    go_wp2
  all_goals try (exfalso; omega)
  all_goals
    go_ret
    refine ⟨ret_int ?_, (Below.refl _ _).alloc (Nat.le_refl _) _⟩
    first
      | exact me_range (by omega)
      | exact me_bad (by omega) (by omega)
      | exact me_ok (by omega) (by omega)
end Go.Proofs.Ytojghgeemdpmpaa
