/- The states behind a batch that failed: the plain words, the reference. -/
import Derived.Test.YtojghgeemdpmpaaMCE
namespace Go.Proofs.Ytojghgeemdpmpaa
open Go.RowKit
open Go.Sort (grow)
open BO (inB inB_yes inB_no RP nxI)

theorem rBet_any (n lo hi : Int) (w : World) : Calls Try.prog 39 #[.int .i64 n, .int .i64 lo, .int .i64 hi] w fun e w' => e = .returned (.bool (inB n lo hi)) ∧ w = w' := by
  rcases Int.lt_or_le n lo with h | h
  · have HD := Lib.hid (inB_no (n := n) (lo := lo) (hi := hi) (by omega))
    go_enter Try.func39, Try.ntmps39
    go_wp2
    all_goals try (exfalso; omega)
    go_ret
    exact ⟨ret_bool HD.out.symm, rfl⟩
  · rcases Int.lt_or_le hi n with h' | h'
    · have HD := Lib.hid (inB_no (n := n) (lo := lo) (hi := hi) (by omega))
      have hd : decide (n ≤ hi) = false := decide_eq_false (by omega)
      go_enter Try.func39, Try.ntmps39
      go_wp2
      all_goals try (exfalso; omega)
      go_ret
      exact ⟨ret_bool HD.out.symm, rfl⟩
    · have HD := Lib.hid (inB_yes (n := n) (lo := lo) (hi := hi) ⟨h, h'⟩)
      have hd : decide (n ≤ hi) = true := decide_eq_true h'
      go_enter Try.func39, Try.ntmps39
      go_wp2
      all_goals try (exfalso; omega)
      go_ret
      exact ⟨ret_bool HD.out.symm, rfl⟩
/-- The errors of Fail. -/
def failE (s : MS) (r : RP) (now : Int) : Int := firstE [s.e, r.e, whenE (!inB now 0 1073741824) 2, whenE (s.fl == 0) 10, whenE (decide (now < s.fi)) 11]
/-- What Fail returns behind its checks. -/
def failG (s : MS) (r : RP) (now : Int) : MS × Bool × Int :=
  if 1 < s.fl then (⟨s.sh, s.nx, 0, 0, 0, now, (s.fl + 1) / 2⟩, false, 0)
  else if s.ac < r.a ∧ (nxI r.a r.b r.f r.c r.m s.fi s.ac now).2.2 = 0 ∧ (nxI r.a r.b r.f r.c r.m s.fi s.ac now).2.1 = true then
    (⟨s.sh, s.nx, 0, s.ac, s.fi, (nxI r.a r.b r.f r.c r.m s.fi s.ac now).1, 1⟩, false, 0)
  else ((rgS ⟨s.sh, s.nx + 1, 0, 0, 0, 0, 0⟩).1, (rgS ⟨s.sh, s.nx + 1, 0, 0, 0, 0, 0⟩).2 == 0, (rgS ⟨s.sh, s.nx + 1, 0, 0, 0, 0, 0⟩).2)
def failS (s : MS) (r : RP) (now : Int) : MS × Bool × Int := if failE s r now = 0 then failG s r now else (MS.z, false, failE s r now)
def MR3 (x : MS × Bool × Int) : Value := .tuple #[.agg x.1.cs, .bool x.2.1, .int .i64 x.2.2]
theorem ret_MR3 {x : MS × Bool × Int} {sh nx fl ac fi wa li e : Int} {q : Bool} (h : x = (⟨sh, nx, fl, ac, fi, wa, li⟩, q, e)) : Ending.returned (.tuple #[.agg #[.int .i64 sh, .int .i64 nx, .int .i64 fl, .int .i64 ac, .int .i64 fi, .int .i64 wa, .int .i64 li], .bool q, .int .i64 e]) = .returned (MR3 x) := by subst h; rfl
section
variable {s : MS} {r : RP} {now : Int}
theorem failE1 (h : s.e ≠ 0) : failE s r now = s.e := if_neg h
theorem failE2 (h : s.e = 0) (h1 : r.e ≠ 0) : failE s r now = r.e := by unfold failE; rw [firstE, if_pos h, firstE, if_neg h1]
theorem failE3 (h : s.e = 0) (h1 : r.e = 0) (h2 : inB now 0 1073741824 = false) : failE s r now = 2 := by unfold failE; rw [firstE, if_pos h, firstE, if_pos h1, h2]; rfl
theorem failE4 (h : s.e = 0) (h1 : r.e = 0) (h2 : inB now 0 1073741824 = true) (h3 : (s.fl == 0) = true) : failE s r now = 10 := by unfold failE; rw [firstE, if_pos h, firstE, if_pos h1, h2, h3]; rfl
theorem failE5 (h : s.e = 0) (h1 : r.e = 0) (h2 : inB now 0 1073741824 = true) (h3 : (s.fl == 0) = false) (h4 : decide (now < s.fi) = true) : failE s r now = 11 := by unfold failE; rw [firstE, if_pos h, firstE, if_pos h1, h2, h3, h4]; rfl
theorem failE6 (h : s.e = 0) (h1 : r.e = 0) (h2 : inB now 0 1073741824 = true) (h3 : (s.fl == 0) = false) (h4 : decide (now < s.fi) = false) : failE s r now = 0 := by unfold failE; rw [firstE, if_pos h, firstE, if_pos h1, h2, h3, h4]; rfl
theorem fail_no {n : Int} (h : failE s r now = n) (hn : n ≠ 0) : failS s r now = (MS.z, false, n) := by unfold failS; rw [h, if_neg hn]
theorem fail_go (h : failE s r now = 0) : failS s r now = failG s r now := if_pos h
end
end Go.Proofs.Ytojghgeemdpmpaa
