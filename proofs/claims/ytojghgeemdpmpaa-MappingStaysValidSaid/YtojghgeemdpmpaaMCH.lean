/- The program's Fail. -/
import Derived.Test.YtojghgeemdpmpaaMCG
namespace Go.Proofs.Ytojghgeemdpmpaa
open Go.RowKit
open Go.Sort (grow)
open BO (inB inB_yes inB_no RP nxI tupN)

theorem minst_any (n : Int) (w : World) : Calls Try.prog 29 #[.int .i64 n] w fun e w' => e = .returned (.bool (inB n 0 1073741824)) ∧ w = w' := by
  go_enter Try.func29, Try.ntmps29
  go_wp2_with fail
  refine (mIn_any n 0 1073741824 _).mono ?_
  rintro e w1 ⟨rfl, rfl⟩
  go_wp2_with fail
  go_ret
  exact ⟨rfl, rfl⟩
theorem enters_fail2 (args : Array Value) (w : World) : Sem.run Try.prog (callFunc 44 args) w = .ok (.enter 44 args) w := enters_of Try.func44 (by kernel_rfl) rfl args w
set_option maxHeartbeats 1000000 in
theorem fail2_any (a b f c m : Int) (g : Nat) (w : World) (h : Blk w g 27 #[.int .i64 a, .int .i64 b, .int .i64 f, .int .i64 c, .int .i64 m]) : Calls Try.prog 44 #[.pointer (some ⟨g, 0, none⟩)] w fun e w' => e = .returned (.int .i64 (RP.e ⟨a, b, f, c, m⟩)) ∧ Below w.heap.size w w' := by
  have q0 : w.cell? ⟨g, 0, none⟩ = some (.int .i64 a) := h.cell 0
  have q1 : w.cell? ⟨g, 1, none⟩ = some (.int .i64 b) := h.cell 1
  have q2 : w.cell? ⟨g, 2, none⟩ = some (.int .i64 f) := h.cell 2
  have q3 : w.cell? ⟨g, 3, none⟩ = some (.int .i64 c) := h.cell 3
  have q4 : w.cell? ⟨g, 4, none⟩ = some (.int .i64 m) := h.cell 4
  clear h
  go_enter Try.func44, Try.ntmps44
  go_wp2_with fail
  refine (BO.Check_any a b f c m w).mono ?_
  rintro e w1 ⟨rfl, hb⟩
  go_wp2_with fail
  go_ret
  exact ⟨rfl, hb⟩
theorem fail2_fn {a b f c m : Int} {g : Nat} {w : World} (h : Blk w g 27 #[.int .i64 a, .int .i64 b, .int .i64 f, .int .i64 c, .int .i64 m]) : FnIs w (.func (.func 44) #[] #[.pointer (some ⟨g, 0, none⟩)]) (RP.e ⟨a, b, f, c, m⟩) :=
  ⟨_, _, rfl, enters_fail2, fun W hW => fail2_any _ _ _ _ _ g W (h.on hW)⟩
theorem first_five (A : Option Addr) (c : Nat) (v0 v1 v2 v3 v4 : Value) (e0 e1 e2 e3 e4 : Int) (w : World) (hl : Reads w w.heap.size 1 A 5 [v0, v1, v2, v3, v4]) (h0 : FnIs w v0 e0) (h1 : FnIs w v1 e1) (h2 : FnIs w v2 e2) (h3 : FnIs w v3 e3) (h4 : FnIs w v4 e4) :
    Calls Try.prog 24 #[.slice A 5 c] w fun e w' => e = .returned (.int .i64 (firstE [e0, e1, e2, e3, e4])) ∧ Below w.heap.size w w' :=
  first_any A c [(v0, e0), (v1, e1), (v2, e2), (v3, e3), (v4, e4)] w hl (by simp) (by intro p hp; simp only [List.mem_cons, List.not_mem_nil, or_false] at hp; rcases hp with rfl | rfl | rfl | rfl | rfl; exact h0; exact h1; exact h2; exact h3; exact h4)
end Go.Proofs.Ytojghgeemdpmpaa
