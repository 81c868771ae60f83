/- Retry policies: the checks, the delays in plain words. -/
import Derived.Test.YtojghgeemdpmpaaMem
import Derived.WalkKit
import Derived.WalkSpells
import Derived.WalkLawsBesides
import Derived.BigQuiet
import Derived.BigGuardPart
import Derived.Deep.Draws
import Derived.Lib.Hide
import Derived.Outline
namespace Go.Proofs.Ytojghgeemdpmpaa.BO
open Go.RowKit

theorem ret_bool {a b : Bool} (h : a = b) : Ending.returned (.bool a) = .returned (.bool b) := by rw [h]
theorem ret_int {k : IntKind} {a b : Int} (h : a = b) : Ending.returned (.int k a) = .returned (.int k b) := by rw [h]
theorem below_drewN' (B : Nat) (w : World) (n : Nat) : Below B w (w.drewN n) := ⟨rfl, rfl, rfl, Nat.le_refl _, fun _ _ => rfl⟩
theorem bcell {W w1 : World} (hb : Below W.heap.size W w1) : (∀ b o, b < W.heap.size → w1.cell? ⟨b, o, none⟩ = W.cell? ⟨b, o, none⟩) ∧ (∀ b o, b < W.heap.size → w1.frozen? ⟨b, o, none⟩ = W.frozen? ⟨b, o, none⟩) :=
  ⟨fun b o h => hb.cell (p := ⟨b, o, none⟩) h, fun b o h => hb.frozen (p := ⟨b, o, none⟩) h⟩

/-- A retry policy. -/
structure RP where
  a : Int
  b : Int
  f : Int
  c : Int
  m : Int
def RP.ok (p : RP) : Bool := decide (1 ≤ p.a ∧ p.a ≤ 10 ∧ 1 ≤ p.b ∧ p.b ≤ 1073741824 ∧ 1 ≤ p.f ∧ p.f ≤ 10 ∧ p.b ≤ p.c ∧ p.c ≤ 1073741824 ∧ 0 ≤ p.m ∧ p.m ≤ 1073741824)
theorem RP.ok_iff (p : RP) : p.ok = true ↔ 1 ≤ p.a ∧ p.a ≤ 10 ∧ 1 ≤ p.b ∧ p.b ≤ 1073741824 ∧ 1 ≤ p.f ∧ p.f ≤ 10 ∧ p.b ≤ p.c ∧ p.c ≤ 1073741824 ∧ 0 ≤ p.m ∧ p.m ≤ 1073741824 := by simp [RP.ok]
def RP.e (p : RP) : Int := if p.ok = true then 0 else 2
theorem e_yes {a b f c m : Int} (h : 1 ≤ a ∧ a ≤ 10 ∧ 1 ≤ b ∧ b ≤ 1073741824 ∧ 1 ≤ f ∧ f ≤ 10 ∧ b ≤ c ∧ c ≤ 1073741824 ∧ 0 ≤ m ∧ m ≤ 1073741824) : 0 = RP.e ⟨a, b, f, c, m⟩ := by
  unfold RP.e; rw [if_pos ((RP.ok_iff _).2 h)]
theorem e_no {a b f c m : Int} (h : ¬ (1 ≤ a ∧ a ≤ 10 ∧ 1 ≤ b ∧ b ≤ 1073741824 ∧ 1 ≤ f ∧ f ≤ 10 ∧ b ≤ c ∧ c ≤ 1073741824 ∧ 0 ≤ m ∧ m ≤ 1073741824)) : 2 = RP.e ⟨a, b, f, c, m⟩ := by
  unfold RP.e; rw [if_neg (fun h' => h ((RP.ok_iff _).1 h'))]
set_option maxHeartbeats 1000000 in
theorem Check_any (a b f c m : Int) (w : World) :
    Calls Try.prog 45 #[.agg #[.int .i64 a, .int .i64 b, .int .i64 f, .int .i64 c, .int .i64 m]] w fun e w' => e = .returned (.int .i64 (RP.e ⟨a, b, f, c, m⟩)) ∧ Below w.heap.size w w' := by
  have hcase : (1073741824 < m ∧ decide (m ≤ 1073741824) = false) ∨ (m ≤ 1073741824 ∧ decide (m ≤ 1073741824) = true) := by
    rcases Int.lt_or_le 1073741824 m with h | h
    · exact .inl ⟨h, decide_eq_false (by omega)⟩
    · exact .inr ⟨h, decide_eq_true h⟩
  rcases hcase with ⟨hm, hmb⟩ | ⟨hm, hmb⟩
  all_goals
    go_enter Try.func45, Try.ntmps45
    go_wp2
  all_goals
    go_ret
    refine ⟨ret_int ?_, (Below.refl _ _).alloc (Nat.le_refl _) _⟩
    first
      | exact e_yes (by omega)
      | exact e_no (by omega)
set_option maxHeartbeats 1000000 in
theorem rCheck_any (a b f c m : Int) (w : World) :
    Calls Try.prog 47 #[.agg #[.int .i64 a, .int .i64 b, .int .i64 f, .int .i64 c, .int .i64 m]] w fun e w' => e = .returned (.int .i64 (RP.e ⟨a, b, f, c, m⟩)) ∧ Below w.heap.size w w' := by
  have hcase : (1073741824 < m ∧ decide (m ≤ 1073741824) = false) ∨ (m ≤ 1073741824 ∧ decide (m ≤ 1073741824) = true) := by
    rcases Int.lt_or_le 1073741824 m with h | h
    · exact .inl ⟨h, decide_eq_false (by omega)⟩
    · exact .inr ⟨h, decide_eq_true h⟩
  rcases hcase with ⟨hm, hmb⟩ | ⟨hm, hmb⟩
  all_goals
    go_enter Try.func47, Try.ntmps47
    go_wp2
  all_goals
    go_ret
    refine ⟨ret_int ?_, (Below.refl _ _).alloc (Nat.le_refl _) _⟩
    first
      | exact e_yes (by omega)
      | exact e_no (by omega)

/-- The delay after attempt k + 1. -/
def dl (b f c : Int) : Nat → Int
  | 0 => b
  | k + 1 => if dl b f c k * f ≤ c then dl b f c k * f else c
theorem dl_bd {b f c : Int} (hb : 1 ≤ b) (hf : 1 ≤ f) (hbc : b ≤ c) (k : Nat) : 1 ≤ dl b f c k ∧ dl b f c k ≤ c ∧ dl b f c k ≤ dl b f c (k + 1) := by
  have hstep : ∀ d : Int, 1 ≤ d → d ≤ d * f := fun d hd => by
    have := Int.mul_le_mul_of_nonneg_left hf (show 0 ≤ d by omega)
    omega
  induction k with
  | zero =>
    refine ⟨hb, hbc, ?_⟩
    show b ≤ if b * f ≤ c then b * f else c
    have := hstep b hb
    split <;> omega
  | succ k ih =>
    obtain ⟨h1, h2, h3⟩ := ih
    have h4 : dl b f c (k + 1) ≤ c := by
      show (if dl b f c k * f ≤ c then dl b f c k * f else c) ≤ c
      split <;> omega
    refine ⟨by omega, h4, ?_⟩
    have := hstep (dl b f c (k + 1)) (by omega)
    show dl b f c (k + 1) ≤ if dl b f c (k + 1) * f ≤ c then dl b f c (k + 1) * f else c
    split <;> omega
/-- As the walk takes the least of two. -/
theorem dl_min {b f c : Int} (k : Nat) : min (dl b f c k * f) c = dl b f c (k + 1) := Int.min_def _ _
theorem dl_if {b f c : Int} (k : Nat) : (if c < dl b f c k * f then c else dl b f c k * f) = dl b f c (k + 1) := by
  show _ = if dl b f c k * f ≤ c then dl b f c k * f else c
  split <;> split <;> omega
end Go.Proofs.Ytojghgeemdpmpaa.BO
