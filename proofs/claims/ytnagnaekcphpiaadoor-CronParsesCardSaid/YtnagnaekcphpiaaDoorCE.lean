/- cron: what a schedule matches; the reference's small functions. -/
import Derived.Test.YtnagnaekcphpiaaDoorCD
namespace Go.Proofs.YtnagnaekcphpiaaDoor
open Go.RowKit
open Go.Sort (grow)

theorem shr_val (x a : Nat) : ((x : Int) / 2 ^ a) = ((x / 2 ^ a : Nat) : Int) := by simp
theorem and_one {x a : Nat} (hx : x < 18446744073709551616) : (bits .and .u64 ((x : Int) / 2 ^ a) 1 == 1) = x.testBit a := by
  rw [shr_val, Nat.testBit_eq_decide_div_mod_eq]
  have h : x / 2 ^ a < 18446744073709551616 := Nat.lt_of_le_of_lt (Nat.div_le_self _ _) hx
  generalize x / 2 ^ a = y at *
  show (IntKind.u64.wrap ((BitVec.ofInt 64 (y : Int) &&& BitVec.ofInt 64 ((1 : Nat) : Int)).toNat : Int) == 1) = _
  rw [BitVec.toNat_and, ofInt_nat' (n := 64) (by omega), ofInt_nat' (n := 64) (by omega), IntKind.wrap_u64, Nat.and_one_is_mod]
  by_cases h1 : y % 2 = 1
  · rw [h1, decide_eq_true rfl]; rfl
  · rw [decide_eq_false h1, show y % 2 = 0 from by omega]; rfl
set_option maxHeartbeats 2000000 in
set_option maxRecDepth 20000 in
theorem is_any (c : Cr) (t : Nat) (ht : t ≤ 2147483648) (w : World) (hu : U64 c) : Calls Tryd.prog 37 #[.agg #[.int .u64 c.mi, .int .u64 c.ho, .int .u64 c.da], .int .i64 t] w fun e w' => e = .returned (.bool (isC c t)) ∧ Below w.heap.size w w' := by
  obtain ⟨h1, h2, h3⟩ := hu
  obtain ⟨a, ha⟩ : ∃ a, t % 60 = a := ⟨_, rfl⟩
  obtain ⟨b, hb⟩ : ∃ b, t / 60 = b := ⟨_, rfl⟩
  obtain ⟨b', hb'⟩ : ∃ b', b % 24 = b' := ⟨_, rfl⟩
  obtain ⟨d, hd⟩ : ∃ d, t / 1440 = d := ⟨_, rfl⟩
  obtain ⟨d', hd'⟩ : ∃ d', d % 7 = d' := ⟨_, rfl⟩
  have e1 : Int.tmod (t : Int) 60 = (a : Int) := by rw [← ha]; rfl
  have e2 : Int.tdiv (t : Int) 60 = (b : Int) := by rw [← hb]; rfl
  have e3 : Int.tmod (b : Int) 24 = (b' : Int) := by rw [← hb']; rfl
  have e4 : Int.tdiv (t : Int) 1440 = (d : Int) := by rw [← hd]; rfl
  have e5 : Int.tmod (d : Int) 7 = (d' : Int) := by rw [← hd']; rfl
  have e6 : IntKind.i64.wrap (b : Int) = (b : Int) := by rw [IntKind.wrap_i64]; omega
  have e7 : IntKind.i64.wrap (d : Int) = (d : Int) := by rw [IntKind.wrap_i64]; omega
  have g1 : (0 : Int) ≤ a := by omega
  have g2 : (a : Int) ≤ 64 := by omega
  have g3 : (0 : Int) ≤ b' := by omega
  have g4 : (b' : Int) ≤ 64 := by omega
  have g5 : (0 : Int) ≤ d' := by omega
  have g6 : (d' : Int) ≤ 64 := by omega
  have HD := Lib.hid (show isC c t = (c.mi.testBit a && c.ho.testBit b' && c.da.testBit d') from by unfold isC; rw [ha, hb, hb', hd, hd'])
  obtain ⟨x, hx⟩ : ∃ x, c.mi.testBit a = x := ⟨_, rfl⟩
  obtain ⟨y, hy⟩ : ∃ x, c.ho.testBit b' = x := ⟨_, rfl⟩
  obtain ⟨z, hz⟩ : ∃ x, c.da.testBit d' = x := ⟨_, rfl⟩
  have q1 : (bits .and .u64 ((c.mi : Int) / 2 ^ a) 1 == 1) = x := by rw [and_one h1, hx]
  have q2 : (bits .and .u64 ((c.ho : Int) / 2 ^ b') 1 == 1) = y := by rw [and_one h2, hy]
  have q3 : (bits .and .u64 ((c.da : Int) / 2 ^ d') 1 == 1) = z := by rw [and_one h3, hz]
  rw [hx, hy, hz] at HD
  clear hx hy hz ha hb hb' hd hd' h1 h2 h3
  go_enter Tryd.func37, Tryd.ntmps37
  cases x <;> cases y <;> cases z
  all_goals go_wp2_with fail
  all_goals go_ret
  all_goals exact ⟨ret_bool HD.out.symm, (Below.refl _ _).alloc (Nat.le_refl _) _⟩
end Go.Proofs.YtnagnaekcphpiaaDoor
