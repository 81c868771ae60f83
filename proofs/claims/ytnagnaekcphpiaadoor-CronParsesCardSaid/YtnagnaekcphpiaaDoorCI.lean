/- cron: a part's set; the parts of a field. -/
import Derived.Test.YtnagnaekcphpiaaDoorCH
namespace Go.Proofs.YtnagnaekcphpiaaDoor
open Go.RowKit
open Go.Sort (grow)

theorem or_u64 {a b : Nat} (ha : a < 1152921504606846976) (hb : b < 1152921504606846976) : bits .or .u64 (a : Int) (b : Int) = ((a ||| b : Nat) : Int) := by
  have h : a ||| b < 2 ^ 60 := Nat.or_lt_two_pow ha hb
  have h6 : (2 : Nat) ^ 60 = 1152921504606846976 := by decide
  show IntKind.u64.wrap ((BitVec.ofInt 64 (a : Int) ||| BitVec.ofInt 64 (b : Int)).toNat : Int) = _
  rw [BitVec.toNat_or, ofInt_nat' (n := 64) (by omega), ofInt_nat' (n := 64) (by omega), IntKind.wrap_u64]
  omega
def tupU (x : Nat × Bool) : Value := .tuple #[.int .u64 (x.1 : Int), .bool x.2]
theorem ret_tupU {x : Nat × Bool} {a : Nat} {b : Bool} (h : x = (a, b)) : Ending.returned (.tuple #[.int .u64 (a : Int), .bool b]) = .returned (tupU x) := by subst h; rfl
theorem ret_tupU0 {x : Nat × Bool} {b : Bool} (h : x = (0, b)) : Ending.returned (.tuple #[.int .u64 0, .bool b]) = .returned (tupU x) := by subst h; rfl
theorem set_bad {p : Pt} {size : Nat} (h : setBad p size = true) : setS p size = (0, false) := by unfold setS; rw [if_pos h]
theorem set_good {p : Pt} {size : Nat} (h : setBad p size = false) : setS p size = (runS p.st (setHi p size) (setHi p size + 1 - p.lo) p.lo 0, true) := by unfold setS; rw [if_neg (by rw [h]; exact Bool.false_ne_true)]
set_option maxHeartbeats 4000000 in
set_option maxRecDepth 20000 in
theorem set_any (lo hi st : Nat) (sp : Bool) (size : Nat) (hs1 : 1 ≤ size) (hs2 : size ≤ 60) (hb : lo ≤ 1000000000 ∧ hi ≤ 1000000000 ∧ st ≤ 1000000000) (h1 : sp = false → st = 1) (w : World) :
    Calls Tryd.prog 25 #[.agg #[.int .i64 lo, .int .i64 hi, .int .i64 st, .bool sp], .int .i64 size] w fun e w' => e = .returned (tupU (setS ⟨lo, hi, st, sp⟩ size)) ∧ Below w.heap.size w w' := by
  obtain ⟨hb1, hb2, hb3⟩ := hb
  have ez : IntKind.i64.wrap ((size : Int) - 1) = ((size - 1 : Nat) : Int) := by rw [IntKind.wrap_i64]; omega
  obtain ⟨z, hz⟩ : ∃ z, size - 1 = z := ⟨_, rfl⟩
  rw [hz] at ez
  go_enter Tryd.func25, Tryd.ntmps25
  cases sp
  · obtain rfl := h1 rfl
    clear h1
    by_cases g0 : size ≤ lo
    · have t0 : decide ((size : Int) ≤ lo) = true := decide_eq_true (by omega)
      have u0 : decide (size ≤ lo) = true := decide_eq_true (by omega)
      have HD := Lib.hid (set_bad (p := ⟨lo, hi, 1, false⟩) (size := size) (by unfold setBad; simp only [Bool.or_eq_true, Bool.and_eq_true, decide_eq_true_eq, Bool.false_eq_true, if_false, false_and, false_or]; omega))
      clear g0
      go_wp2_with fail
      go_ret2
      exact ⟨ret_tupU0 HD.out, ((Below.refl _ _).alloc (Nat.le_refl _) _)⟩
    · have t0 : decide ((size : Int) ≤ lo) = false := decide_eq_false (by omega)
      have u0 : decide (size ≤ lo) = false := decide_eq_false (by omega)
      by_cases g1 : size ≤ hi
      · have t1 : decide ((size : Int) ≤ hi) = true := decide_eq_true (by omega)
        have u1 : decide (size ≤ hi) = true := decide_eq_true (by omega)
        have HD := Lib.hid (set_bad (p := ⟨lo, hi, 1, false⟩) (size := size) (by unfold setBad; simp only [Bool.or_eq_true, Bool.and_eq_true, decide_eq_true_eq, Bool.false_eq_true, if_false, false_and, false_or]; omega))
        clear g0 g1
        go_wp2_with fail
        go_ret2
        exact ⟨ret_tupU0 HD.out, ((Below.refl _ _).alloc (Nat.le_refl _) _)⟩
      · have t1 : decide ((size : Int) ≤ hi) = false := decide_eq_false (by omega)
        have u1 : decide (size ≤ hi) = false := decide_eq_false (by omega)
        by_cases g2 : hi < lo
        · have t2 : decide ((hi : Int) < lo) = true := decide_eq_true (by omega)
          have u2 : decide (hi < lo) = true := decide_eq_true (by omega)
          have HD := Lib.hid (set_bad (p := ⟨lo, hi, 1, false⟩) (size := size) (by unfold setBad; simp only [Bool.or_eq_true, Bool.and_eq_true, decide_eq_true_eq, Bool.false_eq_true, if_false, false_and, false_or]; omega))
          clear g0 g1 g2
          go_wp2_with fail
          go_ret2
          exact ⟨ret_tupU0 HD.out, ((Below.refl _ _).alloc (Nat.le_refl _) _)⟩
        · have t2 : decide ((hi : Int) < lo) = false := decide_eq_false (by omega)
          have u2 : decide (hi < lo) = false := decide_eq_false (by omega)
          have HD := Lib.hid (set_good (p := ⟨lo, hi, 1, false⟩) (size := size) (by unfold setBad; rw [← Bool.not_eq_true]; simp only [Bool.or_eq_true, Bool.and_eq_true, decide_eq_true_eq, Bool.false_eq_true, if_false, false_and, false_or]; omega))
          have HH : setHi ⟨lo, hi, 1, false⟩ size = hi := by unfold setHi; simp
          rw [HH] at HD
          dsimp only at HD
          clear HH
          have BX := Blk.new w 51 #[.int .i64 lo, .int .i64 hi, .int .i64 1, .bool false]
          have HB0 := Lib.hid (show Below w.heap.size w (w.alloc (.cells #[.int .i64 lo, .int .i64 hi, .int .i64 1, .bool false] 51)) from (Below.refl _ _).alloc (Nat.le_refl _) _)
          have HX := Lib.hid BX
          clear BX
          go_wp2_with fail
          go_loopw [6, 7] (fun o i wr => ∃ (n acc : Nat), i = .int .i64 n ∧ o = .int .u64 acc ∧ acc < 1152921504606846976 ∧ (n : Int) ≤ 2000000000 ∧ runS 1 hi (hi + 1 - lo) lo 0 = runS 1 hi (hi + 1 - n) n acc ∧ Below w.heap.size w wr ∧ Blk wr w.heap.size 51 #[.int .i64 lo, .int .i64 hi, .int .i64 1, .bool false]) (fun _ i _ => hi + 1 - (intOf i).toNat)
          case atStart => exact ⟨lo, 0, rfl, rfl, by omega, by omega, rfl, HB0.out, HX.out⟩
          case round =>
            obtain ⟨n, acc, rfl, rfl, hacc, hn, hrun, hbr, bx⟩ := hrel
            have HR := Lib.hid hrun
            have HB := Lib.hid hbr
            have HC := Lib.hid bx
            have hzr := hbr.size
            clear hrun hbr
            have q0 : wr.cell? ⟨w.heap.size, 0, none⟩ = some (.int .i64 lo) := bx.cell 0
            have q1 : wr.cell? ⟨w.heap.size, 1, none⟩ = some (.int .i64 hi) := bx.cell 1
            have q2 : wr.cell? ⟨w.heap.size, 2, none⟩ = some (.int .i64 1) := bx.cell 2
            have q3 : wr.cell? ⟨w.heap.size, 3, none⟩ = some (.bool false) := bx.cell 3
            clear bx
            by_cases hle : n ≤ hi
            · have tl : decide ((n : Int) ≤ hi) = true := decide_eq_true (by omega)
              have ul : decide (n ≤ hi) = true := decide_eq_true (by omega)
              have HS := Lib.hid (runS_step (st := 1) (by omega) hle acc)
              have hn59 : n ≤ 59 := by omega
              have hn0 : (0 : Int) ≤ n := by omega
              have hn64 : (n : Int) ≤ 64 := by omega
              obtain ⟨P, hP⟩ : ∃ P, 2 ^ n = P := ⟨_, rfl⟩
              have hPb : P < 1152921504606846976 := by rw [← hP, show (1152921504606846976 : Nat) = 2 ^ 60 from by decide]; exact Nat.pow_lt_pow_right (by omega) (by omega)
              have e1 : IntKind.u64.wrap ((2 : Int) ^ n) = (P : Int) := by rw [pow_u64 (by omega), hP]
              obtain ⟨A, hA⟩ : ∃ A, acc ||| P = A := ⟨_, rfl⟩
              have hAb : A < 1152921504606846976 := by rw [← hA, show (1152921504606846976 : Nat) = 2 ^ 60 from by decide] at *; exact Nat.or_lt_two_pow hacc hPb
              have e2 : bits .or .u64 (acc : Int) (P : Int) = (A : Int) := by rw [or_u64 hacc hPb, hA]
              have e3 : IntKind.i64.wrap ((n : Int) + 1) = ((n + 1 : Nat) : Int) := by rw [IntKind.wrap_i64]; omega
              obtain ⟨m, hm⟩ : ∃ m, n + 1 = m := ⟨_, rfl⟩
              rw [hm] at e3 HS
              rw [hP, hA] at HS
              have hmb : (m : Int) ≤ 2000000000 := by omega
              have hmn : n < m := by omega
              have HP := Lib.hid hAb
              clear hP hA hm hPb hAb hacc
              go_wp2_with fail
              go_roundw
              case rel => exact ⟨m, A, rfl, rfl, HP.out, hmb, by rw [HR.out, HS.out], HB.out, HC.out⟩
              case measure => simp [intOf]; omega
            · have tl : decide ((n : Int) ≤ hi) = false := decide_eq_false (by omega)
              have ul : decide (n ≤ hi) = false := decide_eq_false (by omega)
              have HE := Lib.hid (show setS ⟨lo, hi, 1, false⟩ size = (acc, true) from by rw [HD.out, HR.out, runS_stop hle])
              clear hacc
              go_wp2_with fail
              go_ret2
              exact ⟨ret_tupU HE.out, HB.out⟩
  · skip
    clear h1
    by_cases g0 : st < 1
    · have t0 : decide ((st : Int) < 1) = true := decide_eq_true (by omega)
      have u0 : decide (st < 1) = true := decide_eq_true (by omega)
      have v0 : decide (st = 0) = true := decide_eq_true (by omega)
      have HD := Lib.hid (set_bad (p := ⟨lo, hi, st, true⟩) (size := size) (by unfold setBad; simp only [Bool.or_eq_true, Bool.and_eq_true, decide_eq_true_eq, if_true, true_and]; omega))
      clear g0
      go_wp2_with fail
      go_ret2
      exact ⟨ret_tupU0 HD.out, ((Below.refl _ _).alloc (Nat.le_refl _) _)⟩
    · have t0 : decide ((st : Int) < 1) = false := decide_eq_false (by omega)
      have u0 : decide (st < 1) = false := decide_eq_false (by omega)
      have v0 : decide (st = 0) = false := decide_eq_false (by omega)
      by_cases g1 : size < st
      · have t1 : decide ((size : Int) < st) = true := decide_eq_true (by omega)
        have u1 : decide (size < st) = true := decide_eq_true (by omega)
        have HD := Lib.hid (set_bad (p := ⟨lo, hi, st, true⟩) (size := size) (by unfold setBad; simp only [Bool.or_eq_true, Bool.and_eq_true, decide_eq_true_eq, if_true, true_and]; omega))
        clear g0 g1
        go_wp2_with fail
        go_ret2
        exact ⟨ret_tupU0 HD.out, ((Below.refl _ _).alloc (Nat.le_refl _) _)⟩
      · have t1 : decide ((size : Int) < st) = false := decide_eq_false (by omega)
        have u1 : decide (size < st) = false := decide_eq_false (by omega)
        by_cases g2 : size ≤ lo
        · have t2 : decide ((size : Int) ≤ lo) = true := decide_eq_true (by omega)
          have u2 : decide (size ≤ lo) = true := decide_eq_true (by omega)
          have HD := Lib.hid (set_bad (p := ⟨lo, hi, st, true⟩) (size := size) (by unfold setBad; simp only [Bool.or_eq_true, Bool.and_eq_true, decide_eq_true_eq, if_true, true_and]; omega))
          clear g0 g1 g2
          go_wp2_with fail
          go_ret2
          exact ⟨ret_tupU0 HD.out, ((Below.refl _ _).alloc (Nat.le_refl _) _)⟩
        · have t2 : decide ((size : Int) ≤ lo) = false := decide_eq_false (by omega)
          have u2 : decide (size ≤ lo) = false := decide_eq_false (by omega)
          by_cases g3 : size ≤ z
          · have t3 : decide ((size : Int) ≤ z) = true := decide_eq_true (by omega)
            have u3 : decide (size ≤ z) = true := decide_eq_true (by omega)
            have HD := Lib.hid (set_bad (p := ⟨lo, hi, st, true⟩) (size := size) (by unfold setBad; simp only [Bool.or_eq_true, Bool.and_eq_true, decide_eq_true_eq, if_true, true_and]; omega))
            clear g0 g1 g2 g3
            go_wp2_with fail
            go_ret2
            exact ⟨ret_tupU0 HD.out, ((Below.refl _ _).alloc (Nat.le_refl _) _)⟩
          · have t3 : decide ((size : Int) ≤ z) = false := decide_eq_false (by omega)
            have u3 : decide (size ≤ z) = false := decide_eq_false (by omega)
            by_cases g4 : z < lo
            · have t4 : decide ((z : Int) < lo) = true := decide_eq_true (by omega)
              have u4 : decide (z < lo) = true := decide_eq_true (by omega)
              have HD := Lib.hid (set_bad (p := ⟨lo, hi, st, true⟩) (size := size) (by unfold setBad; simp only [Bool.or_eq_true, Bool.and_eq_true, decide_eq_true_eq, if_true, true_and]; omega))
              clear g0 g1 g2 g3 g4
              go_wp2_with fail
              go_ret2
              exact ⟨ret_tupU0 HD.out, ((Below.refl _ _).alloc (Nat.le_refl _) _)⟩
            · have t4 : decide ((z : Int) < lo) = false := decide_eq_false (by omega)
              have u4 : decide (z < lo) = false := decide_eq_false (by omega)
              have HD := Lib.hid (set_good (p := ⟨lo, hi, st, true⟩) (size := size) (by unfold setBad; rw [← Bool.not_eq_true]; simp only [Bool.or_eq_true, Bool.and_eq_true, decide_eq_true_eq, if_true, true_and]; omega))
              have HH : setHi ⟨lo, hi, st, true⟩ size = z := by unfold setHi; simp; omega
              rw [HH] at HD
              dsimp only at HD
              clear HH
              have BX := Blk.new w 51 #[.int .i64 lo, .int .i64 z, .int .i64 st, .bool true]
              have HB0 := Lib.hid (show Below w.heap.size w (w.alloc (.cells #[.int .i64 lo, .int .i64 z, .int .i64 st, .bool true] 51)) from (Below.refl _ _).alloc (Nat.le_refl _) _)
              have HX := Lib.hid BX
              clear BX
              go_wp2_with fail
              go_loopw [6, 7] (fun o i wr => ∃ (n acc : Nat), i = .int .i64 n ∧ o = .int .u64 acc ∧ acc < 1152921504606846976 ∧ (n : Int) ≤ 2000000000 ∧ runS st z (z + 1 - lo) lo 0 = runS st z (z + 1 - n) n acc ∧ Below w.heap.size w wr ∧ Blk wr w.heap.size 51 #[.int .i64 lo, .int .i64 z, .int .i64 st, .bool true]) (fun _ i _ => z + 1 - (intOf i).toNat)
              case atStart => exact ⟨lo, 0, rfl, rfl, by omega, by omega, rfl, HB0.out, HX.out⟩
              case round =>
                obtain ⟨n, acc, rfl, rfl, hacc, hn, hrun, hbr, bx⟩ := hrel
                have HR := Lib.hid hrun
                have HB := Lib.hid hbr
                have HC := Lib.hid bx
                have hzr := hbr.size
                clear hrun hbr
                have q0 : wr.cell? ⟨w.heap.size, 0, none⟩ = some (.int .i64 lo) := bx.cell 0
                have q1 : wr.cell? ⟨w.heap.size, 1, none⟩ = some (.int .i64 z) := bx.cell 1
                have q2 : wr.cell? ⟨w.heap.size, 2, none⟩ = some (.int .i64 st) := bx.cell 2
                have q3 : wr.cell? ⟨w.heap.size, 3, none⟩ = some (.bool true) := bx.cell 3
                clear bx
                by_cases hle : n ≤ z
                · have tl : decide ((n : Int) ≤ z) = true := decide_eq_true (by omega)
                  have ul : decide (n ≤ z) = true := decide_eq_true (by omega)
                  have HS := Lib.hid (runS_step (st := st) (by omega) hle acc)
                  have hn59 : n ≤ 59 := by omega
                  have hn0 : (0 : Int) ≤ n := by omega
                  have hn64 : (n : Int) ≤ 64 := by omega
                  obtain ⟨P, hP⟩ : ∃ P, 2 ^ n = P := ⟨_, rfl⟩
                  have hPb : P < 1152921504606846976 := by rw [← hP, show (1152921504606846976 : Nat) = 2 ^ 60 from by decide]; exact Nat.pow_lt_pow_right (by omega) (by omega)
                  have e1 : IntKind.u64.wrap ((2 : Int) ^ n) = (P : Int) := by rw [pow_u64 (by omega), hP]
                  obtain ⟨A, hA⟩ : ∃ A, acc ||| P = A := ⟨_, rfl⟩
                  have hAb : A < 1152921504606846976 := by rw [← hA, show (1152921504606846976 : Nat) = 2 ^ 60 from by decide] at *; exact Nat.or_lt_two_pow hacc hPb
                  have e2 : bits .or .u64 (acc : Int) (P : Int) = (A : Int) := by rw [or_u64 hacc hPb, hA]
                  have e3 : IntKind.i64.wrap ((n : Int) + st) = ((n + st : Nat) : Int) := by rw [IntKind.wrap_i64]; omega
                  obtain ⟨m, hm⟩ : ∃ m, n + st = m := ⟨_, rfl⟩
                  rw [hm] at e3 HS
                  rw [hP, hA] at HS
                  have hmb : (m : Int) ≤ 2000000000 := by omega
                  have hmn : n < m := by omega
                  have HP := Lib.hid hAb
                  clear hP hA hm hPb hAb hacc
                  go_wp2_with fail
                  go_roundw
                  case rel => exact ⟨m, A, rfl, rfl, HP.out, hmb, by rw [HR.out, HS.out], HB.out, HC.out⟩
                  case measure => simp [intOf]; omega
                · have tl : decide ((n : Int) ≤ z) = false := decide_eq_false (by omega)
                  have ul : decide (n ≤ z) = false := decide_eq_false (by omega)
                  have HE := Lib.hid (show setS ⟨lo, hi, st, true⟩ size = (acc, true) from by rw [HD.out, HR.out, runS_stop hle])
                  clear hacc
                  go_wp2_with fail
                  go_ret2
                  exact ⟨ret_tupU HE.out, HB.out⟩
end Go.Proofs.YtnagnaekcphpiaaDoor
