/- cron: the small functions. -/
import Derived.Test.YtnagnaekcphpiaaDoorUS
import Derived.Test.YtnagnaekcphpiaaDoorCC
namespace Go.Proofs.YtnagnaekcphpiaaDoor
open Go.RowKit
open Go.Sort (grow)

theorem below_set3' {B : Nat} {w w1 : World} (h : Below B w w1) {H : Nat} (hH : B ≤ H) (x y z : Value) : Below B w (((w1.setCell ⟨H, 0, none⟩ x).setCell ⟨H, 1, none⟩ y).setCell ⟨H, 2, none⟩ z) :=
  (((h.setCell (by simpa using hH) x).setCell (by simpa using hH) y)).setCell (by simpa using hH) z
theorem sizes_any (w : World) : Calls Tryd.prog 26 #[] w fun e w' => e = .returned (.agg #[.int .i64 60, .int .i64 24, .int .i64 7]) ∧ Below w.heap.size w w' := by
  go_enter Tryd.func26, Tryd.ntmps26
  go_wp2_with fail
  exact bodyPost_ret (v := .agg #[.int .i64 60, .int .i64 24, .int .i64 7]) (by simp [results, Tryd.results26, go_sem]) rfl ⟨rfl, (Below.refl _ _).alloc (Nat.le_refl _) _⟩
/-- The set of all numbers below k. -/
def alI (k : Nat) : Int := ((2 ^ k - 1 : Nat) : Int)
theorem pow_u64 {k : Nat} (hk : k ≤ 63) : IntKind.u64.wrap ((2 : Int) ^ k) = ((2 ^ k : Nat) : Int) := by
  have h : 2 ^ k < 2 ^ 64 := Nat.pow_lt_pow_right (by omega) (by omega)
  rw [show ((2 : Int) ^ k) = ((2 ^ k : Nat) : Int) from by simp, IntKind.wrap_u64]
  generalize 2 ^ k = P at *
  omega
theorem all_val {k : Nat} (hk : k ≤ 63) : IntKind.u64.wrap (IntKind.u64.wrap ((2 : Int) ^ k) - 1) = alI k := by
  have h : 2 ^ k < 2 ^ 64 := Nat.pow_lt_pow_right (by omega) (by omega)
  have h1 : 1 ≤ 2 ^ k := Nat.one_le_two_pow
  rw [pow_u64 hk, IntKind.wrap_u64]
  unfold alI
  generalize 2 ^ k = P at *
  omega
theorem all_any (k : Nat) (hk : k ≤ 60) (w : World) : Calls Tryd.prog 32 #[.int .i64 k] w fun e w' => e = .returned (.int .u64 (alI k)) ∧ w = w' := by
  have hk0 : (0 : Int) ≤ k := by omega
  have hk1 : (k : Int) ≤ 64 := by omega
  have HV := Lib.hid (all_val (k := k) (by omega))
  go_enter Tryd.func32, Tryd.ntmps32
  go_wp2_with fail
  go_ret
  exact ⟨ret_int HV.out, rfl⟩
theorem all60 (w : World) : Calls Tryd.prog 32 #[.int .i64 60] w fun e w' => e = .returned (.int .u64 (alI 60)) ∧ w = w' := all_any 60 (by omega) w
theorem all24 (w : World) : Calls Tryd.prog 32 #[.int .i64 24] w fun e w' => e = .returned (.int .u64 (alI 24)) ∧ w = w' := all_any 24 (by omega) w
theorem all7 (w : World) : Calls Tryd.prog 32 #[.int .i64 7] w fun e w' => e = .returned (.int .u64 (alI 7)) ∧ w = w' := all_any 7 (by omega) w
theorem ofInt_nat' {n a : Nat} (h : a < 2 ^ n) : (BitVec.ofInt n (a : Int)).toNat = a := by
  rw [BitVec.toNat_ofInt]
  have : ((a : Int) % ((2 ^ n : Nat) : Int)) = (a : Int) := Int.emod_eq_of_lt (by omega) (by omega)
  omega
theorem and_not {x k : Nat} (hx : x < 18446744073709551616) (hk : k ≤ 60) : (bits .andNot .u64 (x : Int) (alI k) != 0) = !decide (x < 2 ^ k) := by
  have h : 2 ^ k < 2 ^ 64 := Nat.pow_lt_pow_right (by omega) (by omega)
  have h1 : 1 ≤ 2 ^ k := Nat.one_le_two_pow
  show (IntKind.u64.wrap ((BitVec.ofInt 64 (x : Int) &&& ~~~ BitVec.ofInt 64 (alI k)).toNat : Int) != 0) = _
  have hlt := (BitVec.ofInt 64 (x : Int) &&& ~~~ BitVec.ofInt 64 (alI k)).isLt
  rw [IntKind.wrap_u64, Int.emod_eq_of_lt (by omega) (by omega)]
  have e : (BitVec.ofInt 64 (x : Int) &&& ~~~ BitVec.ofInt 64 (alI k)).toNat = x &&& (2 ^ 64 - (2 ^ k - 1 + 1)) := by
    unfold alI
    rw [BitVec.toNat_and, BitVec.toNat_not, ofInt_nat' (n := 64) (by omega), ofInt_nat' (n := 64) (by omega)]
    congr 1
    omega
  rw [e]
  have key : (x &&& (2 ^ 64 - (2 ^ k - 1 + 1)) = 0) ↔ x < 2 ^ k := by
    have hb : ∀ i, (x &&& (2 ^ 64 - (2 ^ k - 1 + 1))).testBit i = (x.testBit i && (decide (i < 64) && !decide (i < k))) := by
      intro i
      rw [Nat.testBit_and, Nat.testBit_two_pow_sub_succ (by omega), Nat.testBit_two_pow_sub_one]
    constructor
    · intro h0
      apply Nat.lt_pow_two_of_testBit
      intro i hi
      have := hb i
      rw [h0, Nat.zero_testBit, decide_eq_false (by omega : ¬ i < k)] at this
      by_cases h6 : i < 64
      · rw [decide_eq_true h6] at this; simpa using this.symm
      · exact Nat.testBit_lt_two_pow (Nat.lt_of_lt_of_le hx (Nat.pow_le_pow_right (n := 2) (by omega) (by omega : 64 ≤ i)))
    · intro hlt
      apply Nat.eq_of_testBit_eq
      intro i
      rw [hb, Nat.zero_testBit]
      by_cases hi : i < k
      · rw [decide_eq_true hi]; simp
      · rw [Nat.testBit_lt_two_pow (Nat.lt_of_lt_of_le hlt (Nat.pow_le_pow_right (by omega) (by omega)))]; rfl
  by_cases hx2 : x < 2 ^ k
  · rw [key.2 hx2, decide_eq_true hx2]; rfl
  · have hne : x &&& (2 ^ 64 - (2 ^ k - 1 + 1)) ≠ 0 := fun e => hx2 (key.1 e)
    rw [decide_eq_false hx2, Bool.not_false, bne_iff_ne]
    omega
theorem fields_any (c : Cr) (w : World) : Calls Tryd.prog 31 #[.agg #[.int .u64 c.mi, .int .u64 c.ho, .int .u64 c.da]] w fun e w' => e = .returned (.agg #[.int .u64 c.mi, .int .u64 c.ho, .int .u64 c.da]) ∧ Below w.heap.size w w' := by
  go_enter Tryd.func31, Tryd.ntmps31
  go_wp2_with fail
  exact bodyPost_ret (v := .agg #[.int .u64 c.mi, .int .u64 c.ho, .int .u64 c.da]) (by simp [results, Tryd.results31, go_sem]) rfl ⟨rfl, ((Below.refl _ _).alloc (Nat.le_refl _) _).alloc (by simp) _⟩
theorem run_u3_0 (a b d : Int) (w : World) : (Instr.index 49 (.agg #[.int .u64 a, .int .u64 b, .int .u64 d]) (.int .i64 0)).run Tryd.prog w = .ok (.int .u64 a) w := by
  simp [Instr.index, asIntOf, run_underlying Tryd.underlying49, part, Tryd.sizeOf23, Tryd.isAgg23, go_sem]
attribute [local go_sem] run_u3_0
theorem run_u3_1 (a b d : Int) (w : World) : (Instr.index 49 (.agg #[.int .u64 a, .int .u64 b, .int .u64 d]) (.int .i64 1)).run Tryd.prog w = .ok (.int .u64 b) w := by
  simp [Instr.index, asIntOf, run_underlying Tryd.underlying49, part, Tryd.sizeOf23, Tryd.isAgg23, go_sem]
attribute [local go_sem] run_u3_1
theorem run_u3_2 (a b d : Int) (w : World) : (Instr.index 49 (.agg #[.int .u64 a, .int .u64 b, .int .u64 d]) (.int .i64 2)).run Tryd.prog w = .ok (.int .u64 d) w := by
  simp [Instr.index, asIntOf, run_underlying Tryd.underlying49, part, Tryd.sizeOf23, Tryd.isAgg23, go_sem]
attribute [local go_sem] run_u3_2
theorem run_i3_0 (a b d : Int) (w : World) : (Instr.index 54 (.agg #[.int .i64 a, .int .i64 b, .int .i64 d]) (.int .i64 0)).run Tryd.prog w = .ok (.int .i64 a) w := by
  simp [Instr.index, asIntOf, run_underlying Tryd.underlying54, part, Tryd.sizeOf3, Tryd.isAgg3, go_sem]
attribute [local go_sem] run_i3_0
theorem run_i3_1 (a b d : Int) (w : World) : (Instr.index 54 (.agg #[.int .i64 a, .int .i64 b, .int .i64 d]) (.int .i64 1)).run Tryd.prog w = .ok (.int .i64 b) w := by
  simp [Instr.index, asIntOf, run_underlying Tryd.underlying54, part, Tryd.sizeOf3, Tryd.isAgg3, go_sem]
attribute [local go_sem] run_i3_1
theorem run_i3_2 (a b d : Int) (w : World) : (Instr.index 54 (.agg #[.int .i64 a, .int .i64 b, .int .i64 d]) (.int .i64 2)).run Tryd.prog w = .ok (.int .i64 d) w := by
  simp [Instr.index, asIntOf, run_underlying Tryd.underlying54, part, Tryd.sizeOf3, Tryd.isAgg3, go_sem]
attribute [local go_sem] run_i3_2
def ok1 (size set : Nat) : Bool := decide (0 < set) && decide (set < 2 ^ size)
theorem okC_eq (c : Cr) : okC c = (ok1 60 c.mi && ok1 24 c.ho && ok1 7 c.da) := rfl
def U64 (c : Cr) : Prop := c.mi < 18446744073709551616 ∧ c.ho < 18446744073709551616 ∧ c.da < 18446744073709551616
set_option maxHeartbeats 2000000 in
set_option maxRecDepth 20000 in
theorem Check_any (c : Cr) (w : World) (hu : U64 c) : Calls Tryd.prog 14 #[.agg #[.int .u64 c.mi, .int .u64 c.ho, .int .u64 c.da]] w fun e w' => e = .returned (.int .i64 (ckC c)) ∧ Below w.heap.size w w' := by
  have HU := Lib.hid hu
  clear hu
  go_enter Tryd.func14, Tryd.ntmps14
  go_wp2_with fail
  refine (fields_any c _).mono ?_
  rintro e w11 ⟨rfl, hb⟩
  have bc : Blk w11 (w.heap.size) 25 #[.int .u64 c.mi, .int .u64 c.ho, .int .u64 c.da] := (Blk.new _ _ _).on hb
  have hbz := hb.size
  have HB11 := Lib.hid (((Below.refl w.heap.size w).alloc (by first | exact Nat.le_refl _ | omega | (simp; done) | (simp; omega)) _).trans (hb.mono (by first | exact Nat.le_refl _ | omega | (simp; done) | (simp; omega))))
  have hz11 : w.heap.size ≤ w11.heap.size := HB11.out.size
  clear hb hbz
  have HBO := Lib.hid HB11.out
  go_wp2_with fail
  go_loopw [7] (fun i wr => ((i = .int .i64 0) ∨ (i = .int .i64 1 ∧ ok1 60 c.mi = true) ∨ (i = .int .i64 2 ∧ ok1 60 c.mi = true ∧ ok1 24 c.ho = true) ∨ (i = .int .i64 3 ∧ okC c = true)) ∧ Below w.heap.size w wr) (fun i _ => 3 - (intOf i).toNat)
  case atStart => exact ⟨.inl rfl, HBO.out⟩
  case round =>
    obtain ⟨hc, hbr⟩ := hrel
    have HB := Lib.hid hbr
    have hzr := hbr.size
    clear hbr
    rcases hc with rfl | ⟨rfl, h1⟩ | ⟨rfl, h1, h2⟩ | ⟨rfl, h1⟩
    · by_cases h0 : c.mi = 0
      · have HD := Lib.hid (show ckC c = 2 from ckC_no (by rw [okC_eq, show ok1 60 c.mi = false from by unfold ok1; rw [h0]; rfl]; simp))
        have t0 : ((c.mi : Int) == 0) = true := beq_iff_eq.2 (by omega)
        clear h0
        go_wp2_with fail
        go_ret
        exact ⟨ret_int HD.out.symm, HB.out⟩
      · have t0 : ((c.mi : Int) == 0) = false := beq_eq_false_iff_ne.2 (by omega)
        go_wp2_with fail
        refine (sizes_any _).mono ?_
        rintro e w1 ⟨rfl, hb⟩
        have HB1 := Lib.hid (HB.out.trans (hb.mono hzr))
        clear hb
        go_wp2_with fail
        refine (all60 _).mono ?_
        rintro e wq ⟨rfl, rfl⟩
        cases h9 : decide (c.mi < 2 ^ 60)
        · have HD := Lib.hid (show ckC c = 2 from ckC_no (by rw [okC_eq, show ok1 60 c.mi = false from by unfold ok1; rw [h9, Bool.and_false]]; simp))
          have t1 : (bits .andNot .u64 (c.mi : Int) (alI 60) != 0) = true := by rw [and_not (by have := HU.out; unfold U64 at this; omega) (by omega), h9]; rfl
          clear h9 h0
          go_wp2_with fail
          go_ret
          exact ⟨ret_int HD.out.symm, HB1.out⟩
        · have HD := Lib.hid (show ok1 60 c.mi = true from by unfold ok1; rw [h9, Bool.and_true]; exact decide_eq_true (by omega))
          have t1 : (bits .andNot .u64 (c.mi : Int) (alI 60) != 0) = false := by rw [and_not (by have := HU.out; unfold U64 at this; omega) (by omega), h9]; rfl
          clear h9 h0
          go_wp2_with fail
          go_roundw
          case rel => exact ⟨.inr (.inl ⟨rfl, HD.out⟩), HB1.out⟩
          case measure => simp [intOf]
    · by_cases h0 : c.ho = 0
      · have HD := Lib.hid (show ckC c = 2 from ckC_no (by rw [okC_eq, h1, show ok1 24 c.ho = false from by unfold ok1; rw [h0]; rfl]; simp))
        have t0 : ((c.ho : Int) == 0) = true := beq_iff_eq.2 (by omega)
        clear h0 h1
        go_wp2_with fail
        go_ret
        exact ⟨ret_int HD.out.symm, HB.out⟩
      · have t0 : ((c.ho : Int) == 0) = false := beq_eq_false_iff_ne.2 (by omega)
        go_wp2_with fail
        refine (sizes_any _).mono ?_
        rintro e w1 ⟨rfl, hb⟩
        have HB1 := Lib.hid (HB.out.trans (hb.mono hzr))
        clear hb
        go_wp2_with fail
        refine (all24 _).mono ?_
        rintro e wq ⟨rfl, rfl⟩
        cases h9 : decide (c.ho < 2 ^ 24)
        · have HD := Lib.hid (show ckC c = 2 from ckC_no (by rw [okC_eq, h1, show ok1 24 c.ho = false from by unfold ok1; rw [h9, Bool.and_false]]; simp))
          have t1 : (bits .andNot .u64 (c.ho : Int) (alI 24) != 0) = true := by rw [and_not (by have := HU.out; unfold U64 at this; omega) (by omega), h9]; rfl
          clear h9 h0 h1
          go_wp2_with fail
          go_ret
          exact ⟨ret_int HD.out.symm, HB1.out⟩
        · have HD := Lib.hid (show ok1 24 c.ho = true from by unfold ok1; rw [h9, Bool.and_true]; exact decide_eq_true (by omega))
          have t1 : (bits .andNot .u64 (c.ho : Int) (alI 24) != 0) = false := by rw [and_not (by have := HU.out; unfold U64 at this; omega) (by omega), h9]; rfl
          have HH1 := Lib.hid h1
          clear h9 h0 h1
          go_wp2_with fail
          go_roundw
          case rel => exact ⟨.inr (.inr (.inl ⟨rfl, HH1.out, HD.out⟩)), HB1.out⟩
          case measure => simp [intOf]
    · by_cases h0 : c.da = 0
      · have HD := Lib.hid (show ckC c = 2 from ckC_no (by rw [okC_eq, h1, h2, show ok1 7 c.da = false from by unfold ok1; rw [h0]; rfl]; simp))
        have t0 : ((c.da : Int) == 0) = true := beq_iff_eq.2 (by omega)
        clear h0 h1 h2
        go_wp2_with fail
        go_ret
        exact ⟨ret_int HD.out.symm, HB.out⟩
      · have t0 : ((c.da : Int) == 0) = false := beq_eq_false_iff_ne.2 (by omega)
        go_wp2_with fail
        refine (sizes_any _).mono ?_
        rintro e w1 ⟨rfl, hb⟩
        have HB1 := Lib.hid (HB.out.trans (hb.mono hzr))
        clear hb
        go_wp2_with fail
        refine (all7 _).mono ?_
        rintro e wq ⟨rfl, rfl⟩
        cases h9 : decide (c.da < 2 ^ 7)
        · have HD := Lib.hid (show ckC c = 2 from ckC_no (by rw [okC_eq, h1, h2, show ok1 7 c.da = false from by unfold ok1; rw [h9, Bool.and_false]]; simp))
          have t1 : (bits .andNot .u64 (c.da : Int) (alI 7) != 0) = true := by rw [and_not (by have := HU.out; unfold U64 at this; omega) (by omega), h9]; rfl
          clear h9 h0 h1 h2
          go_wp2_with fail
          go_ret
          exact ⟨ret_int HD.out.symm, HB1.out⟩
        · have HD := Lib.hid (show ok1 7 c.da = true from by unfold ok1; rw [h9, Bool.and_true]; exact decide_eq_true (by omega))
          have t1 : (bits .andNot .u64 (c.da : Int) (alI 7) != 0) = false := by rw [and_not (by have := HU.out; unfold U64 at this; omega) (by omega), h9]; rfl
          have HH1 := Lib.hid h1
          have HH2 := Lib.hid h2
          clear h9 h0 h1 h2
          go_wp2_with fail
          go_roundw
          case rel => exact ⟨.inr (.inr (.inr ⟨rfl, by rw [okC_eq, HH1.out, HH2.out, HD.out]; rfl⟩)), HB1.out⟩
          case measure => simp [intOf]
    · have HD := Lib.hid (ckC_ok h1)
      clear h1
      go_wp2_with fail
      go_ret
      exact ⟨ret_int HD.out.symm, HB.out⟩
end Go.Proofs.YtnagnaekcphpiaaDoor
