/- cron: Matches and Next of both sides. -/
import Derived.Test.YtnagnaekcphpiaaDoorCE
namespace Go.Proofs.YtnagnaekcphpiaaDoor
open Go.RowKit
open Go.Sort (grow)

theorem rSize0 (w : World) : Calls Tryd.prog 29 #[.int .i64 0] w fun e w' => e = .returned (.int .i64 60) ∧ w = w' := by
  go_enter Tryd.func29, Tryd.ntmps29
  go_wp2_with fail
  go_ret
  exact ⟨rfl, rfl⟩
theorem rSize1 (w : World) : Calls Tryd.prog 29 #[.int .i64 1] w fun e w' => e = .returned (.int .i64 24) ∧ w = w' := by
  go_enter Tryd.func29, Tryd.ntmps29
  go_wp2_with fail
  go_ret
  exact ⟨rfl, rfl⟩
theorem rSize2 (w : World) : Calls Tryd.prog 29 #[.int .i64 2] w fun e w' => e = .returned (.int .i64 7) ∧ w = w' := by
  go_enter Tryd.func29, Tryd.ntmps29
  go_wp2_with fail
  go_ret
  exact ⟨rfl, rfl⟩
theorem rSet0 (c : Cr) (w : World) : Calls Tryd.prog 36 #[.agg #[.int .u64 c.mi, .int .u64 c.ho, .int .u64 c.da], .int .i64 0] w fun e w' => e = .returned (.int .u64 c.mi) ∧ Below w.heap.size w w' := by
  go_enter Tryd.func36, Tryd.ntmps36
  go_wp2_with fail
  go_ret
  exact ⟨rfl, (Below.refl _ _).alloc (Nat.le_refl _) _⟩
theorem rSet1 (c : Cr) (w : World) : Calls Tryd.prog 36 #[.agg #[.int .u64 c.mi, .int .u64 c.ho, .int .u64 c.da], .int .i64 1] w fun e w' => e = .returned (.int .u64 c.ho) ∧ Below w.heap.size w w' := by
  go_enter Tryd.func36, Tryd.ntmps36
  go_wp2_with fail
  go_ret
  exact ⟨rfl, (Below.refl _ _).alloc (Nat.le_refl _) _⟩
theorem rSet2 (c : Cr) (w : World) : Calls Tryd.prog 36 #[.agg #[.int .u64 c.mi, .int .u64 c.ho, .int .u64 c.da], .int .i64 2] w fun e w' => e = .returned (.int .u64 c.da) ∧ Below w.heap.size w w' := by
  go_enter Tryd.func36, Tryd.ntmps36
  go_wp2_with fail
  go_ret
  exact ⟨rfl, (Below.refl _ _).alloc (Nat.le_refl _) _⟩
theorem rhas_any (x a : Nat) (b : Bool) (hx : x < 18446744073709551616) (ha : a ≤ 63) (hb : x.testBit a = b) (w : World) : Calls Tryd.prog 38 #[.int .u64 x, .int .i64 a] w fun e w' => e = .returned (.bool b) ∧ w = w' := by
  have g1 : (0 : Int) ≤ a := by omega
  have g2 : (a : Int) ≤ 64 := by omega
  have q := and_one (a := a) hx
  rw [hb] at q
  clear hb hx
  go_enter Tryd.func38, Tryd.ntmps38
  go_wp2_with fail
  go_ret
  exact ⟨rfl, rfl⟩
theorem shr_ne {x k : Nat} : (((x : Int) / 2 ^ k) != 0) = !decide (x < 2 ^ k) := by
  rw [shr_val]
  by_cases h : x < 2 ^ k
  · rw [Nat.div_eq_of_lt h, decide_eq_true h]; rfl
  · have : x / 2 ^ k ≠ 0 := Nat.div_ne_zero_iff.2 ⟨Nat.pos_iff_ne_zero.1 (Nat.two_pow_pos k), by omega⟩
    rw [decide_eq_false h, Bool.not_false, bne_iff_ne]
    omega
set_option maxHeartbeats 2000000 in
set_option maxRecDepth 20000 in
theorem rCheck_any (c : Cr) (w : World) : Calls Tryd.prog 15 #[.agg #[.int .u64 c.mi, .int .u64 c.ho, .int .u64 c.da]] w fun e w' => e = .returned (.int .i64 (ckC c)) ∧ Below w.heap.size w w' := by
  go_enter Tryd.func15, Tryd.ntmps15
  go_wp2_with fail
  have bc : Blk ((w).alloc (.cells #[.int .u64 c.mi, .int .u64 c.ho, .int .u64 c.da] 25)) (w.heap.size) 25 #[.int .u64 c.mi, .int .u64 c.ho, .int .u64 c.da] := Blk.new _ _ _
  have HB11 := Lib.hid (show Below w.heap.size w ((w).alloc (.cells #[.int .u64 c.mi, .int .u64 c.ho, .int .u64 c.da] 25)) from (Below.refl w.heap.size w).alloc (by first | exact Nat.le_refl _ | omega | (simp; done) | (simp; omega)) _)
  generalize (w).alloc (.cells #[.int .u64 c.mi, .int .u64 c.ho, .int .u64 c.da] 25) = w11 at *
  have hz11 : w.heap.size ≤ w11.heap.size := HB11.out.size
  go_loopw [3] (fun i wr => ((i = .int .i64 0) ∨ (i = .int .i64 1 ∧ ok1 60 c.mi = true) ∨ (i = .int .i64 2 ∧ ok1 60 c.mi = true ∧ ok1 24 c.ho = true) ∨ (i = .int .i64 3 ∧ okC c = true)) ∧ Below w.heap.size w wr ∧ Blk wr w.heap.size 25 #[.int .u64 c.mi, .int .u64 c.ho, .int .u64 c.da]) (fun i _ => 3 - (intOf i).toNat)
  case atStart => exact ⟨.inl rfl, HB11.out, bc⟩
  case round =>
    obtain ⟨hc, hbr, bc⟩ := hrel
    have HB := Lib.hid hbr
    have hzr := hbr.size
    have HC := Lib.hid bc
    clear hbr
    rcases hc with rfl | ⟨rfl, h1⟩ | ⟨rfl, h1, h2⟩ | ⟨rfl, h1⟩
    · skip
      have q0 : wr.cell? ⟨w.heap.size, 0, none⟩ = some (.int .u64 c.mi) := bc.cell 0
      have q1 : wr.cell? ⟨w.heap.size, 1, none⟩ = some (.int .u64 c.ho) := bc.cell 1
      have q2 : wr.cell? ⟨w.heap.size, 2, none⟩ = some (.int .u64 c.da) := bc.cell 2
      go_wp2_with fail
      refine (rSet0 c _).mono ?_
      rintro e w1 ⟨rfl, hb⟩
      have HB1 := Lib.hid (HB.out.trans (hb.mono hzr))
      have HC1 := Lib.hid (HC.out.on hb)
      have bc1 := HC1.out
      clear hb bc q0 q1 q2
      by_cases h0 : c.mi = 0
      · have HD := Lib.hid (show ckC c = 2 from ckC_no (by rw [okC_eq, show ok1 60 c.mi = false from by unfold ok1; rw [h0]; rfl]; simp))
        have t0 : ((c.mi : Int) == 0) = true := beq_iff_eq.2 (by omega)
        clear h0
        go_wp2_with fail
        go_ret
        exact ⟨ret_int HD.out.symm, HB1.out⟩
      · have t0 : ((c.mi : Int) == 0) = false := beq_eq_false_iff_ne.2 (by omega)
        have q0 : w1.cell? ⟨w.heap.size, 0, none⟩ = some (.int .u64 c.mi) := bc1.cell 0
        have q1 : w1.cell? ⟨w.heap.size, 1, none⟩ = some (.int .u64 c.ho) := bc1.cell 1
        have q2 : w1.cell? ⟨w.heap.size, 2, none⟩ = some (.int .u64 c.da) := bc1.cell 2
        go_wp2_with fail
        refine (rSet0 c _).mono ?_
        rintro e w2 ⟨rfl, hb⟩
        have HB2 := Lib.hid (HB1.out.trans (hb.mono HB1.out.size))
        have HC2 := Lib.hid (HC1.out.on hb)
        clear hb bc1 q0 q1 q2
        go_wp2_with fail
        refine (rSize0 _).mono ?_
        rintro e wq ⟨rfl, rfl⟩
        cases h9 : decide (c.mi < 2 ^ 60)
        · have HD := Lib.hid (show ckC c = 2 from ckC_no (by rw [okC_eq, show ok1 60 c.mi = false from by unfold ok1; rw [h9, Bool.and_false]]; simp))
          have t1 : (((c.mi : Int) / 1152921504606846976) != 0) = true := by have h := shr_ne (x := c.mi) (k := 60); rw [h9] at h; exact h
          clear h9 h0
          go_wp2_with fail
          go_ret
          exact ⟨ret_int HD.out.symm, HB2.out⟩
        · have HD := Lib.hid (show ok1 60 c.mi = true from by unfold ok1; rw [h9, Bool.and_true]; exact decide_eq_true (by omega))
          have t1 : (((c.mi : Int) / 1152921504606846976) != 0) = false := by have h := shr_ne (x := c.mi) (k := 60); rw [h9] at h; exact h
          clear h9 h0
          go_wp2_with fail
          go_roundw
          case rel => exact ⟨.inr (.inl ⟨rfl, HD.out⟩), HB2.out, HC2.out⟩
          case measure => simp [intOf]
    · skip
      have q0 : wr.cell? ⟨w.heap.size, 0, none⟩ = some (.int .u64 c.mi) := bc.cell 0
      have q1 : wr.cell? ⟨w.heap.size, 1, none⟩ = some (.int .u64 c.ho) := bc.cell 1
      have q2 : wr.cell? ⟨w.heap.size, 2, none⟩ = some (.int .u64 c.da) := bc.cell 2
      go_wp2_with fail
      refine (rSet1 c _).mono ?_
      rintro e w1 ⟨rfl, hb⟩
      have HB1 := Lib.hid (HB.out.trans (hb.mono hzr))
      have HC1 := Lib.hid (HC.out.on hb)
      have bc1 := HC1.out
      clear hb bc q0 q1 q2
      by_cases h0 : c.ho = 0
      · have HD := Lib.hid (show ckC c = 2 from ckC_no (by rw [okC_eq, h1, show ok1 24 c.ho = false from by unfold ok1; rw [h0]; rfl]; simp))
        have t0 : ((c.ho : Int) == 0) = true := beq_iff_eq.2 (by omega)
        clear h0 h1
        go_wp2_with fail
        go_ret
        exact ⟨ret_int HD.out.symm, HB1.out⟩
      · have t0 : ((c.ho : Int) == 0) = false := beq_eq_false_iff_ne.2 (by omega)
        have q0 : w1.cell? ⟨w.heap.size, 0, none⟩ = some (.int .u64 c.mi) := bc1.cell 0
        have q1 : w1.cell? ⟨w.heap.size, 1, none⟩ = some (.int .u64 c.ho) := bc1.cell 1
        have q2 : w1.cell? ⟨w.heap.size, 2, none⟩ = some (.int .u64 c.da) := bc1.cell 2
        go_wp2_with fail
        refine (rSet1 c _).mono ?_
        rintro e w2 ⟨rfl, hb⟩
        have HB2 := Lib.hid (HB1.out.trans (hb.mono HB1.out.size))
        have HC2 := Lib.hid (HC1.out.on hb)
        clear hb bc1 q0 q1 q2
        go_wp2_with fail
        refine (rSize1 _).mono ?_
        rintro e wq ⟨rfl, rfl⟩
        cases h9 : decide (c.ho < 2 ^ 24)
        · have HD := Lib.hid (show ckC c = 2 from ckC_no (by rw [okC_eq, h1, show ok1 24 c.ho = false from by unfold ok1; rw [h9, Bool.and_false]]; simp))
          have t1 : (((c.ho : Int) / 16777216) != 0) = true := by have h := shr_ne (x := c.ho) (k := 24); rw [h9] at h; exact h
          clear h9 h0 h1
          go_wp2_with fail
          go_ret
          exact ⟨ret_int HD.out.symm, HB2.out⟩
        · have HD := Lib.hid (show ok1 24 c.ho = true from by unfold ok1; rw [h9, Bool.and_true]; exact decide_eq_true (by omega))
          have t1 : (((c.ho : Int) / 16777216) != 0) = false := by have h := shr_ne (x := c.ho) (k := 24); rw [h9] at h; exact h
          have HH1 := Lib.hid h1
          clear h9 h0 h1
          go_wp2_with fail
          go_roundw
          case rel => exact ⟨.inr (.inr (.inl ⟨rfl, HH1.out, HD.out⟩)), HB2.out, HC2.out⟩
          case measure => simp [intOf]
    · skip
      have q0 : wr.cell? ⟨w.heap.size, 0, none⟩ = some (.int .u64 c.mi) := bc.cell 0
      have q1 : wr.cell? ⟨w.heap.size, 1, none⟩ = some (.int .u64 c.ho) := bc.cell 1
      have q2 : wr.cell? ⟨w.heap.size, 2, none⟩ = some (.int .u64 c.da) := bc.cell 2
      go_wp2_with fail
      refine (rSet2 c _).mono ?_
      rintro e w1 ⟨rfl, hb⟩
      have HB1 := Lib.hid (HB.out.trans (hb.mono hzr))
      have HC1 := Lib.hid (HC.out.on hb)
      have bc1 := HC1.out
      clear hb bc q0 q1 q2
      by_cases h0 : c.da = 0
      · have HD := Lib.hid (show ckC c = 2 from ckC_no (by rw [okC_eq, h1, h2, show ok1 7 c.da = false from by unfold ok1; rw [h0]; rfl]; simp))
        have t0 : ((c.da : Int) == 0) = true := beq_iff_eq.2 (by omega)
        clear h0 h1 h2
        go_wp2_with fail
        go_ret
        exact ⟨ret_int HD.out.symm, HB1.out⟩
      · have t0 : ((c.da : Int) == 0) = false := beq_eq_false_iff_ne.2 (by omega)
        have q0 : w1.cell? ⟨w.heap.size, 0, none⟩ = some (.int .u64 c.mi) := bc1.cell 0
        have q1 : w1.cell? ⟨w.heap.size, 1, none⟩ = some (.int .u64 c.ho) := bc1.cell 1
        have q2 : w1.cell? ⟨w.heap.size, 2, none⟩ = some (.int .u64 c.da) := bc1.cell 2
        go_wp2_with fail
        refine (rSet2 c _).mono ?_
        rintro e w2 ⟨rfl, hb⟩
        have HB2 := Lib.hid (HB1.out.trans (hb.mono HB1.out.size))
        have HC2 := Lib.hid (HC1.out.on hb)
        clear hb bc1 q0 q1 q2
        go_wp2_with fail
        refine (rSize2 _).mono ?_
        rintro e wq ⟨rfl, rfl⟩
        cases h9 : decide (c.da < 2 ^ 7)
        · have HD := Lib.hid (show ckC c = 2 from ckC_no (by rw [okC_eq, h1, h2, show ok1 7 c.da = false from by unfold ok1; rw [h9, Bool.and_false]]; simp))
          have t1 : (((c.da : Int) / 128) != 0) = true := by have h := shr_ne (x := c.da) (k := 7); rw [h9] at h; exact h
          clear h9 h0 h1 h2
          go_wp2_with fail
          go_ret
          exact ⟨ret_int HD.out.symm, HB2.out⟩
        · have HD := Lib.hid (show ok1 7 c.da = true from by unfold ok1; rw [h9, Bool.and_true]; exact decide_eq_true (by omega))
          have t1 : (((c.da : Int) / 128) != 0) = false := by have h := shr_ne (x := c.da) (k := 7); rw [h9] at h; exact h
          have HH1 := Lib.hid h1
          have HH2 := Lib.hid h2
          clear h9 h0 h1 h2
          go_wp2_with fail
          go_roundw
          case rel => exact ⟨.inr (.inr (.inr ⟨rfl, by rw [okC_eq, HH1.out, HH2.out, HD.out]; rfl⟩)), HB2.out, HC2.out⟩
          case measure => simp [intOf]
    · have HD := Lib.hid (ckC_ok h1)
      clear h1
      go_wp2_with fail
      go_ret
      exact ⟨ret_int HD.out.symm, HB.out⟩
set_option maxHeartbeats 2000000 in
set_option maxRecDepth 20000 in
theorem Matches_any (c : Cr) (t : Int) (w : World) (hu : U64 c) : Calls Tryd.prog 18 #[.agg #[.int .u64 c.mi, .int .u64 c.ho, .int .u64 c.da], .int .i64 t] w fun e w' => e = .returned (.bool (matC c t)) ∧ Below w.heap.size w w' := by
  have HU := Lib.hid hu
  clear hu
  go_enter Tryd.func18, Tryd.ntmps18
  go_wp2_with fail
  refine (Check_any c _ HU.out).mono ?_
  rintro e w11 ⟨rfl, hb⟩
  have bc : Blk w11 (w.heap.size) 25 #[.int .u64 c.mi, .int .u64 c.ho, .int .u64 c.da] := (Blk.new _ _ _).on hb
  have hbz := hb.size
  have HB11 := Lib.hid (((Below.refl w.heap.size w).alloc (by first | exact Nat.le_refl _ | omega | (simp; done) | (simp; omega)) _).trans (hb.mono (by first | exact Nat.le_refl _ | omega | (simp; done) | (simp; omega))))
  have hz11 : w.heap.size ≤ w11.heap.size := HB11.out.size
  clear hb hbz
  cases hok : okC c
  · have HD := Lib.hid (show matC c t = false from by unfold matC; rw [hok]; rfl)
    rw [ckC_no hok]
    clear hok
    go_wp2_with fail
    go_ret
    exact ⟨ret_bool HD.out.symm, HB11.out⟩
  · rw [ckC_ok hok]
    by_cases h0 : 0 ≤ t
    · have t0 : decide (0 ≤ t) = true := decide_eq_true h0
      by_cases h1 : t ≤ 1073741824
      · have t1 : decide (t ≤ 1073741824) = true := decide_eq_true h1
        obtain ⟨n, rfl⟩ : ∃ n : Nat, t = (n : Int) := ⟨t.toNat, by omega⟩
        have HD := Lib.hid (show matC c n = isC c n from by unfold matC; rw [hok, t0, t1]; rfl)
        clear hok h0
        have q_bc0 : w11.cell? ⟨w.heap.size, 0, none⟩ = some (.int .u64 c.mi) := bc.cell 0
        have q_bc1 : w11.cell? ⟨w.heap.size, 1, none⟩ = some (.int .u64 c.ho) := bc.cell 1
        have q_bc2 : w11.cell? ⟨w.heap.size, 2, none⟩ = some (.int .u64 c.da) := bc.cell 2
        go_wp2_with fail
        refine (is_any c n (by omega) _ HU.out).mono ?_
        rintro e w12 ⟨rfl, hb⟩
        clear q_bc0 q_bc1 q_bc2
        have bc : Blk w12 (w.heap.size) 25 #[.int .u64 c.mi, .int .u64 c.ho, .int .u64 c.da] := (bc).on hb
        have hbz := hb.size
        have HB12 := Lib.hid ((HB11.out).trans (hb.mono (by first | exact Nat.le_refl _ | omega | (simp; done) | (simp; omega))))
        have hz12 : w.heap.size ≤ w12.heap.size := HB12.out.size
        clear hb hbz
        go_wp2_with fail
        go_ret
        exact ⟨ret_bool HD.out.symm, HB12.out⟩
      · have t1 : decide (t ≤ 1073741824) = false := decide_eq_false h1
        have HD := Lib.hid (show matC c t = false from by unfold matC; rw [t1, Bool.and_false, Bool.and_false]; rfl)
        clear hok
        go_wp2_with fail
        go_ret
        exact ⟨ret_bool HD.out.symm, HB11.out⟩
    · have t0 : decide (0 ≤ t) = false := decide_eq_false h0
      have HD := Lib.hid (show matC c t = false from by unfold matC; rw [t0, Bool.false_and, Bool.and_false]; rfl)
      clear hok
      go_wp2_with fail
      go_ret
      exact ⟨ret_bool HD.out.symm, HB11.out⟩
set_option maxHeartbeats 2000000 in
set_option maxRecDepth 20000 in
theorem rMatches_any (c : Cr) (t : Int) (w : World) (hu : U64 c) : Calls Tryd.prog 19 #[.agg #[.int .u64 c.mi, .int .u64 c.ho, .int .u64 c.da], .int .i64 t] w fun e w' => e = .returned (.bool (matC c t)) ∧ Below w.heap.size w w' := by
  have HU := Lib.hid hu
  clear hu
  go_enter Tryd.func19, Tryd.ntmps19
  go_wp2_with fail
  refine (rCheck_any c _).mono ?_
  rintro e w11 ⟨rfl, hb⟩
  have bc : Blk w11 (w.heap.size) 25 #[.int .u64 c.mi, .int .u64 c.ho, .int .u64 c.da] := (Blk.new _ _ _).on hb
  have hbz := hb.size
  have HB11 := Lib.hid (((Below.refl w.heap.size w).alloc (by first | exact Nat.le_refl _ | omega | (simp; done) | (simp; omega)) _).trans (hb.mono (by first | exact Nat.le_refl _ | omega | (simp; done) | (simp; omega))))
  have hz11 : w.heap.size ≤ w11.heap.size := HB11.out.size
  clear hb hbz
  cases hok : okC c
  · have HD := Lib.hid (show matC c t = false from by unfold matC; rw [hok]; rfl)
    rw [ckC_no hok]
    clear hok
    go_wp2_with fail
    go_ret
    exact ⟨ret_bool HD.out.symm, HB11.out⟩
  · rw [ckC_ok hok]
    by_cases h0 : 0 ≤ t
    · have t0 : decide (0 ≤ t) = true := decide_eq_true h0
      by_cases h1 : t ≤ 1073741824
      · have t1 : decide (t ≤ 1073741824) = true := decide_eq_true h1
        obtain ⟨n, rfl⟩ : ∃ n : Nat, t = (n : Int) := ⟨t.toNat, by omega⟩
        have HD := Lib.hid (show matC c n = isC c n from by unfold matC; rw [hok, t0, t1]; rfl)
        clear hok h0
        obtain ⟨g1, g2, g3⟩ := HU.out
        obtain ⟨a, ha⟩ : ∃ a, n % 60 = a := ⟨_, rfl⟩
        obtain ⟨b, hb⟩ : ∃ b, n / 60 = b := ⟨_, rfl⟩
        obtain ⟨b', hb'⟩ : ∃ b', b % 24 = b' := ⟨_, rfl⟩
        obtain ⟨d, hd⟩ : ∃ d, n / 1440 = d := ⟨_, rfl⟩
        obtain ⟨d', hd'⟩ : ∃ d', d % 7 = d' := ⟨_, rfl⟩
        have e1 : Int.tmod (n : Int) 60 = (a : Int) := by rw [← ha]; rfl
        have e2 : Int.tdiv (n : Int) 60 = (b : Int) := by rw [← hb]; rfl
        have e3 : Int.tmod (b : Int) 24 = (b' : Int) := by rw [← hb']; rfl
        have e4 : Int.tdiv (n : Int) 1440 = (d : Int) := by rw [← hd]; rfl
        have e5 : Int.tmod (d : Int) 7 = (d' : Int) := by rw [← hd']; rfl
        have e6 : IntKind.i64.wrap (b : Int) = (b : Int) := by rw [IntKind.wrap_i64]; omega
        have e7 : IntKind.i64.wrap (d : Int) = (d : Int) := by rw [IntKind.wrap_i64]; omega
        have ga : a ≤ 63 := by omega
        have gb : b' ≤ 63 := by omega
        have gd : d' ≤ 63 := by omega
        have HE := Lib.hid (show isC c n = (c.mi.testBit a && c.ho.testBit b' && c.da.testBit d') from by unfold isC; rw [ha, hb, hb', hd, hd'])
        obtain ⟨x, hx⟩ : ∃ x, c.mi.testBit a = x := ⟨_, rfl⟩
        obtain ⟨y, hy⟩ : ∃ x, c.ho.testBit b' = x := ⟨_, rfl⟩
        obtain ⟨z, hz⟩ : ∃ x, c.da.testBit d' = x := ⟨_, rfl⟩
        rw [hx, hy, hz] at HE
        have HX := Lib.hid hx
        have HY := Lib.hid hy
        have HZ := Lib.hid hz
        clear hx hy hz ha hb hb' hd hd' h1
        have q_bc0 : w11.cell? ⟨w.heap.size, 0, none⟩ = some (.int .u64 c.mi) := bc.cell 0
        have q_bc1 : w11.cell? ⟨w.heap.size, 1, none⟩ = some (.int .u64 c.ho) := bc.cell 1
        have q_bc2 : w11.cell? ⟨w.heap.size, 2, none⟩ = some (.int .u64 c.da) := bc.cell 2
        go_wp2_with fail
        refine (rhas_any c.mi a x g1 ga HX.out _).mono ?_
        rintro e wq ⟨rfl, rfl⟩
        cases x
        · skip
          go_wp2_with fail
          go_ret
          exact ⟨ret_bool (by rw [HD.out, HE.out]; rfl), HB11.out⟩
        · go_wp2_with fail
          refine (rhas_any c.ho b' y g2 gb HY.out _).mono ?_
          rintro e wq ⟨rfl, rfl⟩
          cases y
          · skip
            go_wp2_with fail
            go_ret
            exact ⟨ret_bool (by rw [HD.out, HE.out]; rfl), HB11.out⟩
          · go_wp2_with fail
            refine (rhas_any c.da d' z g3 gd HZ.out _).mono ?_
            rintro e wq ⟨rfl, rfl⟩
            go_wp2_with fail
            go_ret
            exact ⟨ret_bool (by rw [HD.out, HE.out]; rfl), HB11.out⟩
      · have t1 : decide (t ≤ 1073741824) = false := decide_eq_false h1
        have HD := Lib.hid (show matC c t = false from by unfold matC; rw [t1, Bool.and_false, Bool.and_false]; rfl)
        clear hok
        go_wp2_with fail
        go_ret
        exact ⟨ret_bool HD.out.symm, HB11.out⟩
    · have t0 : decide (0 ≤ t) = false := decide_eq_false h0
      have HD := Lib.hid (show matC c t = false from by unfold matC; rw [t0, Bool.false_and, Bool.and_false]; rfl)
      clear hok
      go_wp2_with fail
      go_ret
      exact ⟨ret_bool HD.out.symm, HB11.out⟩
set_option maxHeartbeats 2000000 in
set_option maxRecDepth 20000 in
theorem Next_any (c : Cr) (a : Int) (w : World) (hu : U64 c) : Calls Tryd.prog 16 #[.agg #[.int .u64 c.mi, .int .u64 c.ho, .int .u64 c.da], .int .i64 a] w fun e w' => e = .returned (tup2 (nxS c a)) ∧ Below w.heap.size w w' := by
  have HU := Lib.hid hu
  clear hu
  go_enter Tryd.func16, Tryd.ntmps16
  go_wp2_with fail
  refine (Check_any c _ HU.out).mono ?_
  rintro e w11 ⟨rfl, hb⟩
  have bc : Blk w11 (w.heap.size) 25 #[.int .u64 c.mi, .int .u64 c.ho, .int .u64 c.da] := (Blk.new _ _ _).on hb
  have hbz := hb.size
  have HB11 := Lib.hid (((Below.refl w.heap.size w).alloc (by first | exact Nat.le_refl _ | omega | (simp; done) | (simp; omega)) _).trans (hb.mono (by first | exact Nat.le_refl _ | omega | (simp; done) | (simp; omega))))
  have hz11 : w.heap.size ≤ w11.heap.size := HB11.out.size
  clear hb hbz
  cases hok : okC c
  · have HD := Lib.hid (nx_bad (a := a) hok)
    rw [ckC_no hok]
    clear hok
    go_wp2_with fail
    go_ret2
    exact ⟨ret_tup2 HD.out, HB11.out⟩
  · rw [ckC_ok hok]
    have HK := Lib.hid hok
    clear hok
    by_cases h0 : a < -1
    · have t0 : decide (a < -1) = true := decide_eq_true h0
      have HD := Lib.hid (nx_rng HK.out (.inl h0))
      clear h0
      go_wp2_with fail
      go_ret2
      exact ⟨ret_tup2 HD.out, HB11.out⟩
    · have t0 : decide (a < -1) = false := decide_eq_false h0
      by_cases h1 : 1073741824 < a
      · have t1 : decide (1073741824 < a) = true := decide_eq_true h1
        have HD := Lib.hid (nx_rng HK.out (.inr h1))
        clear h1 h0
        go_wp2_with fail
        go_ret2
        exact ⟨ret_tup2 HD.out, HB11.out⟩
      · have t1 : decide (1073741824 < a) = false := decide_eq_false h1
        have HR := Lib.hid (show ¬ (a < -1 ∨ 1073741824 < a) from by omega)
        have ew : IntKind.i64.wrap (a + 1) = a + 1 := by rw [IntKind.wrap_i64]; omega
        have ew2 : IntKind.i64.wrap (a + 10080) = a + 10080 := by rw [IntKind.wrap_i64]; omega
        have HBC := Lib.hid bc
        have HB0 := Lib.hid HB11.out
        go_wp2_with fail
        go_loopw [7] (fun i wr => ∃ n : Nat, i = .int .i64 n ∧ a + 1 ≤ n ∧ (n : Int) ≤ 1073741826 ∧ (∀ u : Nat, a + 1 ≤ u → u < n → isC c u = false) ∧ Below w.heap.size w wr ∧ Blk wr w.heap.size 25 #[.int .u64 c.mi, .int .u64 c.ho, .int .u64 c.da]) (fun i _ => 1073741827 - (intOf i).toNat)
        case atStart => exact ⟨(a + 1).toNat, by rw [Int.toNat_of_nonneg (by omega)], by omega, by omega, fun u h1 h2 => absurd h2 (by omega), HB0.out, HBC.out⟩
        case round =>
          obtain ⟨n, rfl, hn1, hn2, hno, hbr, bc⟩ := hrel
          have HB := Lib.hid hbr
          have HN := Lib.hid hno
          have hzr := hbr.size
          clear hbr hno
          by_cases he : (n : Int) ≤ endN a
          · have em : (if 1073741824 < a + 10080 then (1073741824 : Int) else a + 10080) = endN a := by unfold endN; split <;> split <;> omega
            have t2 : decide ((n : Int) ≤ endN a) = true := decide_eq_true he
            have hs2 : (n : Int) ≤ 1073741824 := by unfold endN at he; split at he <;> omega
            have q_bc0 : wr.cell? ⟨w.heap.size, 0, none⟩ = some (.int .u64 c.mi) := bc.cell 0
            have q_bc1 : wr.cell? ⟨w.heap.size, 1, none⟩ = some (.int .u64 c.ho) := bc.cell 1
            have q_bc2 : wr.cell? ⟨w.heap.size, 2, none⟩ = some (.int .u64 c.da) := bc.cell 2
            go_wp2_with fail
            refine (is_any c n (by omega) _ HU.out).mono ?_
            rintro e w21 ⟨rfl, hb⟩
            clear q_bc0 q_bc1 q_bc2
            have bc : Blk w21 (w.heap.size) 25 #[.int .u64 c.mi, .int .u64 c.ho, .int .u64 c.da] := (bc).on hb
            have hbz := hb.size
            have HB21 := Lib.hid ((HB.out).trans (hb.mono (by first | exact Nat.le_refl _ | omega | (simp; done) | (simp; omega))))
            have hz21 : w.heap.size ≤ w21.heap.size := HB21.out.size
            clear hb hbz
            cases hi : isC c n
            · have HI := Lib.hid hi
              clear hi
              have ewn : IntKind.i64.wrap ((n : Int) + 1) = (n : Int) + 1 := by rw [IntKind.wrap_i64]; omega
              go_wp2_with fail
              go_roundw
              case rel => exact ⟨n + 1, by go_num, by omega, by omega, fun u h1 h2 => by rcases Nat.lt_or_ge u n with h3 | h3; exact HN.out u h1 h3; rw [show u = n from by omega]; exact HI.out, HB21.out, bc⟩
              case measure => simp [intOf]; omega
            · have HD := Lib.hid (nx_hit HK.out HR.out hn1 he hi HN.out)
              clear hi
              go_wp2_with fail
              go_ret2
              exact ⟨ret_tup2 HD.out, HB21.out⟩
          · have HD := Lib.hid (nx_none HK.out HR.out (fun u h1 h2 => HN.out u h1 (by omega)))
            have em : (if 1073741824 < a + 10080 then (1073741824 : Int) else a + 10080) = endN a := by unfold endN; split <;> split <;> omega
            have t2 : decide ((n : Int) ≤ endN a) = false := decide_eq_false he
            go_wp2_with fail
            go_ret2
            exact ⟨ret_tup2 HD.out, HB.out⟩
set_option maxHeartbeats 2000000 in
set_option maxRecDepth 20000 in
theorem rNext_any (c : Cr) (a : Int) (w : World) (hu : U64 c) : Calls Tryd.prog 17 #[.agg #[.int .u64 c.mi, .int .u64 c.ho, .int .u64 c.da], .int .i64 a] w fun e w' => e = .returned (tup2 (nxS c a)) ∧ Below w.heap.size w w' := by
  have HU := Lib.hid hu
  clear hu
  go_enter Tryd.func17, Tryd.ntmps17
  go_wp2_with fail
  refine (rCheck_any c _).mono ?_
  rintro e w11 ⟨rfl, hb⟩
  have bc : Blk w11 (w.heap.size) 25 #[.int .u64 c.mi, .int .u64 c.ho, .int .u64 c.da] := (Blk.new _ _ _).on hb
  have hbz := hb.size
  have HB11 := Lib.hid (((Below.refl w.heap.size w).alloc (by first | exact Nat.le_refl _ | omega | (simp; done) | (simp; omega)) _).trans (hb.mono (by first | exact Nat.le_refl _ | omega | (simp; done) | (simp; omega))))
  have hz11 : w.heap.size ≤ w11.heap.size := HB11.out.size
  clear hb hbz
  cases hok : okC c
  · have HD := Lib.hid (nx_bad (a := a) hok)
    rw [ckC_no hok]
    clear hok
    go_wp2_with fail
    go_ret2
    exact ⟨ret_tup2 HD.out, HB11.out⟩
  · rw [ckC_ok hok]
    have HK := Lib.hid hok
    clear hok
    by_cases h0 : a < -1
    · have t0 : decide (a < -1) = true := decide_eq_true h0
      have HD := Lib.hid (nx_rng HK.out (.inl h0))
      clear h0
      go_wp2_with fail
      go_ret2
      exact ⟨ret_tup2 HD.out, HB11.out⟩
    · have t0 : decide (a < -1) = false := decide_eq_false h0
      by_cases h1 : 1073741824 < a
      · have t1 : decide (1073741824 < a) = true := decide_eq_true h1
        have HD := Lib.hid (nx_rng HK.out (.inr h1))
        clear h1 h0
        go_wp2_with fail
        go_ret2
        exact ⟨ret_tup2 HD.out, HB11.out⟩
      · have t1 : decide (1073741824 < a) = false := decide_eq_false h1
        have HR := Lib.hid (show ¬ (a < -1 ∨ 1073741824 < a) from by omega)
        have ew : IntKind.i64.wrap (a + 1) = a + 1 := by rw [IntKind.wrap_i64]; omega
        have ew2 : IntKind.i64.wrap (a + 10080) = a + 10080 := by rw [IntKind.wrap_i64]; omega
        have HBC := Lib.hid bc
        have HB0 := Lib.hid HB11.out
        go_wp2_with fail
        go_loopw [7] (fun i wr => ∃ n : Nat, i = .int .i64 n ∧ a + 1 ≤ n ∧ (n : Int) ≤ 1073741826 ∧ (∀ u : Nat, a + 1 ≤ u → u < n → isC c u = false) ∧ Below w.heap.size w wr ∧ Blk wr w.heap.size 25 #[.int .u64 c.mi, .int .u64 c.ho, .int .u64 c.da]) (fun i _ => 1073741827 - (intOf i).toNat)
        case atStart => exact ⟨(a + 1).toNat, by rw [Int.toNat_of_nonneg (by omega)], by omega, by omega, fun u h1 h2 => absurd h2 (by omega), HB0.out, HBC.out⟩
        case round =>
          obtain ⟨n, rfl, hn1, hn2, hno, hbr, bc⟩ := hrel
          have HB := Lib.hid hbr
          have HN := Lib.hid hno
          have hzr := hbr.size
          clear hbr hno
          by_cases he : (n : Int) ≤ endN a
          · have hs1 : (n : Int) ≤ a + 10080 := by unfold endN at he; split at he <;> omega
            have hs2 : (n : Int) ≤ 1073741824 := by unfold endN at he; split at he <;> omega
            have t2 : decide ((n : Int) ≤ a + 10080) = true := decide_eq_true hs1
            have t3 : decide ((n : Int) ≤ 1073741824) = true := decide_eq_true hs2
            have hm2 : matC c n = isC c n := by unfold matC; rw [HK.out, t3, decide_eq_true (show (0 : Int) ≤ n by omega)]; rfl
            have q_bc0 : wr.cell? ⟨w.heap.size, 0, none⟩ = some (.int .u64 c.mi) := bc.cell 0
            have q_bc1 : wr.cell? ⟨w.heap.size, 1, none⟩ = some (.int .u64 c.ho) := bc.cell 1
            have q_bc2 : wr.cell? ⟨w.heap.size, 2, none⟩ = some (.int .u64 c.da) := bc.cell 2
            go_wp2_with fail
            refine (rMatches_any c n _ HU.out).mono ?_
            rintro e w21 ⟨rfl, hb⟩
            clear q_bc0 q_bc1 q_bc2
            have bc : Blk w21 (w.heap.size) 25 #[.int .u64 c.mi, .int .u64 c.ho, .int .u64 c.da] := (bc).on hb
            have hbz := hb.size
            have HB21 := Lib.hid ((HB.out).trans (hb.mono (by first | exact Nat.le_refl _ | omega | (simp; done) | (simp; omega))))
            have hz21 : w.heap.size ≤ w21.heap.size := HB21.out.size
            clear hb hbz
            rw [hm2]
            cases hi : isC c n
            · have HI := Lib.hid hi
              clear hi
              have ewn : IntKind.i64.wrap ((n : Int) + 1) = (n : Int) + 1 := by rw [IntKind.wrap_i64]; omega
              go_wp2_with fail
              go_roundw
              case rel => exact ⟨n + 1, by go_num, by omega, by omega, fun u h1 h2 => by rcases Nat.lt_or_ge u n with h3 | h3; exact HN.out u h1 h3; rw [show u = n from by omega]; exact HI.out, HB21.out, bc⟩
              case measure => simp [intOf]; omega
            · have HD := Lib.hid (nx_hit HK.out HR.out hn1 he hi HN.out)
              clear hi
              go_wp2_with fail
              go_ret2
              exact ⟨ret_tup2 HD.out, HB21.out⟩
          · have HD := Lib.hid (nx_none HK.out HR.out (fun u h1 h2 => HN.out u h1 (by omega)))
            by_cases hs1 : (n : Int) ≤ a + 10080
            · have t2 : decide ((n : Int) ≤ a + 10080) = true := decide_eq_true hs1
              have t3 : decide ((n : Int) ≤ 1073741824) = false := decide_eq_false (by unfold endN at he; split at he <;> omega)
              go_wp2_with fail
              go_ret2
              exact ⟨ret_tup2 HD.out, HB.out⟩
            · have t2 : decide ((n : Int) ≤ a + 10080) = false := decide_eq_false hs1
              go_wp2_with fail
              go_ret2
              exact ⟨ret_tup2 HD.out, HB.out⟩
end Go.Proofs.YtnagnaekcphpiaaDoor
