/- The walks of Check, Matches, Covers and their references. -/
import Derived.Test.YtpkekfhnpcjgkaaDoorW1
namespace Go.Proofs.YtpkekfhnpcjgkaaDoor
open Go.RowKit
open Nw
open Go.Sort (grow)

theorem i64_and_nat (a b : Nat) (ha : a < 9223372036854775808) (hb : b < 9223372036854775808) : bits .and .i64 (a : Int) (b : Int) = ((a &&& b : Nat) : Int) := by
  have hx : a &&& b < 2 ^ 63 := Nat.and_lt_two_pow _ (by omega)
  show IntKind.i64.wrap ((BitVec.ofInt 64 (a : Int) &&& BitVec.ofInt 64 (b : Int)).toNat : Int) = _
  have h1 : (BitVec.ofInt 64 (a : Int)).toNat = a := by rw [BitVec.ofInt_natCast, BitVec.toNat_ofNat]; exact Nat.mod_eq_of_lt (by omega)
  have h2 : (BitVec.ofInt 64 (b : Int)).toNat = b := by rw [BitVec.ofInt_natCast, BitVec.toNat_ofNat]; exact Nat.mod_eq_of_lt (by omega)
  rw [BitVec.toNat_and, h1, h2]
  exact IntWalk.i64_in _ (by omega)
theorem and_mod {a b : Int} (h0 : 0 ≤ a) (h1 : a ≤ 4294967295) : bits .and .i64 a (sz b - 1) = a % sz b := by
  obtain ⟨n, rfl⟩ := Int.eq_ofNat_of_zero_le h0
  have hp := sz_pos b
  have hl := sz_le b
  unfold sz at *
  generalize 32 - b.toNat = k at *
  have hk := Nat.pow_pos (n := k) (show 0 < 2 by omega)
  rw [show (((2 ^ k : Nat) : Int) - 1) = ((2 ^ k - 1 : Nat) : Int) by omega, i64_and_nat n (2 ^ k - 1) (by omega) (by omega), Nat.and_two_pow_sub_one_eq_mod, Int.natCast_emod]
theorem ck_no {r : Rule} (h : ¬ (0 ≤ r.ad ∧ r.ad ≤ 4294967295 ∧ 0 ≤ r.bi ∧ r.bi ≤ 32 ∧ 1 ≤ r.lo ∧ r.lo ≤ 65535 ∧ r.lo ≤ r.hi ∧ r.hi ≤ 65535)) : r.ck = 2 := by
  unfold Rule.ck; rw [if_neg (fun hh => h (r.rng_iff.1 hh))]
theorem ck_yes {r : Rule} (h : 0 ≤ r.ad ∧ r.ad ≤ 4294967295 ∧ 0 ≤ r.bi ∧ r.bi ≤ 32 ∧ 1 ≤ r.lo ∧ r.lo ≤ 65535 ∧ r.lo ≤ r.hi ∧ r.hi ≤ 65535) : r.ck = if r.ad % sz r.bi = 0 then 0 else 1 := by
  unfold Rule.ck; rw [if_pos (r.rng_iff.2 h)]
theorem rest_at (b : Int) (W : World) (d : Nat) (os : Array Obj) (h : 0 ≤ b ∧ b ≤ 32) :
    Calls Tryd.prog 77 #[.int .i64 b] (grow (redrawn W d) os) fun e w' => e = .returned (.int .i64 (sz b - 1)) ∧ ∃ p : Regrown, w' = grow (redrawn W p.d) p.os :=
  Calls.regrown_of ((rest_any b _ h.1 h.2).mono fun _ _ hh => ⟨hh.1, hh.2 ▸ Below.refl _ _⟩)
theorem rsize_at (b : Int) (W : World) (d : Nat) (os : Array Obj) (h : 0 ≤ b ∧ b ≤ 32) :
    Calls Tryd.prog 80 #[.int .i64 b] (grow (redrawn W d) os) fun e w' => e = .returned (.int .i64 (sz b)) ∧ ∃ p : Regrown, w' = grow (redrawn W p.d) p.os :=
  Calls.regrown_of ((rsize_any b _ h.1 h.2).mono fun _ _ hh => ⟨hh.1, hh.2 ▸ Below.refl _ _⟩)
theorem in_at (n lo hi : Int) (W : World) (d : Nat) (os : Array Obj) :
    Calls Tryd.prog 76 #[.int .i64 n, .int .i64 lo, .int .i64 hi] (grow (redrawn W d) os) fun e w' => e = .returned (.bool (inB n lo hi)) ∧ ∃ p : Regrown, w' = grow (redrawn W p.d) p.os :=
  Calls.regrown_of ((in_any n lo hi _).mono fun _ _ hh => ⟨hh.1, hh.2 ▸ Below.refl _ _⟩)
set_option maxHeartbeats 2000000 in
set_option maxRecDepth 100000 in
theorem Check_any (al : Bool) (ad bi lo hi : Int) (w : World) :
    Calls Tryd.prog 42 #[.agg #[.bool al, .int .i64 ad, .int .i64 bi, .int .i64 lo, .int .i64 hi]] w fun e w' => e = .returned (.int .i64 (Rule.mk al ad bi lo hi).ck) ∧ Below w.heap.size w w' := by
  by_cases g0 : 0 ≤ ad ∧ ad ≤ 4294967295
  · skip
    by_cases g1 : 0 ≤ bi ∧ bi ≤ 32
    · skip
      by_cases g2 : 1 ≤ lo ∧ lo ≤ 65535
      · skip
        by_cases g3 : lo ≤ hi ∧ hi ≤ 65535
        · skip
          have HY := Lib.hid (show (Rule.mk al ad bi lo hi).ck = if ad % sz bi = 0 then 0 else 1 from ck_yes (r := (Rule.mk al ad bi lo hi)) ⟨g0.1, g0.2, g1.1, g1.2, g2.1, g2.2, g3.1, g3.2⟩)
          go_enter Tryd.func42, Tryd.ntmps42
          go_wp2_with fail
          refine (in_any _ _ _ _).mono ?_
          rintro e wq ⟨rfl, rfl⟩
          rw [inB_yes g0]
          go_wp2_with fail
          refine (in_any _ _ _ _).mono ?_
          rintro e wq ⟨rfl, rfl⟩
          rw [inB_yes g1]
          go_wp2_with fail
          refine (in_any _ _ _ _).mono ?_
          rintro e wq ⟨rfl, rfl⟩
          rw [inB_yes g2]
          go_wp2_with fail
          refine (in_any _ _ _ _).mono ?_
          rintro e wq ⟨rfl, rfl⟩
          rw [inB_yes g3]
          obtain ⟨ga, gb⟩ := g0
          obtain ⟨gc, gd⟩ := g1
          have hand := and_mod (b := bi) ga gb
          have HR := Lib.hid (fun W d os => rest_at bi W d os ⟨gc, gd⟩)
          have hm0 := Int.emod_nonneg ad (show sz bi ≠ 0 by have := sz_pos bi; omega)
          generalize ad % sz bi = m at *
          go_wp2_with fail
          have ba : Blk ((w).alloc (.cells #[.bool al, .int .i64 ad, .int .i64 bi, .int .i64 lo, .int .i64 hi] 42)) (w.heap.size) 42 #[.bool al, .int .i64 ad, .int .i64 bi, .int .i64 lo, .int .i64 hi] := Blk.new _ _ _
          have HB1 := Lib.hid (show Below w.heap.size w ((w).alloc (.cells #[.bool al, .int .i64 ad, .int .i64 bi, .int .i64 lo, .int .i64 hi] 42)) from (Below.refl w.heap.size w).alloc (by first | exact Nat.le_refl _ | omega | (simp; done) | (simp; omega)) _)
          generalize (w).alloc (.cells #[.bool al, .int .i64 ad, .int .i64 bi, .int .i64 lo, .int .i64 hi] 42) = w1 at *
          have hz1 : w.heap.size ≤ w1.heap.size := HB1.out.size
          have r_ba0 := fun d os => cell_regrown (v := .bool al) (ba.cell 0) d os
          have r_ba1 := fun d os => cell_regrown (v := .int .i64 ad) (ba.cell 1) d os
          have r_ba2 := fun d os => cell_regrown (v := .int .i64 bi) (ba.cell 2) d os
          have r_ba3 := fun d os => cell_regrown (v := .int .i64 lo) (ba.cell 3) d os
          have r_ba4 := fun d os => cell_regrown (v := .int .i64 hi) (ba.cell 4) d os
          refine wp_region_quiet_below (by kernel_rfl) (by kernel_rfl) ?_
          repeat (go_big_quiet_step ((go_at_call 77; go_must (exact HR.out _ _ _))))
          refine wpQuiet_nil ?_
          intro _ hw'
          obtain ⟨⟨dq, osq⟩, hw''⟩ := hw'
          subst hw''
          have hb := below_regrown w1 dq osq
          have ba : Blk (Go.Sort.grow (redrawn w1 dq) osq) (w.heap.size) 42 #[.bool al, .int .i64 ad, .int .i64 bi, .int .i64 lo, .int .i64 hi] := ba.on hb
          have HB2 := Lib.hid ((HB1.out).trans (hb.mono (by first | exact Nat.le_refl _ | omega | (simp; done) | (simp; omega))))
          clear hb r_ba0 r_ba1 r_ba2 r_ba3 r_ba4
          generalize Go.Sort.grow (redrawn w1 dq) osq = w2 at *
          have hz2 : w.heap.size ≤ w2.heap.size := HB2.out.size
          by_cases hm : m = 0
          · have HD := Lib.hid (HY.out.trans (if_pos hm))
            have hmb : (m != 0) = false := by rw [hm]; rfl
            clear hm
            go_wp2_with fail
            go_ret
            exact ⟨ret_int HD.out.symm, HB2.out⟩
          · have HD := Lib.hid (HY.out.trans (if_neg hm))
            have hmb : (m != 0) = true := by rw [bne_iff_ne]; exact hm
            clear hm
            go_wp2_with fail
            go_ret
            exact ⟨ret_int HD.out.symm, HB2.out⟩
        · have HD := Lib.hid (ck_no (r := (Rule.mk al ad bi lo hi)) (fun h => g3 ⟨h.2.2.2.2.2.2.1, h.2.2.2.2.2.2.2⟩))
          go_enter Tryd.func42, Tryd.ntmps42
          go_wp2_with fail
          refine (in_any _ _ _ _).mono ?_
          rintro e wq ⟨rfl, rfl⟩
          rw [inB_yes g0]
          go_wp2_with fail
          refine (in_any _ _ _ _).mono ?_
          rintro e wq ⟨rfl, rfl⟩
          rw [inB_yes g1]
          go_wp2_with fail
          refine (in_any _ _ _ _).mono ?_
          rintro e wq ⟨rfl, rfl⟩
          rw [inB_yes g2]
          go_wp2_with fail
          refine (in_any _ _ _ _).mono ?_
          rintro e wq ⟨rfl, rfl⟩
          rw [inB_no g3]
          go_wp2_with fail
          go_ret
          exact ⟨ret_int HD.out.symm, (Below.refl w.heap.size w).alloc (by first | exact Nat.le_refl _ | omega | (simp; done) | (simp; omega)) _⟩
      · have HD := Lib.hid (ck_no (r := (Rule.mk al ad bi lo hi)) (fun h => g2 ⟨h.2.2.2.2.1, h.2.2.2.2.2.1⟩))
        go_enter Tryd.func42, Tryd.ntmps42
        go_wp2_with fail
        refine (in_any _ _ _ _).mono ?_
        rintro e wq ⟨rfl, rfl⟩
        rw [inB_yes g0]
        go_wp2_with fail
        refine (in_any _ _ _ _).mono ?_
        rintro e wq ⟨rfl, rfl⟩
        rw [inB_yes g1]
        go_wp2_with fail
        refine (in_any _ _ _ _).mono ?_
        rintro e wq ⟨rfl, rfl⟩
        rw [inB_no g2]
        go_wp2_with fail
        go_ret
        exact ⟨ret_int HD.out.symm, (Below.refl w.heap.size w).alloc (by first | exact Nat.le_refl _ | omega | (simp; done) | (simp; omega)) _⟩
    · have HD := Lib.hid (ck_no (r := (Rule.mk al ad bi lo hi)) (fun h => g1 ⟨h.2.2.1, h.2.2.2.1⟩))
      go_enter Tryd.func42, Tryd.ntmps42
      go_wp2_with fail
      refine (in_any _ _ _ _).mono ?_
      rintro e wq ⟨rfl, rfl⟩
      rw [inB_yes g0]
      go_wp2_with fail
      refine (in_any _ _ _ _).mono ?_
      rintro e wq ⟨rfl, rfl⟩
      rw [inB_no g1]
      go_wp2_with fail
      go_ret
      exact ⟨ret_int HD.out.symm, (Below.refl w.heap.size w).alloc (by first | exact Nat.le_refl _ | omega | (simp; done) | (simp; omega)) _⟩
  · have HD := Lib.hid (ck_no (r := (Rule.mk al ad bi lo hi)) (fun h => g0 ⟨h.1, h.2.1⟩))
    go_enter Tryd.func42, Tryd.ntmps42
    go_wp2_with fail
    refine (in_any _ _ _ _).mono ?_
    rintro e wq ⟨rfl, rfl⟩
    rw [inB_no g0]
    go_wp2_with fail
    go_ret
    exact ⟨ret_int HD.out.symm, (Below.refl w.heap.size w).alloc (by first | exact Nat.le_refl _ | omega | (simp; done) | (simp; omega)) _⟩
set_option maxHeartbeats 2000000 in
set_option maxRecDepth 100000 in
theorem rCheck_any (al : Bool) (ad bi lo hi : Int) (w : World) :
    Calls Tryd.prog 43 #[.agg #[.bool al, .int .i64 ad, .int .i64 bi, .int .i64 lo, .int .i64 hi]] w fun e w' => e = .returned (.int .i64 (Rule.mk al ad bi lo hi).ck) ∧ Below w.heap.size w w' := by
  by_cases g0 : 0 ≤ ad ∧ ad ≤ 4294967295
  · skip
    by_cases g1 : 0 ≤ bi ∧ bi ≤ 32
    · skip
      by_cases g2 : 1 ≤ lo ∧ lo ≤ 65535
      · skip
        by_cases g3 : 1 ≤ hi ∧ hi ≤ 65535
        · skip
          by_cases g4 : lo ≤ hi
          · skip
            have HY := Lib.hid (show (Rule.mk al ad bi lo hi).ck = if ad % sz bi = 0 then 0 else 1 from ck_yes (r := (Rule.mk al ad bi lo hi)) ⟨g0.1, g0.2, g1.1, g1.2, g2.1, g2.2, g4, g3.2⟩)
            obtain ⟨gc, gd⟩ := g1
            have d5 : decide (bi < 0) = false := decide_eq_false (by omega)
            have d6 : decide (32 < bi) = false := decide_eq_false (by omega)
            have d4 : decide (hi < lo) = false := decide_eq_false (by omega)
            go_enter Tryd.func43, Tryd.ntmps43
            go_wp2_with fail
            refine (address_any _ _).mono ?_
            rintro e wq ⟨rfl, rfl⟩
            rw [inB_yes g0]
            go_wp2_with fail
            refine (port_any _ _).mono ?_
            rintro e wq ⟨rfl, rfl⟩
            rw [inB_yes g2]
            go_wp2_with fail
            refine (port_any _ _).mono ?_
            rintro e wq ⟨rfl, rfl⟩
            rw [inB_yes g3]
            obtain ⟨ga, gb⟩ := g0
            have hs1 := sz_pos bi
            have hs2 : sz bi ≠ 0 := by omega
            have hrem : ad.tmod (sz bi) = ad % sz bi := Int.tmod_eq_emod_of_nonneg ga
            have HR := Lib.hid (fun W d os => rsize_at bi W d os ⟨gc, gd⟩)
            have hm0 := Int.emod_nonneg ad hs2
            generalize hzz : sz bi = z at *
            have HZZ := Lib.hid hzz
            clear hzz
            generalize ad % z = m at *
            go_wp2_with fail
            have ba : Blk ((w).alloc (.cells #[.bool al, .int .i64 ad, .int .i64 bi, .int .i64 lo, .int .i64 hi] 42)) (w.heap.size) 42 #[.bool al, .int .i64 ad, .int .i64 bi, .int .i64 lo, .int .i64 hi] := Blk.new _ _ _
            have HB1 := Lib.hid (show Below w.heap.size w ((w).alloc (.cells #[.bool al, .int .i64 ad, .int .i64 bi, .int .i64 lo, .int .i64 hi] 42)) from (Below.refl w.heap.size w).alloc (by first | exact Nat.le_refl _ | omega | (simp; done) | (simp; omega)) _)
            generalize (w).alloc (.cells #[.bool al, .int .i64 ad, .int .i64 bi, .int .i64 lo, .int .i64 hi] 42) = w1 at *
            have hz1 : w.heap.size ≤ w1.heap.size := HB1.out.size
            have r_ba0 := fun d os => cell_regrown (v := .bool al) (ba.cell 0) d os
            have r_ba1 := fun d os => cell_regrown (v := .int .i64 ad) (ba.cell 1) d os
            have r_ba2 := fun d os => cell_regrown (v := .int .i64 bi) (ba.cell 2) d os
            have r_ba3 := fun d os => cell_regrown (v := .int .i64 lo) (ba.cell 3) d os
            have r_ba4 := fun d os => cell_regrown (v := .int .i64 hi) (ba.cell 4) d os
            refine wp_region_quiet_below (by kernel_rfl) (by kernel_rfl) ?_
            repeat (go_big_quiet_step ((go_at_call 80; go_must (exact HR.out _ _ _))))
            refine wpQuiet_nil ?_
            intro _ hw'
            obtain ⟨⟨dq, osq⟩, hw''⟩ := hw'
            subst hw''
            have hb := below_regrown w1 dq osq
            have ba : Blk (Go.Sort.grow (redrawn w1 dq) osq) (w.heap.size) 42 #[.bool al, .int .i64 ad, .int .i64 bi, .int .i64 lo, .int .i64 hi] := ba.on hb
            have HB2 := Lib.hid ((HB1.out).trans (hb.mono (by first | exact Nat.le_refl _ | omega | (simp; done) | (simp; omega))))
            clear hb r_ba0 r_ba1 r_ba2 r_ba3 r_ba4
            generalize Go.Sort.grow (redrawn w1 dq) osq = w2 at *
            have hz2 : w.heap.size ≤ w2.heap.size := HB2.out.size
            by_cases hm : m = 0
            · have HD := Lib.hid (HY.out.trans (if_pos hm))
              have hmb : (m != 0) = false := by rw [hm]; rfl
              clear hm
              go_wp2_with fail
              go_ret
              exact ⟨ret_int HD.out.symm, HB2.out⟩
            · have HD := Lib.hid (HY.out.trans (if_neg hm))
              have hmb : (m != 0) = true := by rw [bne_iff_ne]; exact hm
              clear hm
              go_wp2_with fail
              go_ret
              exact ⟨ret_int HD.out.symm, HB2.out⟩
          · have HD := Lib.hid (ck_no (r := (Rule.mk al ad bi lo hi)) (by simp only; omega))
            obtain ⟨gc, gd⟩ := g1
            have d5 : decide (bi < 0) = false := decide_eq_false (by omega)
            have d6 : decide (32 < bi) = false := decide_eq_false (by omega)
            have d4 : decide (hi < lo) = true := decide_eq_true (by omega)
            go_enter Tryd.func43, Tryd.ntmps43
            go_wp2_with fail
            refine (address_any _ _).mono ?_
            rintro e wq ⟨rfl, rfl⟩
            rw [inB_yes g0]
            go_wp2_with fail
            refine (port_any _ _).mono ?_
            rintro e wq ⟨rfl, rfl⟩
            rw [inB_yes g2]
            go_wp2_with fail
            refine (port_any _ _).mono ?_
            rintro e wq ⟨rfl, rfl⟩
            rw [inB_yes g3]
            go_wp2_with fail
            all_goals try (exfalso; omega)
            go_ret
            exact ⟨ret_int HD.out.symm, (Below.refl w.heap.size w).alloc (by first | exact Nat.le_refl _ | omega | (simp; done) | (simp; omega)) _⟩
        · have HD := Lib.hid (ck_no (r := (Rule.mk al ad bi lo hi)) (by simp only; omega))
          obtain ⟨gc, gd⟩ := g1
          have d5 : decide (bi < 0) = false := decide_eq_false (by omega)
          have d6 : decide (32 < bi) = false := decide_eq_false (by omega)
          go_enter Tryd.func43, Tryd.ntmps43
          go_wp2_with fail
          refine (address_any _ _).mono ?_
          rintro e wq ⟨rfl, rfl⟩
          rw [inB_yes g0]
          go_wp2_with fail
          refine (port_any _ _).mono ?_
          rintro e wq ⟨rfl, rfl⟩
          rw [inB_yes g2]
          go_wp2_with fail
          refine (port_any _ _).mono ?_
          rintro e wq ⟨rfl, rfl⟩
          rw [inB_no g3]
          go_wp2_with fail
          all_goals try (exfalso; omega)
          go_ret
          exact ⟨ret_int HD.out.symm, (Below.refl w.heap.size w).alloc (by first | exact Nat.le_refl _ | omega | (simp; done) | (simp; omega)) _⟩
      · have HD := Lib.hid (ck_no (r := (Rule.mk al ad bi lo hi)) (by simp only; omega))
        obtain ⟨gc, gd⟩ := g1
        have d5 : decide (bi < 0) = false := decide_eq_false (by omega)
        have d6 : decide (32 < bi) = false := decide_eq_false (by omega)
        go_enter Tryd.func43, Tryd.ntmps43
        go_wp2_with fail
        refine (address_any _ _).mono ?_
        rintro e wq ⟨rfl, rfl⟩
        rw [inB_yes g0]
        go_wp2_with fail
        refine (port_any _ _).mono ?_
        rintro e wq ⟨rfl, rfl⟩
        rw [inB_no g2]
        go_wp2_with fail
        all_goals try (exfalso; omega)
        go_ret
        exact ⟨ret_int HD.out.symm, (Below.refl w.heap.size w).alloc (by first | exact Nat.le_refl _ | omega | (simp; done) | (simp; omega)) _⟩
    · have HD := Lib.hid (ck_no (r := (Rule.mk al ad bi lo hi)) (by simp only; omega))
      have hc : bi < 0 ∨ 32 < bi := by omega
      clear g1
      go_enter Tryd.func43, Tryd.ntmps43
      go_wp2_with fail
      refine (address_any _ _).mono ?_
      rintro e wq ⟨rfl, rfl⟩
      rw [inB_yes g0]
      rcases hc with hc | hc
      all_goals
        go_wp2_with fail
        all_goals try (exfalso; omega)
        go_ret
        exact ⟨ret_int HD.out.symm, (Below.refl w.heap.size w).alloc (by first | exact Nat.le_refl _ | omega | (simp; done) | (simp; omega)) _⟩
  · have HD := Lib.hid (ck_no (r := (Rule.mk al ad bi lo hi)) (by simp only; omega))
    go_enter Tryd.func43, Tryd.ntmps43
    go_wp2_with fail
    refine (address_any _ _).mono ?_
    rintro e wq ⟨rfl, rfl⟩
    rw [inB_no g0]
    go_wp2_with fail
    all_goals try (exfalso; omega)
    go_ret
    exact ⟨ret_int HD.out.symm, (Below.refl w.heap.size w).alloc (by first | exact Nat.le_refl _ | omega | (simp; done) | (simp; omega)) _⟩
theorem Check_at (al : Bool) (ad bi lo hi : Int) (W : World) (d : Nat) (os : Array Obj) :
    Calls Tryd.prog 42 #[.agg #[.bool al, .int .i64 ad, .int .i64 bi, .int .i64 lo, .int .i64 hi]] (grow (redrawn W d) os) fun e w' => e = .returned (.int .i64 (Rule.mk al ad bi lo hi).ck) ∧ ∃ p : Regrown, w' = grow (redrawn W p.d) p.os :=
  Calls.regrown_of (Check_any al ad bi lo hi _)
theorem rCheck_at (al : Bool) (ad bi lo hi : Int) (W : World) (d : Nat) (os : Array Obj) :
    Calls Tryd.prog 43 #[.agg #[.bool al, .int .i64 ad, .int .i64 bi, .int .i64 lo, .int .i64 hi]] (grow (redrawn W d) os) fun e w' => e = .returned (.int .i64 (Rule.mk al ad bi lo hi).ck) ∧ ∃ p : Regrown, w' = grow (redrawn W p.d) p.os :=
  Calls.regrown_of (rCheck_any al ad bi lo hi _)
end Go.Proofs.YtpkekfhnpcjgkaaDoor
