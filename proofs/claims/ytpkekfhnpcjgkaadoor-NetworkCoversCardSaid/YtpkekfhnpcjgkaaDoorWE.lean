/- The walk of NetworkCovers. -/
import Derived.Test.YtpkekfhnpcjgkaaDoorWD
namespace Go.Proofs.YtpkekfhnpcjgkaaDoor
open Go.RowKit
open Nw
open Go.Sort (grow)

def pw (x : Int) : Int := ((2 ^ x.toNat : Nat) : Int)
theorem pw_zero : pw 0 = 1 := rfl
theorem pw_step {x : Int} (h : 0 ≤ x) : pw (x + 1) = 2 * pw x := by
  unfold pw
  rw [show (x + 1).toNat = x.toNat + 1 by omega, Nat.pow_succ]
  omega
theorem pw_pos (x : Int) : 0 < pw x := by unfold pw; have := Nat.pow_pos (n := x.toNat) (show 0 < 2 by omega); omega
theorem pw_le {x : Int} (h : x ≤ 32) : pw x ≤ 4294967296 := by
  unfold pw
  have : 2 ^ x.toNat ≤ 2 ^ 32 := Nat.pow_le_pow_right (by omega) (by omega)
  have e : (2 : Nat) ^ 32 = 4294967296 := by decide
  omega
theorem pw_sz {b : Int} (h0 : 0 ≤ b) (h1 : b ≤ 32) : pw (32 - b) = sz b := by unfold pw sz; rw [show (32 - b).toNat = 32 - b.toNat by omega]
theorem pw_int (x : Int) : (2 : Int) ^ x.toNat = pw x := by unfold pw; simp
theorem mt_minus (a p : Int) : (Rule.mk false (-1) 0 0 0).mt a p = false := mt_bad (by decide)
theorem cv_badl {a b : Rule} (h : a.ck ≠ 0) : a.cv b = false := by
  cases e : a.cv b
  · rfl
  · rw [Rule.cv_iff] at e; rw [ck_bad h] at e; exact absurd e.1 (by simp)
theorem cv_badr {a b : Rule} (h : b.ck ≠ 0) : a.cv b = false := by
  cases e : a.cv b
  · rfl
  · rw [Rule.cv_iff] at e; rw [ck_bad h] at e; exact absurd e.2.1 (by simp)
set_option maxHeartbeats 8000000 in
set_option maxRecDepth 100000 in
theorem law_covers (al1 : Bool) (ad1 bi1 lo1 hi1 : Int) (al2 : Bool) (ad2 bi2 lo2 hi2 : Int) (a p : Int) (w : World) (hX : LaidS w) : Calls Tryd.prog 13 #[.agg #[.bool al1, .int .i64 ad1, .int .i64 bi1, .int .i64 lo1, .int .i64 hi1], .agg #[.bool al2, .int .i64 ad2, .int .i64 bi2, .int .i64 lo2, .int .i64 hi2], .int .i64 a, .int .i64 p] w fun e w' => e = .returned (.bool true) ∧ Below w.heap.size w w' := by
  have HX := Lib.hid hX
  clear hX
  by_cases ga : (Rule.mk al1 ad1 bi1 lo1 hi1).ck = 0
  · by_cases gb : (Rule.mk al2 ad2 bi2 lo2 hi2).ck = 0
    · have HA := Lib.hid ga
      have HB0 := Lib.hid gb
      have oka := ck_ok0 ga
      have okb := ck_ok0 gb
      have CS := Lib.hid (Rule.cv_self oka)
      have CE := Lib.hid (Rule.cv_ends oka okb)
      have CM := Lib.hid (fun h => @Rule.cv_mt (Rule.mk al1 ad1 bi1 lo1 hi1) (Rule.mk al2 ad2 bi2 lo2 hi2) h a p)
      obtain ⟨r1, r2, r3, r4, -, -, -, -⟩ := ck_rng gb
      simp only at r1 r2 r3 r4
      clear ga gb oka okb
      go_enter Tryd.func13, Tryd.ntmps13
      go_wp2_with fail
      refine (Check_any _ _ _ _ _ _).mono ?_
      rintro e w1 ⟨rfl, hb⟩
      have ba : Blk w1 (w.heap.size) 42 #[.bool al1, .int .i64 ad1, .int .i64 bi1, .int .i64 lo1, .int .i64 hi1] := ((Blk.new _ _ _).alloc _).on hb
      have bb : Blk w1 (w.heap.size + 1) 42 #[.bool al2, .int .i64 ad2, .int .i64 bi2, .int .i64 lo2, .int .i64 hi2] := (Blk.new1 _ _ _ _).on hb
      have hbz := hb.size
      have HB1 := Lib.hid ((((Below.refl w.heap.size w).alloc (by first | exact Nat.le_refl _ | omega | (simp; done) | (simp; omega)) _).alloc (by first | exact Nat.le_refl _ | omega | (simp; done) | (simp; omega)) _).trans (hb.mono (by first | exact Nat.le_refl _ | omega | (simp; done) | (simp; omega))))
      have hz1 : w.heap.size ≤ w1.heap.size := HB1.out.size
      clear hb hbz
      rw [HA.out]
      have q_ba0 : w1.cell? ⟨w.heap.size, 0, none⟩ = some (.bool al1) := ba.cell 0
      have q_ba1 : w1.cell? ⟨w.heap.size, 1, none⟩ = some (.int .i64 ad1) := ba.cell 1
      have q_ba2 : w1.cell? ⟨w.heap.size, 2, none⟩ = some (.int .i64 bi1) := ba.cell 2
      have q_ba3 : w1.cell? ⟨w.heap.size, 3, none⟩ = some (.int .i64 lo1) := ba.cell 3
      have q_ba4 : w1.cell? ⟨w.heap.size, 4, none⟩ = some (.int .i64 hi1) := ba.cell 4
      have q_bb0 : w1.cell? ⟨w.heap.size + 1, 0, none⟩ = some (.bool al2) := bb.cell 0
      have q_bb1 : w1.cell? ⟨w.heap.size + 1, 1, none⟩ = some (.int .i64 ad2) := bb.cell 1
      have q_bb2 : w1.cell? ⟨w.heap.size + 1, 2, none⟩ = some (.int .i64 bi2) := bb.cell 2
      have q_bb3 : w1.cell? ⟨w.heap.size + 1, 3, none⟩ = some (.int .i64 lo2) := bb.cell 3
      have q_bb4 : w1.cell? ⟨w.heap.size + 1, 4, none⟩ = some (.int .i64 hi2) := bb.cell 4
      go_wp2_with fail
      refine (Check_any _ _ _ _ _ _).mono ?_
      rintro e w2 ⟨rfl, hb⟩
      clear q_ba0 q_ba1 q_ba2 q_ba3 q_ba4 q_bb0 q_bb1 q_bb2 q_bb3 q_bb4
      have ba : Blk w2 (w.heap.size) 42 #[.bool al1, .int .i64 ad1, .int .i64 bi1, .int .i64 lo1, .int .i64 hi1] := (ba).on hb
      have bb : Blk w2 (w.heap.size + 1) 42 #[.bool al2, .int .i64 ad2, .int .i64 bi2, .int .i64 lo2, .int .i64 hi2] := (bb).on hb
      have hbz := hb.size
      have HB2 := Lib.hid ((HB1.out).trans (hb.mono (by first | exact Nat.le_refl _ | omega | (simp; done) | (simp; omega))))
      have hz2 : w.heap.size ≤ w2.heap.size := HB2.out.size
      clear hb hbz
      rw [HB0.out]
      have q_ba0 : w2.cell? ⟨w.heap.size, 0, none⟩ = some (.bool al1) := ba.cell 0
      have q_ba1 : w2.cell? ⟨w.heap.size, 1, none⟩ = some (.int .i64 ad1) := ba.cell 1
      have q_ba2 : w2.cell? ⟨w.heap.size, 2, none⟩ = some (.int .i64 bi1) := ba.cell 2
      have q_ba3 : w2.cell? ⟨w.heap.size, 3, none⟩ = some (.int .i64 lo1) := ba.cell 3
      have q_ba4 : w2.cell? ⟨w.heap.size, 4, none⟩ = some (.int .i64 hi1) := ba.cell 4
      have q_bb0 : w2.cell? ⟨w.heap.size + 1, 0, none⟩ = some (.bool al2) := bb.cell 0
      have q_bb1 : w2.cell? ⟨w.heap.size + 1, 1, none⟩ = some (.int .i64 ad2) := bb.cell 1
      have q_bb2 : w2.cell? ⟨w.heap.size + 1, 2, none⟩ = some (.int .i64 bi2) := bb.cell 2
      have q_bb3 : w2.cell? ⟨w.heap.size + 1, 3, none⟩ = some (.int .i64 lo2) := bb.cell 3
      have q_bb4 : w2.cell? ⟨w.heap.size + 1, 4, none⟩ = some (.int .i64 hi2) := bb.cell 4
      go_wp2_with fail
      refine (Covers_any _ _ _ _ _ _ _ _ _ _ _).mono ?_
      rintro e w3 ⟨rfl, hb⟩
      clear q_ba0 q_ba1 q_ba2 q_ba3 q_ba4 q_bb0 q_bb1 q_bb2 q_bb3 q_bb4
      have ba : Blk w3 (w.heap.size) 42 #[.bool al1, .int .i64 ad1, .int .i64 bi1, .int .i64 lo1, .int .i64 hi1] := (ba).on hb
      have bb : Blk w3 (w.heap.size + 1) 42 #[.bool al2, .int .i64 ad2, .int .i64 bi2, .int .i64 lo2, .int .i64 hi2] := (bb).on hb
      have hbz := hb.size
      have HB3 := Lib.hid ((HB2.out).trans (hb.mono (by first | exact Nat.le_refl _ | omega | (simp; done) | (simp; omega))))
      have hz3 : w.heap.size ≤ w3.heap.size := HB3.out.size
      clear hb hbz
      rw [CS.out]
      have q_ba0 : w3.cell? ⟨w.heap.size, 0, none⟩ = some (.bool al1) := ba.cell 0
      have q_ba1 : w3.cell? ⟨w.heap.size, 1, none⟩ = some (.int .i64 ad1) := ba.cell 1
      have q_ba2 : w3.cell? ⟨w.heap.size, 2, none⟩ = some (.int .i64 bi1) := ba.cell 2
      have q_ba3 : w3.cell? ⟨w.heap.size, 3, none⟩ = some (.int .i64 lo1) := ba.cell 3
      have q_ba4 : w3.cell? ⟨w.heap.size, 4, none⟩ = some (.int .i64 hi1) := ba.cell 4
      have q_bb0 : w3.cell? ⟨w.heap.size + 1, 0, none⟩ = some (.bool al2) := bb.cell 0
      have q_bb1 : w3.cell? ⟨w.heap.size + 1, 1, none⟩ = some (.int .i64 ad2) := bb.cell 1
      have q_bb2 : w3.cell? ⟨w.heap.size + 1, 2, none⟩ = some (.int .i64 bi2) := bb.cell 2
      have q_bb3 : w3.cell? ⟨w.heap.size + 1, 3, none⟩ = some (.int .i64 lo2) := bb.cell 3
      have q_bb4 : w3.cell? ⟨w.heap.size + 1, 4, none⟩ = some (.int .i64 hi2) := bb.cell 4
      go_wp2_with fail
      refine (Covers_any _ _ _ _ _ _ _ _ _ _ _).mono ?_
      rintro e w4 ⟨rfl, hb⟩
      clear q_ba0 q_ba1 q_ba2 q_ba3 q_ba4 q_bb0 q_bb1 q_bb2 q_bb3 q_bb4
      have ba : Blk w4 (w.heap.size) 42 #[.bool al1, .int .i64 ad1, .int .i64 bi1, .int .i64 lo1, .int .i64 hi1] := (ba).on hb
      have bb : Blk w4 (w.heap.size + 1) 42 #[.bool al2, .int .i64 ad2, .int .i64 bi2, .int .i64 lo2, .int .i64 hi2] := (bb).on hb
      have hbz := hb.size
      have HB4 := Lib.hid ((HB3.out).trans (hb.mono (by first | exact Nat.le_refl _ | omega | (simp; done) | (simp; omega))))
      have hz4 : w.heap.size ≤ w4.heap.size := HB4.out.size
      clear hb hbz
      have q_ba0 : w4.cell? ⟨w.heap.size, 0, none⟩ = some (.bool al1) := ba.cell 0
      have q_ba1 : w4.cell? ⟨w.heap.size, 1, none⟩ = some (.int .i64 ad1) := ba.cell 1
      have q_ba2 : w4.cell? ⟨w.heap.size, 2, none⟩ = some (.int .i64 bi1) := ba.cell 2
      have q_ba3 : w4.cell? ⟨w.heap.size, 3, none⟩ = some (.int .i64 lo1) := ba.cell 3
      have q_ba4 : w4.cell? ⟨w.heap.size, 4, none⟩ = some (.int .i64 hi1) := ba.cell 4
      have q_bb0 : w4.cell? ⟨w.heap.size + 1, 0, none⟩ = some (.bool al2) := bb.cell 0
      have q_bb1 : w4.cell? ⟨w.heap.size + 1, 1, none⟩ = some (.int .i64 ad2) := bb.cell 1
      have q_bb2 : w4.cell? ⟨w.heap.size + 1, 2, none⟩ = some (.int .i64 bi2) := bb.cell 2
      have q_bb3 : w4.cell? ⟨w.heap.size + 1, 3, none⟩ = some (.int .i64 lo2) := bb.cell 3
      have q_bb4 : w4.cell? ⟨w.heap.size + 1, 4, none⟩ = some (.int .i64 hi2) := bb.cell 4
      cases hcv : (Rule.mk al1 ad1 bi1 lo1 hi1).cv (Rule.mk al2 ad2 bi2 lo2 hi2)
      · have CV := Lib.hid hcv
        have CE := Lib.hid (CE.out hcv)
        clear hcv
        go_wp2_with fail
        refine (Covers_any _ _ _ _ _ _ _ _ _ _ _).mono ?_
        rintro e w5 ⟨rfl, hb⟩
        clear q_ba0 q_ba1 q_ba2 q_ba3 q_ba4 q_bb0 q_bb1 q_bb2 q_bb3 q_bb4
        have ba : Blk w5 (w.heap.size) 42 #[.bool al1, .int .i64 ad1, .int .i64 bi1, .int .i64 lo1, .int .i64 hi1] := (ba).on hb
        have bb : Blk w5 (w.heap.size + 1) 42 #[.bool al2, .int .i64 ad2, .int .i64 bi2, .int .i64 lo2, .int .i64 hi2] := (bb).on hb
        have hbz := hb.size
        have HB5 := Lib.hid ((HB4.out).trans (hb.mono (by first | exact Nat.le_refl _ | omega | (simp; done) | (simp; omega))))
        have hz5 : w.heap.size ≤ w5.heap.size := HB5.out.size
        clear hb hbz
        rw [CV.out]
        have q_ba0 : w5.cell? ⟨w.heap.size, 0, none⟩ = some (.bool al1) := ba.cell 0
        have q_ba1 : w5.cell? ⟨w.heap.size, 1, none⟩ = some (.int .i64 ad1) := ba.cell 1
        have q_ba2 : w5.cell? ⟨w.heap.size, 2, none⟩ = some (.int .i64 bi1) := ba.cell 2
        have q_ba3 : w5.cell? ⟨w.heap.size, 3, none⟩ = some (.int .i64 lo1) := ba.cell 3
        have q_ba4 : w5.cell? ⟨w.heap.size, 4, none⟩ = some (.int .i64 hi1) := ba.cell 4
        have q_bb0 : w5.cell? ⟨w.heap.size + 1, 0, none⟩ = some (.bool al2) := bb.cell 0
        have q_bb1 : w5.cell? ⟨w.heap.size + 1, 1, none⟩ = some (.int .i64 ad2) := bb.cell 1
        have q_bb2 : w5.cell? ⟨w.heap.size + 1, 2, none⟩ = some (.int .i64 bi2) := bb.cell 2
        have q_bb3 : w5.cell? ⟨w.heap.size + 1, 3, none⟩ = some (.int .i64 lo2) := bb.cell 3
        have q_bb4 : w5.cell? ⟨w.heap.size + 1, 4, none⟩ = some (.int .i64 hi2) := bb.cell 4
        go_wp2_with fail
        go_loopw [9, 10] (fun s i wr => ∃ x n : Int, s = .int .i64 x ∧ i = .int .i64 n ∧ bi2 - 1 ≤ n ∧ n ≤ 31 ∧ x = ad2 + pw (31 - n) - 1 ∧ Below w.heap.size w wr ∧ Blk wr w.heap.size 42 #[.bool al1, .int .i64 ad1, .int .i64 bi1, .int .i64 lo1, .int .i64 hi1] ∧ Blk wr (w.heap.size + 1) 42 #[.bool al2, .int .i64 ad2, .int .i64 bi2, .int .i64 lo2, .int .i64 hi2]) (fun _ i _ => (intOf i + 1).toNat)
        case atStart => exact ⟨ad2, 31, rfl, rfl, by omega, by omega, by rw [show (31 : Int) - 31 = 0 by omega, pw_zero]; omega, HB5.out, ba, bb⟩
        case round =>
          obtain ⟨x, n, rfl, rfl, hn1, hn2, hx, hbr, ba, bb⟩ := hrel
          have HR := Lib.hid hbr
          have hzr := hbr.size
          clear hbr
          by_cases hge : bi2 ≤ n
          · obtain ⟨z, hz⟩ : ∃ z, pw (31 - n) = z := ⟨_, rfl⟩
            have hpw : (2 : Int) ^ ((31 - n).toNat) = z := (pw_int _).trans hz
            have hz0 := pw_pos (31 - n)
            have hz1 := pw_le (x := 31 - n) (by omega)
            rw [hz] at hz0 hz1 hx
            have HS := Lib.hid (show pw (31 - (n - 1)) = 2 * z by rw [show 31 - (n - 1) = 31 - n + 1 by omega, pw_step (by omega), hz])
            have HZ := Lib.hid hz
            clear hz
            have q_ba0 : wr.cell? ⟨w.heap.size, 0, none⟩ = some (.bool al1) := ba.cell 0
            have q_ba1 : wr.cell? ⟨w.heap.size, 1, none⟩ = some (.int .i64 ad1) := ba.cell 1
            have q_ba2 : wr.cell? ⟨w.heap.size, 2, none⟩ = some (.int .i64 bi1) := ba.cell 2
            have q_ba3 : wr.cell? ⟨w.heap.size, 3, none⟩ = some (.int .i64 lo1) := ba.cell 3
            have q_ba4 : wr.cell? ⟨w.heap.size, 4, none⟩ = some (.int .i64 hi1) := ba.cell 4
            have q_bb0 : wr.cell? ⟨w.heap.size + 1, 0, none⟩ = some (.bool al2) := bb.cell 0
            have q_bb1 : wr.cell? ⟨w.heap.size + 1, 1, none⟩ = some (.int .i64 ad2) := bb.cell 1
            have q_bb2 : wr.cell? ⟨w.heap.size + 1, 2, none⟩ = some (.int .i64 bi2) := bb.cell 2
            have q_bb3 : wr.cell? ⟨w.heap.size + 1, 3, none⟩ = some (.int .i64 lo2) := bb.cell 3
            have q_bb4 : wr.cell? ⟨w.heap.size + 1, 4, none⟩ = some (.int .i64 hi2) := bb.cell 4
            go_wp2_with fail
            go_roundw
            case rel => exact ⟨x + z, n - 1, by go_num, by go_num, by omega, by omega, by rw [HS.out]; omega, HR.out, ba, bb⟩
            case measure => simp [intOf]; omega
          · obtain rfl : n = bi2 - 1 := by omega
            rw [show 31 - (bi2 - 1) = 32 - bi2 by omega, pw_sz r3 r4] at hx
            obtain ⟨e1, e2, e3⟩ := CE.out
            replace e1 : ((Rule.mk al1 ad1 bi1 lo1 hi1).mt ad2 lo2 && (Rule.mk al1 ad1 bi1 lo1 hi1).mt (ad2 + sz bi2 - 1) lo2 && (Rule.mk al1 ad1 bi1 lo1 hi1).mt ad2 hi2 && (Rule.mk al1 ad1 bi1 lo1 hi1).mt (ad2 + sz bi2 - 1) hi2) = false := e1
            replace e2 : (Rule.mk al2 ad2 bi2 lo2 hi2).mt ad2 lo2 = true := e2
            replace e3 : (Rule.mk al2 ad2 bi2 lo2 hi2).mt (ad2 + sz bi2 - 1) hi2 = true := e3
            rw [← hx] at e1 e3
            have E2 := Lib.hid e2
            have E3 := Lib.hid e3
            have E1 := Lib.hid e1
            clear e1 e2 e3 hx hge
            have q_ba0 : wr.cell? ⟨w.heap.size, 0, none⟩ = some (.bool al1) := ba.cell 0
            have q_ba1 : wr.cell? ⟨w.heap.size, 1, none⟩ = some (.int .i64 ad1) := ba.cell 1
            have q_ba2 : wr.cell? ⟨w.heap.size, 2, none⟩ = some (.int .i64 bi1) := ba.cell 2
            have q_ba3 : wr.cell? ⟨w.heap.size, 3, none⟩ = some (.int .i64 lo1) := ba.cell 3
            have q_ba4 : wr.cell? ⟨w.heap.size, 4, none⟩ = some (.int .i64 hi1) := ba.cell 4
            have q_bb0 : wr.cell? ⟨w.heap.size + 1, 0, none⟩ = some (.bool al2) := bb.cell 0
            have q_bb1 : wr.cell? ⟨w.heap.size + 1, 1, none⟩ = some (.int .i64 ad2) := bb.cell 1
            have q_bb2 : wr.cell? ⟨w.heap.size + 1, 2, none⟩ = some (.int .i64 bi2) := bb.cell 2
            have q_bb3 : wr.cell? ⟨w.heap.size + 1, 3, none⟩ = some (.int .i64 lo2) := bb.cell 3
            have q_bb4 : wr.cell? ⟨w.heap.size + 1, 4, none⟩ = some (.int .i64 hi2) := bb.cell 4
            go_wp2_with fail
            refine (Matches_any _ _ _ _ _ _ _ _).mono ?_
            rintro e w21 ⟨rfl, hb⟩
            clear q_ba0 q_ba1 q_ba2 q_ba3 q_ba4 q_bb0 q_bb1 q_bb2 q_bb3 q_bb4
            have ba : Blk w21 (w.heap.size) 42 #[.bool al1, .int .i64 ad1, .int .i64 bi1, .int .i64 lo1, .int .i64 hi1] := (ba).on hb
            have bb : Blk w21 (w.heap.size + 1) 42 #[.bool al2, .int .i64 ad2, .int .i64 bi2, .int .i64 lo2, .int .i64 hi2] := (bb).on hb
            have hbz := hb.size
            have HB21 := Lib.hid ((HR.out).trans (hb.mono (by first | exact Nat.le_refl _ | omega | (simp; done) | (simp; omega))))
            have hz21 : w.heap.size ≤ w21.heap.size := HB21.out.size
            clear hb hbz
            cases h1 : (Rule.mk al1 ad1 bi1 lo1 hi1).mt ad2 lo2
            · clear h1
              have q_ba0 : w21.cell? ⟨w.heap.size, 0, none⟩ = some (.bool al1) := ba.cell 0
              have q_ba1 : w21.cell? ⟨w.heap.size, 1, none⟩ = some (.int .i64 ad1) := ba.cell 1
              have q_ba2 : w21.cell? ⟨w.heap.size, 2, none⟩ = some (.int .i64 bi1) := ba.cell 2
              have q_ba3 : w21.cell? ⟨w.heap.size, 3, none⟩ = some (.int .i64 lo1) := ba.cell 3
              have q_ba4 : w21.cell? ⟨w.heap.size, 4, none⟩ = some (.int .i64 hi1) := ba.cell 4
              have q_bb0 : w21.cell? ⟨w.heap.size + 1, 0, none⟩ = some (.bool al2) := bb.cell 0
              have q_bb1 : w21.cell? ⟨w.heap.size + 1, 1, none⟩ = some (.int .i64 ad2) := bb.cell 1
              have q_bb2 : w21.cell? ⟨w.heap.size + 1, 2, none⟩ = some (.int .i64 bi2) := bb.cell 2
              have q_bb3 : w21.cell? ⟨w.heap.size + 1, 3, none⟩ = some (.int .i64 lo2) := bb.cell 3
              have q_bb4 : w21.cell? ⟨w.heap.size + 1, 4, none⟩ = some (.int .i64 hi2) := bb.cell 4
              go_wp2_with fail
              refine (Matches_any _ _ _ _ _ _ _ _).mono ?_
              rintro e w22 ⟨rfl, hb⟩
              clear q_ba0 q_ba1 q_ba2 q_ba3 q_ba4 q_bb0 q_bb1 q_bb2 q_bb3 q_bb4
              have ba : Blk w22 (w.heap.size) 42 #[.bool al1, .int .i64 ad1, .int .i64 bi1, .int .i64 lo1, .int .i64 hi1] := (ba).on hb
              have bb : Blk w22 (w.heap.size + 1) 42 #[.bool al2, .int .i64 ad2, .int .i64 bi2, .int .i64 lo2, .int .i64 hi2] := (bb).on hb
              have hbz := hb.size
              have HB22 := Lib.hid ((HB21.out).trans (hb.mono (by first | exact Nat.le_refl _ | omega | (simp; done) | (simp; omega))))
              have hz22 : w.heap.size ≤ w22.heap.size := HB22.out.size
              clear hb hbz
              rw [E2.out]
              have q_ba0 : w22.cell? ⟨w.heap.size, 0, none⟩ = some (.bool al1) := ba.cell 0
              have q_ba1 : w22.cell? ⟨w.heap.size, 1, none⟩ = some (.int .i64 ad1) := ba.cell 1
              have q_ba2 : w22.cell? ⟨w.heap.size, 2, none⟩ = some (.int .i64 bi1) := ba.cell 2
              have q_ba3 : w22.cell? ⟨w.heap.size, 3, none⟩ = some (.int .i64 lo1) := ba.cell 3
              have q_ba4 : w22.cell? ⟨w.heap.size, 4, none⟩ = some (.int .i64 hi1) := ba.cell 4
              have q_bb0 : w22.cell? ⟨w.heap.size + 1, 0, none⟩ = some (.bool al2) := bb.cell 0
              have q_bb1 : w22.cell? ⟨w.heap.size + 1, 1, none⟩ = some (.int .i64 ad2) := bb.cell 1
              have q_bb2 : w22.cell? ⟨w.heap.size + 1, 2, none⟩ = some (.int .i64 bi2) := bb.cell 2
              have q_bb3 : w22.cell? ⟨w.heap.size + 1, 3, none⟩ = some (.int .i64 lo2) := bb.cell 3
              have q_bb4 : w22.cell? ⟨w.heap.size + 1, 4, none⟩ = some (.int .i64 hi2) := bb.cell 4
              go_wp2_with fail
              refine (Matches_any _ _ _ _ _ _ _ _).mono ?_
              rintro e w23 ⟨rfl, hb⟩
              clear q_ba0 q_ba1 q_ba2 q_ba3 q_ba4 q_bb0 q_bb1 q_bb2 q_bb3 q_bb4
              have ba : Blk w23 (w.heap.size) 42 #[.bool al1, .int .i64 ad1, .int .i64 bi1, .int .i64 lo1, .int .i64 hi1] := (ba).on hb
              have bb : Blk w23 (w.heap.size + 1) 42 #[.bool al2, .int .i64 ad2, .int .i64 bi2, .int .i64 lo2, .int .i64 hi2] := (bb).on hb
              have hbz := hb.size
              have HB23 := Lib.hid ((HB22.out).trans (hb.mono (by first | exact Nat.le_refl _ | omega | (simp; done) | (simp; omega))))
              have hz23 : w.heap.size ≤ w23.heap.size := HB23.out.size
              clear hb hbz
              rw [E3.out]
              go_wp2_with fail
              refine (awake_any _ (HX.out.below (HB23.out))).mono ?_
              rintro e w24 ⟨rfl, hb⟩
              have ba : Blk w24 (w.heap.size) 42 #[.bool al1, .int .i64 ad1, .int .i64 bi1, .int .i64 lo1, .int .i64 hi1] := (ba).on hb
              have bb : Blk w24 (w.heap.size + 1) 42 #[.bool al2, .int .i64 ad2, .int .i64 bi2, .int .i64 lo2, .int .i64 hi2] := (bb).on hb
              have hbz := hb.size
              have HB24 := Lib.hid ((HB23.out).trans (hb.mono (by first | exact Nat.le_refl _ | omega | (simp; done) | (simp; omega))))
              have hz24 : w.heap.size ≤ w24.heap.size := HB24.out.size
              clear hb hbz
              go_wp2_with fail
              go_ret
              exact ⟨rfl, HB24.out⟩
            · have H1 := Lib.hid h1
              clear h1
              have q_ba0 : w21.cell? ⟨w.heap.size, 0, none⟩ = some (.bool al1) := ba.cell 0
              have q_ba1 : w21.cell? ⟨w.heap.size, 1, none⟩ = some (.int .i64 ad1) := ba.cell 1
              have q_ba2 : w21.cell? ⟨w.heap.size, 2, none⟩ = some (.int .i64 bi1) := ba.cell 2
              have q_ba3 : w21.cell? ⟨w.heap.size, 3, none⟩ = some (.int .i64 lo1) := ba.cell 3
              have q_ba4 : w21.cell? ⟨w.heap.size, 4, none⟩ = some (.int .i64 hi1) := ba.cell 4
              have q_bb0 : w21.cell? ⟨w.heap.size + 1, 0, none⟩ = some (.bool al2) := bb.cell 0
              have q_bb1 : w21.cell? ⟨w.heap.size + 1, 1, none⟩ = some (.int .i64 ad2) := bb.cell 1
              have q_bb2 : w21.cell? ⟨w.heap.size + 1, 2, none⟩ = some (.int .i64 bi2) := bb.cell 2
              have q_bb3 : w21.cell? ⟨w.heap.size + 1, 3, none⟩ = some (.int .i64 lo2) := bb.cell 3
              have q_bb4 : w21.cell? ⟨w.heap.size + 1, 4, none⟩ = some (.int .i64 hi2) := bb.cell 4
              go_wp2_with fail
              refine (Matches_any _ _ _ _ _ _ _ _).mono ?_
              rintro e w22 ⟨rfl, hb⟩
              clear q_ba0 q_ba1 q_ba2 q_ba3 q_ba4 q_bb0 q_bb1 q_bb2 q_bb3 q_bb4
              have ba : Blk w22 (w.heap.size) 42 #[.bool al1, .int .i64 ad1, .int .i64 bi1, .int .i64 lo1, .int .i64 hi1] := (ba).on hb
              have bb : Blk w22 (w.heap.size + 1) 42 #[.bool al2, .int .i64 ad2, .int .i64 bi2, .int .i64 lo2, .int .i64 hi2] := (bb).on hb
              have hbz := hb.size
              have HB22 := Lib.hid ((HB21.out).trans (hb.mono (by first | exact Nat.le_refl _ | omega | (simp; done) | (simp; omega))))
              have hz22 : w.heap.size ≤ w22.heap.size := HB22.out.size
              clear hb hbz
              cases h2 : (Rule.mk al1 ad1 bi1 lo1 hi1).mt x lo2
              · clear h2
                have q_ba0 : w22.cell? ⟨w.heap.size, 0, none⟩ = some (.bool al1) := ba.cell 0
                have q_ba1 : w22.cell? ⟨w.heap.size, 1, none⟩ = some (.int .i64 ad1) := ba.cell 1
                have q_ba2 : w22.cell? ⟨w.heap.size, 2, none⟩ = some (.int .i64 bi1) := ba.cell 2
                have q_ba3 : w22.cell? ⟨w.heap.size, 3, none⟩ = some (.int .i64 lo1) := ba.cell 3
                have q_ba4 : w22.cell? ⟨w.heap.size, 4, none⟩ = some (.int .i64 hi1) := ba.cell 4
                have q_bb0 : w22.cell? ⟨w.heap.size + 1, 0, none⟩ = some (.bool al2) := bb.cell 0
                have q_bb1 : w22.cell? ⟨w.heap.size + 1, 1, none⟩ = some (.int .i64 ad2) := bb.cell 1
                have q_bb2 : w22.cell? ⟨w.heap.size + 1, 2, none⟩ = some (.int .i64 bi2) := bb.cell 2
                have q_bb3 : w22.cell? ⟨w.heap.size + 1, 3, none⟩ = some (.int .i64 lo2) := bb.cell 3
                have q_bb4 : w22.cell? ⟨w.heap.size + 1, 4, none⟩ = some (.int .i64 hi2) := bb.cell 4
                go_wp2_with fail
                refine (Matches_any _ _ _ _ _ _ _ _).mono ?_
                rintro e w23 ⟨rfl, hb⟩
                clear q_ba0 q_ba1 q_ba2 q_ba3 q_ba4 q_bb0 q_bb1 q_bb2 q_bb3 q_bb4
                have ba : Blk w23 (w.heap.size) 42 #[.bool al1, .int .i64 ad1, .int .i64 bi1, .int .i64 lo1, .int .i64 hi1] := (ba).on hb
                have bb : Blk w23 (w.heap.size + 1) 42 #[.bool al2, .int .i64 ad2, .int .i64 bi2, .int .i64 lo2, .int .i64 hi2] := (bb).on hb
                have hbz := hb.size
                have HB23 := Lib.hid ((HB22.out).trans (hb.mono (by first | exact Nat.le_refl _ | omega | (simp; done) | (simp; omega))))
                have hz23 : w.heap.size ≤ w23.heap.size := HB23.out.size
                clear hb hbz
                rw [E2.out]
                have q_ba0 : w23.cell? ⟨w.heap.size, 0, none⟩ = some (.bool al1) := ba.cell 0
                have q_ba1 : w23.cell? ⟨w.heap.size, 1, none⟩ = some (.int .i64 ad1) := ba.cell 1
                have q_ba2 : w23.cell? ⟨w.heap.size, 2, none⟩ = some (.int .i64 bi1) := ba.cell 2
                have q_ba3 : w23.cell? ⟨w.heap.size, 3, none⟩ = some (.int .i64 lo1) := ba.cell 3
                have q_ba4 : w23.cell? ⟨w.heap.size, 4, none⟩ = some (.int .i64 hi1) := ba.cell 4
                have q_bb0 : w23.cell? ⟨w.heap.size + 1, 0, none⟩ = some (.bool al2) := bb.cell 0
                have q_bb1 : w23.cell? ⟨w.heap.size + 1, 1, none⟩ = some (.int .i64 ad2) := bb.cell 1
                have q_bb2 : w23.cell? ⟨w.heap.size + 1, 2, none⟩ = some (.int .i64 bi2) := bb.cell 2
                have q_bb3 : w23.cell? ⟨w.heap.size + 1, 3, none⟩ = some (.int .i64 lo2) := bb.cell 3
                have q_bb4 : w23.cell? ⟨w.heap.size + 1, 4, none⟩ = some (.int .i64 hi2) := bb.cell 4
                go_wp2_with fail
                refine (Matches_any _ _ _ _ _ _ _ _).mono ?_
                rintro e w24 ⟨rfl, hb⟩
                clear q_ba0 q_ba1 q_ba2 q_ba3 q_ba4 q_bb0 q_bb1 q_bb2 q_bb3 q_bb4
                have ba : Blk w24 (w.heap.size) 42 #[.bool al1, .int .i64 ad1, .int .i64 bi1, .int .i64 lo1, .int .i64 hi1] := (ba).on hb
                have bb : Blk w24 (w.heap.size + 1) 42 #[.bool al2, .int .i64 ad2, .int .i64 bi2, .int .i64 lo2, .int .i64 hi2] := (bb).on hb
                have hbz := hb.size
                have HB24 := Lib.hid ((HB23.out).trans (hb.mono (by first | exact Nat.le_refl _ | omega | (simp; done) | (simp; omega))))
                have hz24 : w.heap.size ≤ w24.heap.size := HB24.out.size
                clear hb hbz
                rw [E3.out]
                go_wp2_with fail
                refine (awake_any _ (HX.out.below (HB24.out))).mono ?_
                rintro e w25 ⟨rfl, hb⟩
                have ba : Blk w25 (w.heap.size) 42 #[.bool al1, .int .i64 ad1, .int .i64 bi1, .int .i64 lo1, .int .i64 hi1] := (ba).on hb
                have bb : Blk w25 (w.heap.size + 1) 42 #[.bool al2, .int .i64 ad2, .int .i64 bi2, .int .i64 lo2, .int .i64 hi2] := (bb).on hb
                have hbz := hb.size
                have HB25 := Lib.hid ((HB24.out).trans (hb.mono (by first | exact Nat.le_refl _ | omega | (simp; done) | (simp; omega))))
                have hz25 : w.heap.size ≤ w25.heap.size := HB25.out.size
                clear hb hbz
                go_wp2_with fail
                go_ret
                exact ⟨rfl, HB25.out⟩
              · have H2 := Lib.hid h2
                clear h2
                have q_ba0 : w22.cell? ⟨w.heap.size, 0, none⟩ = some (.bool al1) := ba.cell 0
                have q_ba1 : w22.cell? ⟨w.heap.size, 1, none⟩ = some (.int .i64 ad1) := ba.cell 1
                have q_ba2 : w22.cell? ⟨w.heap.size, 2, none⟩ = some (.int .i64 bi1) := ba.cell 2
                have q_ba3 : w22.cell? ⟨w.heap.size, 3, none⟩ = some (.int .i64 lo1) := ba.cell 3
                have q_ba4 : w22.cell? ⟨w.heap.size, 4, none⟩ = some (.int .i64 hi1) := ba.cell 4
                have q_bb0 : w22.cell? ⟨w.heap.size + 1, 0, none⟩ = some (.bool al2) := bb.cell 0
                have q_bb1 : w22.cell? ⟨w.heap.size + 1, 1, none⟩ = some (.int .i64 ad2) := bb.cell 1
                have q_bb2 : w22.cell? ⟨w.heap.size + 1, 2, none⟩ = some (.int .i64 bi2) := bb.cell 2
                have q_bb3 : w22.cell? ⟨w.heap.size + 1, 3, none⟩ = some (.int .i64 lo2) := bb.cell 3
                have q_bb4 : w22.cell? ⟨w.heap.size + 1, 4, none⟩ = some (.int .i64 hi2) := bb.cell 4
                go_wp2_with fail
                refine (Matches_any _ _ _ _ _ _ _ _).mono ?_
                rintro e w23 ⟨rfl, hb⟩
                clear q_ba0 q_ba1 q_ba2 q_ba3 q_ba4 q_bb0 q_bb1 q_bb2 q_bb3 q_bb4
                have ba : Blk w23 (w.heap.size) 42 #[.bool al1, .int .i64 ad1, .int .i64 bi1, .int .i64 lo1, .int .i64 hi1] := (ba).on hb
                have bb : Blk w23 (w.heap.size + 1) 42 #[.bool al2, .int .i64 ad2, .int .i64 bi2, .int .i64 lo2, .int .i64 hi2] := (bb).on hb
                have hbz := hb.size
                have HB23 := Lib.hid ((HB22.out).trans (hb.mono (by first | exact Nat.le_refl _ | omega | (simp; done) | (simp; omega))))
                have hz23 : w.heap.size ≤ w23.heap.size := HB23.out.size
                clear hb hbz
                cases h3 : (Rule.mk al1 ad1 bi1 lo1 hi1).mt ad2 hi2
                · clear h3
                  have q_ba0 : w23.cell? ⟨w.heap.size, 0, none⟩ = some (.bool al1) := ba.cell 0
                  have q_ba1 : w23.cell? ⟨w.heap.size, 1, none⟩ = some (.int .i64 ad1) := ba.cell 1
                  have q_ba2 : w23.cell? ⟨w.heap.size, 2, none⟩ = some (.int .i64 bi1) := ba.cell 2
                  have q_ba3 : w23.cell? ⟨w.heap.size, 3, none⟩ = some (.int .i64 lo1) := ba.cell 3
                  have q_ba4 : w23.cell? ⟨w.heap.size, 4, none⟩ = some (.int .i64 hi1) := ba.cell 4
                  have q_bb0 : w23.cell? ⟨w.heap.size + 1, 0, none⟩ = some (.bool al2) := bb.cell 0
                  have q_bb1 : w23.cell? ⟨w.heap.size + 1, 1, none⟩ = some (.int .i64 ad2) := bb.cell 1
                  have q_bb2 : w23.cell? ⟨w.heap.size + 1, 2, none⟩ = some (.int .i64 bi2) := bb.cell 2
                  have q_bb3 : w23.cell? ⟨w.heap.size + 1, 3, none⟩ = some (.int .i64 lo2) := bb.cell 3
                  have q_bb4 : w23.cell? ⟨w.heap.size + 1, 4, none⟩ = some (.int .i64 hi2) := bb.cell 4
                  go_wp2_with fail
                  refine (Matches_any _ _ _ _ _ _ _ _).mono ?_
                  rintro e w24 ⟨rfl, hb⟩
                  clear q_ba0 q_ba1 q_ba2 q_ba3 q_ba4 q_bb0 q_bb1 q_bb2 q_bb3 q_bb4
                  have ba : Blk w24 (w.heap.size) 42 #[.bool al1, .int .i64 ad1, .int .i64 bi1, .int .i64 lo1, .int .i64 hi1] := (ba).on hb
                  have bb : Blk w24 (w.heap.size + 1) 42 #[.bool al2, .int .i64 ad2, .int .i64 bi2, .int .i64 lo2, .int .i64 hi2] := (bb).on hb
                  have hbz := hb.size
                  have HB24 := Lib.hid ((HB23.out).trans (hb.mono (by first | exact Nat.le_refl _ | omega | (simp; done) | (simp; omega))))
                  have hz24 : w.heap.size ≤ w24.heap.size := HB24.out.size
                  clear hb hbz
                  rw [E2.out]
                  have q_ba0 : w24.cell? ⟨w.heap.size, 0, none⟩ = some (.bool al1) := ba.cell 0
                  have q_ba1 : w24.cell? ⟨w.heap.size, 1, none⟩ = some (.int .i64 ad1) := ba.cell 1
                  have q_ba2 : w24.cell? ⟨w.heap.size, 2, none⟩ = some (.int .i64 bi1) := ba.cell 2
                  have q_ba3 : w24.cell? ⟨w.heap.size, 3, none⟩ = some (.int .i64 lo1) := ba.cell 3
                  have q_ba4 : w24.cell? ⟨w.heap.size, 4, none⟩ = some (.int .i64 hi1) := ba.cell 4
                  have q_bb0 : w24.cell? ⟨w.heap.size + 1, 0, none⟩ = some (.bool al2) := bb.cell 0
                  have q_bb1 : w24.cell? ⟨w.heap.size + 1, 1, none⟩ = some (.int .i64 ad2) := bb.cell 1
                  have q_bb2 : w24.cell? ⟨w.heap.size + 1, 2, none⟩ = some (.int .i64 bi2) := bb.cell 2
                  have q_bb3 : w24.cell? ⟨w.heap.size + 1, 3, none⟩ = some (.int .i64 lo2) := bb.cell 3
                  have q_bb4 : w24.cell? ⟨w.heap.size + 1, 4, none⟩ = some (.int .i64 hi2) := bb.cell 4
                  go_wp2_with fail
                  refine (Matches_any _ _ _ _ _ _ _ _).mono ?_
                  rintro e w25 ⟨rfl, hb⟩
                  clear q_ba0 q_ba1 q_ba2 q_ba3 q_ba4 q_bb0 q_bb1 q_bb2 q_bb3 q_bb4
                  have ba : Blk w25 (w.heap.size) 42 #[.bool al1, .int .i64 ad1, .int .i64 bi1, .int .i64 lo1, .int .i64 hi1] := (ba).on hb
                  have bb : Blk w25 (w.heap.size + 1) 42 #[.bool al2, .int .i64 ad2, .int .i64 bi2, .int .i64 lo2, .int .i64 hi2] := (bb).on hb
                  have hbz := hb.size
                  have HB25 := Lib.hid ((HB24.out).trans (hb.mono (by first | exact Nat.le_refl _ | omega | (simp; done) | (simp; omega))))
                  have hz25 : w.heap.size ≤ w25.heap.size := HB25.out.size
                  clear hb hbz
                  rw [E3.out]
                  go_wp2_with fail
                  refine (awake_any _ (HX.out.below (HB25.out))).mono ?_
                  rintro e w26 ⟨rfl, hb⟩
                  have ba : Blk w26 (w.heap.size) 42 #[.bool al1, .int .i64 ad1, .int .i64 bi1, .int .i64 lo1, .int .i64 hi1] := (ba).on hb
                  have bb : Blk w26 (w.heap.size + 1) 42 #[.bool al2, .int .i64 ad2, .int .i64 bi2, .int .i64 lo2, .int .i64 hi2] := (bb).on hb
                  have hbz := hb.size
                  have HB26 := Lib.hid ((HB25.out).trans (hb.mono (by first | exact Nat.le_refl _ | omega | (simp; done) | (simp; omega))))
                  have hz26 : w.heap.size ≤ w26.heap.size := HB26.out.size
                  clear hb hbz
                  go_wp2_with fail
                  go_ret
                  exact ⟨rfl, HB26.out⟩
                · have H3 := Lib.hid h3
                  clear h3
                  have q_ba0 : w23.cell? ⟨w.heap.size, 0, none⟩ = some (.bool al1) := ba.cell 0
                  have q_ba1 : w23.cell? ⟨w.heap.size, 1, none⟩ = some (.int .i64 ad1) := ba.cell 1
                  have q_ba2 : w23.cell? ⟨w.heap.size, 2, none⟩ = some (.int .i64 bi1) := ba.cell 2
                  have q_ba3 : w23.cell? ⟨w.heap.size, 3, none⟩ = some (.int .i64 lo1) := ba.cell 3
                  have q_ba4 : w23.cell? ⟨w.heap.size, 4, none⟩ = some (.int .i64 hi1) := ba.cell 4
                  have q_bb0 : w23.cell? ⟨w.heap.size + 1, 0, none⟩ = some (.bool al2) := bb.cell 0
                  have q_bb1 : w23.cell? ⟨w.heap.size + 1, 1, none⟩ = some (.int .i64 ad2) := bb.cell 1
                  have q_bb2 : w23.cell? ⟨w.heap.size + 1, 2, none⟩ = some (.int .i64 bi2) := bb.cell 2
                  have q_bb3 : w23.cell? ⟨w.heap.size + 1, 3, none⟩ = some (.int .i64 lo2) := bb.cell 3
                  have q_bb4 : w23.cell? ⟨w.heap.size + 1, 4, none⟩ = some (.int .i64 hi2) := bb.cell 4
                  have h4 : (Rule.mk al1 ad1 bi1 lo1 hi1).mt x hi2 = false := by have e := E1.out; rw [H1.out, H2.out, H3.out] at e; simpa using e
                  have H4 := Lib.hid h4
                  clear h4
                  go_wp2_with fail
                  refine (Matches_any _ _ _ _ _ _ _ _).mono ?_
                  rintro e w24 ⟨rfl, hb⟩
                  clear q_ba0 q_ba1 q_ba2 q_ba3 q_ba4 q_bb0 q_bb1 q_bb2 q_bb3 q_bb4
                  have ba : Blk w24 (w.heap.size) 42 #[.bool al1, .int .i64 ad1, .int .i64 bi1, .int .i64 lo1, .int .i64 hi1] := (ba).on hb
                  have bb : Blk w24 (w.heap.size + 1) 42 #[.bool al2, .int .i64 ad2, .int .i64 bi2, .int .i64 lo2, .int .i64 hi2] := (bb).on hb
                  have hbz := hb.size
                  have HB24 := Lib.hid ((HB23.out).trans (hb.mono (by first | exact Nat.le_refl _ | omega | (simp; done) | (simp; omega))))
                  have hz24 : w.heap.size ≤ w24.heap.size := HB24.out.size
                  clear hb hbz
                  rw [H4.out]
                  have q_ba0 : w24.cell? ⟨w.heap.size, 0, none⟩ = some (.bool al1) := ba.cell 0
                  have q_ba1 : w24.cell? ⟨w.heap.size, 1, none⟩ = some (.int .i64 ad1) := ba.cell 1
                  have q_ba2 : w24.cell? ⟨w.heap.size, 2, none⟩ = some (.int .i64 bi1) := ba.cell 2
                  have q_ba3 : w24.cell? ⟨w.heap.size, 3, none⟩ = some (.int .i64 lo1) := ba.cell 3
                  have q_ba4 : w24.cell? ⟨w.heap.size, 4, none⟩ = some (.int .i64 hi1) := ba.cell 4
                  have q_bb0 : w24.cell? ⟨w.heap.size + 1, 0, none⟩ = some (.bool al2) := bb.cell 0
                  have q_bb1 : w24.cell? ⟨w.heap.size + 1, 1, none⟩ = some (.int .i64 ad2) := bb.cell 1
                  have q_bb2 : w24.cell? ⟨w.heap.size + 1, 2, none⟩ = some (.int .i64 bi2) := bb.cell 2
                  have q_bb3 : w24.cell? ⟨w.heap.size + 1, 3, none⟩ = some (.int .i64 lo2) := bb.cell 3
                  have q_bb4 : w24.cell? ⟨w.heap.size + 1, 4, none⟩ = some (.int .i64 hi2) := bb.cell 4
                  go_wp2_with fail
                  refine (Matches_any _ _ _ _ _ _ _ _).mono ?_
                  rintro e w25 ⟨rfl, hb⟩
                  clear q_ba0 q_ba1 q_ba2 q_ba3 q_ba4 q_bb0 q_bb1 q_bb2 q_bb3 q_bb4
                  have ba : Blk w25 (w.heap.size) 42 #[.bool al1, .int .i64 ad1, .int .i64 bi1, .int .i64 lo1, .int .i64 hi1] := (ba).on hb
                  have bb : Blk w25 (w.heap.size + 1) 42 #[.bool al2, .int .i64 ad2, .int .i64 bi2, .int .i64 lo2, .int .i64 hi2] := (bb).on hb
                  have hbz := hb.size
                  have HB25 := Lib.hid ((HB24.out).trans (hb.mono (by first | exact Nat.le_refl _ | omega | (simp; done) | (simp; omega))))
                  have hz25 : w.heap.size ≤ w25.heap.size := HB25.out.size
                  clear hb hbz
                  rw [E2.out]
                  have q_ba0 : w25.cell? ⟨w.heap.size, 0, none⟩ = some (.bool al1) := ba.cell 0
                  have q_ba1 : w25.cell? ⟨w.heap.size, 1, none⟩ = some (.int .i64 ad1) := ba.cell 1
                  have q_ba2 : w25.cell? ⟨w.heap.size, 2, none⟩ = some (.int .i64 bi1) := ba.cell 2
                  have q_ba3 : w25.cell? ⟨w.heap.size, 3, none⟩ = some (.int .i64 lo1) := ba.cell 3
                  have q_ba4 : w25.cell? ⟨w.heap.size, 4, none⟩ = some (.int .i64 hi1) := ba.cell 4
                  have q_bb0 : w25.cell? ⟨w.heap.size + 1, 0, none⟩ = some (.bool al2) := bb.cell 0
                  have q_bb1 : w25.cell? ⟨w.heap.size + 1, 1, none⟩ = some (.int .i64 ad2) := bb.cell 1
                  have q_bb2 : w25.cell? ⟨w.heap.size + 1, 2, none⟩ = some (.int .i64 bi2) := bb.cell 2
                  have q_bb3 : w25.cell? ⟨w.heap.size + 1, 3, none⟩ = some (.int .i64 lo2) := bb.cell 3
                  have q_bb4 : w25.cell? ⟨w.heap.size + 1, 4, none⟩ = some (.int .i64 hi2) := bb.cell 4
                  go_wp2_with fail
                  refine (Matches_any _ _ _ _ _ _ _ _).mono ?_
                  rintro e w26 ⟨rfl, hb⟩
                  clear q_ba0 q_ba1 q_ba2 q_ba3 q_ba4 q_bb0 q_bb1 q_bb2 q_bb3 q_bb4
                  have ba : Blk w26 (w.heap.size) 42 #[.bool al1, .int .i64 ad1, .int .i64 bi1, .int .i64 lo1, .int .i64 hi1] := (ba).on hb
                  have bb : Blk w26 (w.heap.size + 1) 42 #[.bool al2, .int .i64 ad2, .int .i64 bi2, .int .i64 lo2, .int .i64 hi2] := (bb).on hb
                  have hbz := hb.size
                  have HB26 := Lib.hid ((HB25.out).trans (hb.mono (by first | exact Nat.le_refl _ | omega | (simp; done) | (simp; omega))))
                  have hz26 : w.heap.size ≤ w26.heap.size := HB26.out.size
                  clear hb hbz
                  rw [E3.out]
                  go_wp2_with fail
                  refine (awake_any _ (HX.out.below (HB26.out))).mono ?_
                  rintro e w27 ⟨rfl, hb⟩
                  have ba : Blk w27 (w.heap.size) 42 #[.bool al1, .int .i64 ad1, .int .i64 bi1, .int .i64 lo1, .int .i64 hi1] := (ba).on hb
                  have bb : Blk w27 (w.heap.size + 1) 42 #[.bool al2, .int .i64 ad2, .int .i64 bi2, .int .i64 lo2, .int .i64 hi2] := (bb).on hb
                  have hbz := hb.size
                  have HB27 := Lib.hid ((HB26.out).trans (hb.mono (by first | exact Nat.le_refl _ | omega | (simp; done) | (simp; omega))))
                  have hz27 : w.heap.size ≤ w27.heap.size := HB27.out.size
                  clear hb hbz
                  go_wp2_with fail
                  go_ret
                  exact ⟨rfl, HB27.out⟩
      · have CV := Lib.hid hcv
        have CM := Lib.hid (CM.out hcv)
        clear hcv
        go_wp2_with fail
        refine (Matches_any _ _ _ _ _ _ _ _).mono ?_
        rintro e w5 ⟨rfl, hb⟩
        clear q_ba0 q_ba1 q_ba2 q_ba3 q_ba4 q_bb0 q_bb1 q_bb2 q_bb3 q_bb4
        have ba : Blk w5 (w.heap.size) 42 #[.bool al1, .int .i64 ad1, .int .i64 bi1, .int .i64 lo1, .int .i64 hi1] := (ba).on hb
        have bb : Blk w5 (w.heap.size + 1) 42 #[.bool al2, .int .i64 ad2, .int .i64 bi2, .int .i64 lo2, .int .i64 hi2] := (bb).on hb
        have hbz := hb.size
        have HB5 := Lib.hid ((HB4.out).trans (hb.mono (by first | exact Nat.le_refl _ | omega | (simp; done) | (simp; omega))))
        have hz5 : w.heap.size ≤ w5.heap.size := HB5.out.size
        clear hb hbz
        have q_ba0 : w5.cell? ⟨w.heap.size, 0, none⟩ = some (.bool al1) := ba.cell 0
        have q_ba1 : w5.cell? ⟨w.heap.size, 1, none⟩ = some (.int .i64 ad1) := ba.cell 1
        have q_ba2 : w5.cell? ⟨w.heap.size, 2, none⟩ = some (.int .i64 bi1) := ba.cell 2
        have q_ba3 : w5.cell? ⟨w.heap.size, 3, none⟩ = some (.int .i64 lo1) := ba.cell 3
        have q_ba4 : w5.cell? ⟨w.heap.size, 4, none⟩ = some (.int .i64 hi1) := ba.cell 4
        have q_bb0 : w5.cell? ⟨w.heap.size + 1, 0, none⟩ = some (.bool al2) := bb.cell 0
        have q_bb1 : w5.cell? ⟨w.heap.size + 1, 1, none⟩ = some (.int .i64 ad2) := bb.cell 1
        have q_bb2 : w5.cell? ⟨w.heap.size + 1, 2, none⟩ = some (.int .i64 bi2) := bb.cell 2
        have q_bb3 : w5.cell? ⟨w.heap.size + 1, 3, none⟩ = some (.int .i64 lo2) := bb.cell 3
        have q_bb4 : w5.cell? ⟨w.heap.size + 1, 4, none⟩ = some (.int .i64 hi2) := bb.cell 4
        cases hmt : (Rule.mk al2 ad2 bi2 lo2 hi2).mt a p
        · clear hmt
          go_wp2_with fail
          refine (Covers_any _ _ _ _ _ _ _ _ _ _ _).mono ?_
          rintro e w6 ⟨rfl, hb⟩
          clear q_ba0 q_ba1 q_ba2 q_ba3 q_ba4 q_bb0 q_bb1 q_bb2 q_bb3 q_bb4
          have ba : Blk w6 (w.heap.size) 42 #[.bool al1, .int .i64 ad1, .int .i64 bi1, .int .i64 lo1, .int .i64 hi1] := (ba).on hb
          have bb : Blk w6 (w.heap.size + 1) 42 #[.bool al2, .int .i64 ad2, .int .i64 bi2, .int .i64 lo2, .int .i64 hi2] := (bb).on hb
          have hbz := hb.size
          have HB6 := Lib.hid ((HB5.out).trans (hb.mono (by first | exact Nat.le_refl _ | omega | (simp; done) | (simp; omega))))
          have hz6 : w.heap.size ≤ w6.heap.size := HB6.out.size
          clear hb hbz
          rw [CV.out]
          go_wp2_with fail
          refine (awake_any _ (HX.out.below (HB6.out))).mono ?_
          rintro e w7 ⟨rfl, hb⟩
          have ba : Blk w7 (w.heap.size) 42 #[.bool al1, .int .i64 ad1, .int .i64 bi1, .int .i64 lo1, .int .i64 hi1] := (ba).on hb
          have bb : Blk w7 (w.heap.size + 1) 42 #[.bool al2, .int .i64 ad2, .int .i64 bi2, .int .i64 lo2, .int .i64 hi2] := (bb).on hb
          have hbz := hb.size
          have HB7 := Lib.hid ((HB6.out).trans (hb.mono (by first | exact Nat.le_refl _ | omega | (simp; done) | (simp; omega))))
          have hz7 : w.heap.size ≤ w7.heap.size := HB7.out.size
          clear hb hbz
          go_wp2_with fail
          go_ret
          exact ⟨rfl, HB7.out⟩
        · have CM := Lib.hid (CM.out hmt)
          clear hmt
          go_wp2_with fail
          refine (Matches_any _ _ _ _ _ _ _ _).mono ?_
          rintro e w6 ⟨rfl, hb⟩
          clear q_ba0 q_ba1 q_ba2 q_ba3 q_ba4 q_bb0 q_bb1 q_bb2 q_bb3 q_bb4
          have ba : Blk w6 (w.heap.size) 42 #[.bool al1, .int .i64 ad1, .int .i64 bi1, .int .i64 lo1, .int .i64 hi1] := (ba).on hb
          have bb : Blk w6 (w.heap.size + 1) 42 #[.bool al2, .int .i64 ad2, .int .i64 bi2, .int .i64 lo2, .int .i64 hi2] := (bb).on hb
          have hbz := hb.size
          have HB6 := Lib.hid ((HB5.out).trans (hb.mono (by first | exact Nat.le_refl _ | omega | (simp; done) | (simp; omega))))
          have hz6 : w.heap.size ≤ w6.heap.size := HB6.out.size
          clear hb hbz
          rw [CM.out]
          have q_ba0 : w6.cell? ⟨w.heap.size, 0, none⟩ = some (.bool al1) := ba.cell 0
          have q_ba1 : w6.cell? ⟨w.heap.size, 1, none⟩ = some (.int .i64 ad1) := ba.cell 1
          have q_ba2 : w6.cell? ⟨w.heap.size, 2, none⟩ = some (.int .i64 bi1) := ba.cell 2
          have q_ba3 : w6.cell? ⟨w.heap.size, 3, none⟩ = some (.int .i64 lo1) := ba.cell 3
          have q_ba4 : w6.cell? ⟨w.heap.size, 4, none⟩ = some (.int .i64 hi1) := ba.cell 4
          have q_bb0 : w6.cell? ⟨w.heap.size + 1, 0, none⟩ = some (.bool al2) := bb.cell 0
          have q_bb1 : w6.cell? ⟨w.heap.size + 1, 1, none⟩ = some (.int .i64 ad2) := bb.cell 1
          have q_bb2 : w6.cell? ⟨w.heap.size + 1, 2, none⟩ = some (.int .i64 bi2) := bb.cell 2
          have q_bb3 : w6.cell? ⟨w.heap.size + 1, 3, none⟩ = some (.int .i64 lo2) := bb.cell 3
          have q_bb4 : w6.cell? ⟨w.heap.size + 1, 4, none⟩ = some (.int .i64 hi2) := bb.cell 4
          go_wp2_with fail
          refine (Covers_any _ _ _ _ _ _ _ _ _ _ _).mono ?_
          rintro e w7 ⟨rfl, hb⟩
          clear q_ba0 q_ba1 q_ba2 q_ba3 q_ba4 q_bb0 q_bb1 q_bb2 q_bb3 q_bb4
          have ba : Blk w7 (w.heap.size) 42 #[.bool al1, .int .i64 ad1, .int .i64 bi1, .int .i64 lo1, .int .i64 hi1] := (ba).on hb
          have bb : Blk w7 (w.heap.size + 1) 42 #[.bool al2, .int .i64 ad2, .int .i64 bi2, .int .i64 lo2, .int .i64 hi2] := (bb).on hb
          have hbz := hb.size
          have HB7 := Lib.hid ((HB6.out).trans (hb.mono (by first | exact Nat.le_refl _ | omega | (simp; done) | (simp; omega))))
          have hz7 : w.heap.size ≤ w7.heap.size := HB7.out.size
          clear hb hbz
          rw [CV.out]
          go_wp2_with fail
          refine (awake_any _ (HX.out.below (HB7.out))).mono ?_
          rintro e w8 ⟨rfl, hb⟩
          have ba : Blk w8 (w.heap.size) 42 #[.bool al1, .int .i64 ad1, .int .i64 bi1, .int .i64 lo1, .int .i64 hi1] := (ba).on hb
          have bb : Blk w8 (w.heap.size + 1) 42 #[.bool al2, .int .i64 ad2, .int .i64 bi2, .int .i64 lo2, .int .i64 hi2] := (bb).on hb
          have hbz := hb.size
          have HB8 := Lib.hid ((HB7.out).trans (hb.mono (by first | exact Nat.le_refl _ | omega | (simp; done) | (simp; omega))))
          have hz8 : w.heap.size ≤ w8.heap.size := HB8.out.size
          clear hb hbz
          go_wp2_with fail
          go_ret
          exact ⟨rfl, HB8.out⟩
    · have HA := Lib.hid ga
      have CV := Lib.hid (cv_badr (a := (Rule.mk al1 ad1 bi1 lo1 hi1)) gb)
      have gbb : ((Rule.mk al2 ad2 bi2 lo2 hi2).ck != 0) = true := bne_iff_ne.2 gb
      clear ga gb
      generalize hcb : (Rule.mk al2 ad2 bi2 lo2 hi2).ck = cb at *
      have HCB := Lib.hid hcb
      clear hcb
      go_enter Tryd.func13, Tryd.ntmps13
      go_wp2_with fail
      refine (Check_any _ _ _ _ _ _).mono ?_
      rintro e w1 ⟨rfl, hb⟩
      have ba : Blk w1 (w.heap.size) 42 #[.bool al1, .int .i64 ad1, .int .i64 bi1, .int .i64 lo1, .int .i64 hi1] := ((Blk.new _ _ _).alloc _).on hb
      have bb : Blk w1 (w.heap.size + 1) 42 #[.bool al2, .int .i64 ad2, .int .i64 bi2, .int .i64 lo2, .int .i64 hi2] := (Blk.new1 _ _ _ _).on hb
      have hbz := hb.size
      have HB1 := Lib.hid ((((Below.refl w.heap.size w).alloc (by first | exact Nat.le_refl _ | omega | (simp; done) | (simp; omega)) _).alloc (by first | exact Nat.le_refl _ | omega | (simp; done) | (simp; omega)) _).trans (hb.mono (by first | exact Nat.le_refl _ | omega | (simp; done) | (simp; omega))))
      have hz1 : w.heap.size ≤ w1.heap.size := HB1.out.size
      clear hb hbz
      rw [HA.out]
      have q_ba0 : w1.cell? ⟨w.heap.size, 0, none⟩ = some (.bool al1) := ba.cell 0
      have q_ba1 : w1.cell? ⟨w.heap.size, 1, none⟩ = some (.int .i64 ad1) := ba.cell 1
      have q_ba2 : w1.cell? ⟨w.heap.size, 2, none⟩ = some (.int .i64 bi1) := ba.cell 2
      have q_ba3 : w1.cell? ⟨w.heap.size, 3, none⟩ = some (.int .i64 lo1) := ba.cell 3
      have q_ba4 : w1.cell? ⟨w.heap.size, 4, none⟩ = some (.int .i64 hi1) := ba.cell 4
      have q_bb0 : w1.cell? ⟨w.heap.size + 1, 0, none⟩ = some (.bool al2) := bb.cell 0
      have q_bb1 : w1.cell? ⟨w.heap.size + 1, 1, none⟩ = some (.int .i64 ad2) := bb.cell 1
      have q_bb2 : w1.cell? ⟨w.heap.size + 1, 2, none⟩ = some (.int .i64 bi2) := bb.cell 2
      have q_bb3 : w1.cell? ⟨w.heap.size + 1, 3, none⟩ = some (.int .i64 lo2) := bb.cell 3
      have q_bb4 : w1.cell? ⟨w.heap.size + 1, 4, none⟩ = some (.int .i64 hi2) := bb.cell 4
      go_wp2_with fail
      refine (Check_any _ _ _ _ _ _).mono ?_
      rintro e w2 ⟨rfl, hb⟩
      clear q_ba0 q_ba1 q_ba2 q_ba3 q_ba4 q_bb0 q_bb1 q_bb2 q_bb3 q_bb4
      have ba : Blk w2 (w.heap.size) 42 #[.bool al1, .int .i64 ad1, .int .i64 bi1, .int .i64 lo1, .int .i64 hi1] := (ba).on hb
      have bb : Blk w2 (w.heap.size + 1) 42 #[.bool al2, .int .i64 ad2, .int .i64 bi2, .int .i64 lo2, .int .i64 hi2] := (bb).on hb
      have hbz := hb.size
      have HB2 := Lib.hid ((HB1.out).trans (hb.mono (by first | exact Nat.le_refl _ | omega | (simp; done) | (simp; omega))))
      have hz2 : w.heap.size ≤ w2.heap.size := HB2.out.size
      clear hb hbz
      rw [HCB.out]
      have q_ba0 : w2.cell? ⟨w.heap.size, 0, none⟩ = some (.bool al1) := ba.cell 0
      have q_ba1 : w2.cell? ⟨w.heap.size, 1, none⟩ = some (.int .i64 ad1) := ba.cell 1
      have q_ba2 : w2.cell? ⟨w.heap.size, 2, none⟩ = some (.int .i64 bi1) := ba.cell 2
      have q_ba3 : w2.cell? ⟨w.heap.size, 3, none⟩ = some (.int .i64 lo1) := ba.cell 3
      have q_ba4 : w2.cell? ⟨w.heap.size, 4, none⟩ = some (.int .i64 hi1) := ba.cell 4
      have q_bb0 : w2.cell? ⟨w.heap.size + 1, 0, none⟩ = some (.bool al2) := bb.cell 0
      have q_bb1 : w2.cell? ⟨w.heap.size + 1, 1, none⟩ = some (.int .i64 ad2) := bb.cell 1
      have q_bb2 : w2.cell? ⟨w.heap.size + 1, 2, none⟩ = some (.int .i64 bi2) := bb.cell 2
      have q_bb3 : w2.cell? ⟨w.heap.size + 1, 3, none⟩ = some (.int .i64 lo2) := bb.cell 3
      have q_bb4 : w2.cell? ⟨w.heap.size + 1, 4, none⟩ = some (.int .i64 hi2) := bb.cell 4
      go_wp2_with fail
      refine (Covers_any _ _ _ _ _ _ _ _ _ _ _).mono ?_
      rintro e w3 ⟨rfl, hb⟩
      clear q_ba0 q_ba1 q_ba2 q_ba3 q_ba4 q_bb0 q_bb1 q_bb2 q_bb3 q_bb4
      have ba : Blk w3 (w.heap.size) 42 #[.bool al1, .int .i64 ad1, .int .i64 bi1, .int .i64 lo1, .int .i64 hi1] := (ba).on hb
      have bb : Blk w3 (w.heap.size + 1) 42 #[.bool al2, .int .i64 ad2, .int .i64 bi2, .int .i64 lo2, .int .i64 hi2] := (bb).on hb
      have hbz := hb.size
      have HB3 := Lib.hid ((HB2.out).trans (hb.mono (by first | exact Nat.le_refl _ | omega | (simp; done) | (simp; omega))))
      have hz3 : w.heap.size ≤ w3.heap.size := HB3.out.size
      clear hb hbz
      rw [CV.out]
      have q_ba0 : w3.cell? ⟨w.heap.size, 0, none⟩ = some (.bool al1) := ba.cell 0
      have q_ba1 : w3.cell? ⟨w.heap.size, 1, none⟩ = some (.int .i64 ad1) := ba.cell 1
      have q_ba2 : w3.cell? ⟨w.heap.size, 2, none⟩ = some (.int .i64 bi1) := ba.cell 2
      have q_ba3 : w3.cell? ⟨w.heap.size, 3, none⟩ = some (.int .i64 lo1) := ba.cell 3
      have q_ba4 : w3.cell? ⟨w.heap.size, 4, none⟩ = some (.int .i64 hi1) := ba.cell 4
      have q_bb0 : w3.cell? ⟨w.heap.size + 1, 0, none⟩ = some (.bool al2) := bb.cell 0
      have q_bb1 : w3.cell? ⟨w.heap.size + 1, 1, none⟩ = some (.int .i64 ad2) := bb.cell 1
      have q_bb2 : w3.cell? ⟨w.heap.size + 1, 2, none⟩ = some (.int .i64 bi2) := bb.cell 2
      have q_bb3 : w3.cell? ⟨w.heap.size + 1, 3, none⟩ = some (.int .i64 lo2) := bb.cell 3
      have q_bb4 : w3.cell? ⟨w.heap.size + 1, 4, none⟩ = some (.int .i64 hi2) := bb.cell 4
      go_wp2_with fail
      refine (Matches_any _ _ _ _ _ _ _ _).mono ?_
      rintro e w4 ⟨rfl, hb⟩
      clear q_ba0 q_ba1 q_ba2 q_ba3 q_ba4 q_bb0 q_bb1 q_bb2 q_bb3 q_bb4
      have ba : Blk w4 (w.heap.size) 42 #[.bool al1, .int .i64 ad1, .int .i64 bi1, .int .i64 lo1, .int .i64 hi1] := (ba).on hb
      have bb : Blk w4 (w.heap.size + 1) 42 #[.bool al2, .int .i64 ad2, .int .i64 bi2, .int .i64 lo2, .int .i64 hi2] := (bb).on hb
      have hbz := hb.size
      have HB4 := Lib.hid ((HB3.out).trans (hb.mono (by first | exact Nat.le_refl _ | omega | (simp; done) | (simp; omega))))
      have hz4 : w.heap.size ≤ w4.heap.size := HB4.out.size
      clear hb hbz
      rw [mt_minus]
      have q_ba0 : w4.cell? ⟨w.heap.size, 0, none⟩ = some (.bool al1) := ba.cell 0
      have q_ba1 : w4.cell? ⟨w.heap.size, 1, none⟩ = some (.int .i64 ad1) := ba.cell 1
      have q_ba2 : w4.cell? ⟨w.heap.size, 2, none⟩ = some (.int .i64 bi1) := ba.cell 2
      have q_ba3 : w4.cell? ⟨w.heap.size, 3, none⟩ = some (.int .i64 lo1) := ba.cell 3
      have q_ba4 : w4.cell? ⟨w.heap.size, 4, none⟩ = some (.int .i64 hi1) := ba.cell 4
      have q_bb0 : w4.cell? ⟨w.heap.size + 1, 0, none⟩ = some (.bool al2) := bb.cell 0
      have q_bb1 : w4.cell? ⟨w.heap.size + 1, 1, none⟩ = some (.int .i64 ad2) := bb.cell 1
      have q_bb2 : w4.cell? ⟨w.heap.size + 1, 2, none⟩ = some (.int .i64 bi2) := bb.cell 2
      have q_bb3 : w4.cell? ⟨w.heap.size + 1, 3, none⟩ = some (.int .i64 lo2) := bb.cell 3
      have q_bb4 : w4.cell? ⟨w.heap.size + 1, 4, none⟩ = some (.int .i64 hi2) := bb.cell 4
      go_wp2_with fail
      refine (awake_any _ (HX.out.below (HB4.out))).mono ?_
      rintro e w5 ⟨rfl, hb⟩
      clear q_ba0 q_ba1 q_ba2 q_ba3 q_ba4 q_bb0 q_bb1 q_bb2 q_bb3 q_bb4
      have ba : Blk w5 (w.heap.size) 42 #[.bool al1, .int .i64 ad1, .int .i64 bi1, .int .i64 lo1, .int .i64 hi1] := (ba).on hb
      have bb : Blk w5 (w.heap.size + 1) 42 #[.bool al2, .int .i64 ad2, .int .i64 bi2, .int .i64 lo2, .int .i64 hi2] := (bb).on hb
      have hbz := hb.size
      have HB5 := Lib.hid ((HB4.out).trans (hb.mono (by first | exact Nat.le_refl _ | omega | (simp; done) | (simp; omega))))
      have hz5 : w.heap.size ≤ w5.heap.size := HB5.out.size
      clear hb hbz
      go_wp2_with fail
      go_ret
      exact ⟨rfl, HB5.out⟩
  · have CV := Lib.hid (cv_badl (b := (Rule.mk al2 ad2 bi2 lo2 hi2)) ga)
    have gaa : ((Rule.mk al1 ad1 bi1 lo1 hi1).ck != 0) = true := bne_iff_ne.2 ga
    clear ga
    generalize hca : (Rule.mk al1 ad1 bi1 lo1 hi1).ck = ca at *
    have HCA := Lib.hid hca
    clear hca
    go_enter Tryd.func13, Tryd.ntmps13
    go_wp2_with fail
    refine (Check_any _ _ _ _ _ _).mono ?_
    rintro e w1 ⟨rfl, hb⟩
    have ba : Blk w1 (w.heap.size) 42 #[.bool al1, .int .i64 ad1, .int .i64 bi1, .int .i64 lo1, .int .i64 hi1] := ((Blk.new _ _ _).alloc _).on hb
    have bb : Blk w1 (w.heap.size + 1) 42 #[.bool al2, .int .i64 ad2, .int .i64 bi2, .int .i64 lo2, .int .i64 hi2] := (Blk.new1 _ _ _ _).on hb
    have hbz := hb.size
    have HB1 := Lib.hid ((((Below.refl w.heap.size w).alloc (by first | exact Nat.le_refl _ | omega | (simp; done) | (simp; omega)) _).alloc (by first | exact Nat.le_refl _ | omega | (simp; done) | (simp; omega)) _).trans (hb.mono (by first | exact Nat.le_refl _ | omega | (simp; done) | (simp; omega))))
    have hz1 : w.heap.size ≤ w1.heap.size := HB1.out.size
    clear hb hbz
    rw [HCA.out]
    have q_ba0 : w1.cell? ⟨w.heap.size, 0, none⟩ = some (.bool al1) := ba.cell 0
    have q_ba1 : w1.cell? ⟨w.heap.size, 1, none⟩ = some (.int .i64 ad1) := ba.cell 1
    have q_ba2 : w1.cell? ⟨w.heap.size, 2, none⟩ = some (.int .i64 bi1) := ba.cell 2
    have q_ba3 : w1.cell? ⟨w.heap.size, 3, none⟩ = some (.int .i64 lo1) := ba.cell 3
    have q_ba4 : w1.cell? ⟨w.heap.size, 4, none⟩ = some (.int .i64 hi1) := ba.cell 4
    have q_bb0 : w1.cell? ⟨w.heap.size + 1, 0, none⟩ = some (.bool al2) := bb.cell 0
    have q_bb1 : w1.cell? ⟨w.heap.size + 1, 1, none⟩ = some (.int .i64 ad2) := bb.cell 1
    have q_bb2 : w1.cell? ⟨w.heap.size + 1, 2, none⟩ = some (.int .i64 bi2) := bb.cell 2
    have q_bb3 : w1.cell? ⟨w.heap.size + 1, 3, none⟩ = some (.int .i64 lo2) := bb.cell 3
    have q_bb4 : w1.cell? ⟨w.heap.size + 1, 4, none⟩ = some (.int .i64 hi2) := bb.cell 4
    go_wp2_with fail
    refine (Covers_any _ _ _ _ _ _ _ _ _ _ _).mono ?_
    rintro e w2 ⟨rfl, hb⟩
    clear q_ba0 q_ba1 q_ba2 q_ba3 q_ba4 q_bb0 q_bb1 q_bb2 q_bb3 q_bb4
    have ba : Blk w2 (w.heap.size) 42 #[.bool al1, .int .i64 ad1, .int .i64 bi1, .int .i64 lo1, .int .i64 hi1] := (ba).on hb
    have bb : Blk w2 (w.heap.size + 1) 42 #[.bool al2, .int .i64 ad2, .int .i64 bi2, .int .i64 lo2, .int .i64 hi2] := (bb).on hb
    have hbz := hb.size
    have HB2 := Lib.hid ((HB1.out).trans (hb.mono (by first | exact Nat.le_refl _ | omega | (simp; done) | (simp; omega))))
    have hz2 : w.heap.size ≤ w2.heap.size := HB2.out.size
    clear hb hbz
    rw [CV.out]
    have q_ba0 : w2.cell? ⟨w.heap.size, 0, none⟩ = some (.bool al1) := ba.cell 0
    have q_ba1 : w2.cell? ⟨w.heap.size, 1, none⟩ = some (.int .i64 ad1) := ba.cell 1
    have q_ba2 : w2.cell? ⟨w.heap.size, 2, none⟩ = some (.int .i64 bi1) := ba.cell 2
    have q_ba3 : w2.cell? ⟨w.heap.size, 3, none⟩ = some (.int .i64 lo1) := ba.cell 3
    have q_ba4 : w2.cell? ⟨w.heap.size, 4, none⟩ = some (.int .i64 hi1) := ba.cell 4
    have q_bb0 : w2.cell? ⟨w.heap.size + 1, 0, none⟩ = some (.bool al2) := bb.cell 0
    have q_bb1 : w2.cell? ⟨w.heap.size + 1, 1, none⟩ = some (.int .i64 ad2) := bb.cell 1
    have q_bb2 : w2.cell? ⟨w.heap.size + 1, 2, none⟩ = some (.int .i64 bi2) := bb.cell 2
    have q_bb3 : w2.cell? ⟨w.heap.size + 1, 3, none⟩ = some (.int .i64 lo2) := bb.cell 3
    have q_bb4 : w2.cell? ⟨w.heap.size + 1, 4, none⟩ = some (.int .i64 hi2) := bb.cell 4
    go_wp2_with fail
    refine (Matches_any _ _ _ _ _ _ _ _).mono ?_
    rintro e w3 ⟨rfl, hb⟩
    clear q_ba0 q_ba1 q_ba2 q_ba3 q_ba4 q_bb0 q_bb1 q_bb2 q_bb3 q_bb4
    have ba : Blk w3 (w.heap.size) 42 #[.bool al1, .int .i64 ad1, .int .i64 bi1, .int .i64 lo1, .int .i64 hi1] := (ba).on hb
    have bb : Blk w3 (w.heap.size + 1) 42 #[.bool al2, .int .i64 ad2, .int .i64 bi2, .int .i64 lo2, .int .i64 hi2] := (bb).on hb
    have hbz := hb.size
    have HB3 := Lib.hid ((HB2.out).trans (hb.mono (by first | exact Nat.le_refl _ | omega | (simp; done) | (simp; omega))))
    have hz3 : w.heap.size ≤ w3.heap.size := HB3.out.size
    clear hb hbz
    rw [mt_minus]
    have q_ba0 : w3.cell? ⟨w.heap.size, 0, none⟩ = some (.bool al1) := ba.cell 0
    have q_ba1 : w3.cell? ⟨w.heap.size, 1, none⟩ = some (.int .i64 ad1) := ba.cell 1
    have q_ba2 : w3.cell? ⟨w.heap.size, 2, none⟩ = some (.int .i64 bi1) := ba.cell 2
    have q_ba3 : w3.cell? ⟨w.heap.size, 3, none⟩ = some (.int .i64 lo1) := ba.cell 3
    have q_ba4 : w3.cell? ⟨w.heap.size, 4, none⟩ = some (.int .i64 hi1) := ba.cell 4
    have q_bb0 : w3.cell? ⟨w.heap.size + 1, 0, none⟩ = some (.bool al2) := bb.cell 0
    have q_bb1 : w3.cell? ⟨w.heap.size + 1, 1, none⟩ = some (.int .i64 ad2) := bb.cell 1
    have q_bb2 : w3.cell? ⟨w.heap.size + 1, 2, none⟩ = some (.int .i64 bi2) := bb.cell 2
    have q_bb3 : w3.cell? ⟨w.heap.size + 1, 3, none⟩ = some (.int .i64 lo2) := bb.cell 3
    have q_bb4 : w3.cell? ⟨w.heap.size + 1, 4, none⟩ = some (.int .i64 hi2) := bb.cell 4
    go_wp2_with fail
    refine (awake_any _ (HX.out.below (HB3.out))).mono ?_
    rintro e w4 ⟨rfl, hb⟩
    clear q_ba0 q_ba1 q_ba2 q_ba3 q_ba4 q_bb0 q_bb1 q_bb2 q_bb3 q_bb4
    have ba : Blk w4 (w.heap.size) 42 #[.bool al1, .int .i64 ad1, .int .i64 bi1, .int .i64 lo1, .int .i64 hi1] := (ba).on hb
    have bb : Blk w4 (w.heap.size + 1) 42 #[.bool al2, .int .i64 ad2, .int .i64 bi2, .int .i64 lo2, .int .i64 hi2] := (bb).on hb
    have hbz := hb.size
    have HB4 := Lib.hid ((HB3.out).trans (hb.mono (by first | exact Nat.le_refl _ | omega | (simp; done) | (simp; omega))))
    have hz4 : w.heap.size ≤ w4.heap.size := HB4.out.size
    clear hb hbz
    go_wp2_with fail
    go_ret
    exact ⟨rfl, HB4.out⟩
end Go.Proofs.YtpkekfhnpcjgkaaDoor
