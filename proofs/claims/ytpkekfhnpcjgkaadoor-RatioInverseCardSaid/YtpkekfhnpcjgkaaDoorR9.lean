/- The walks of Of and its reference. -/
import Derived.Test.YtpkekfhnpcjgkaaDoorR8
import Derived.Test.YtpkekfhnpcjgkaaDoorZ2
namespace Go.Proofs.YtpkekfhnpcjgkaaDoor
open Go.RowKit
open Rt
open Go.Sort (grow)

theorem high_far {p c : Nat} (hc : 0 < c) (h : c ≤ p / 18446744073709551616) : 1000000000000 < p / c := by
  have h1 : c * 18446744073709551616 ≤ p := by omega
  have h2 : 18446744073709551616 ≤ p / c := by rw [Nat.le_div_iff_mul_le hc, Nat.mul_comm]; exact h1
  omega
theorem word_split (p : Nat) : p / 18446744073709551616 * (4294967296 * 4294967296) + p % 18446744073709551616 = p := by omega
theorem om_no1 {p q n : Int} (h : vR p q = false) : omR p q n = (0, 2) := by unfold omR; rw [h]; rfl
theorem om_no2 {p q n : Int} (h : vI n = false) : omR p q n = (0, 2) := by
  unfold omR
  rw [show vI' n = false from h, Bool.and_false]; rfl
theorem om_far {p n : Int} {k : Nat} (hv : vR p k = true) (hn : vI n = true) (h : 1000000000000 < p.natAbs * n.natAbs / k) : omR p k n = (0, 8) := omR_far hv hn h
theorem om_in {p n : Int} {k : Nat} (hv : vR p k = true) (hn : vI n = true) (h : p.natAbs * n.natAbs / k ≤ 1000000000000) {neg : Bool} (hs : neg = !(decide (p < 0) == decide (n < 0))) {v : Int} (hw : omS neg (p.natAbs * n.natAbs / k) (p.natAbs * n.natAbs % k) = v) (hi : vI v = true) : omR p k n = (v, 0) := by
  rw [omR_near hv hn h hs, Int.natAbs_natCast, hw, if_pos (show vI' v = true from hi)]
theorem om_out {p n : Int} {k : Nat} (hv : vR p k = true) (hn : vI n = true) (h : p.natAbs * n.natAbs / k ≤ 1000000000000) {neg : Bool} (hs : neg = !(decide (p < 0) == decide (n < 0))) {v : Int} (hw : omS neg (p.natAbs * n.natAbs / k) (p.natAbs * n.natAbs % k) = v) (hi : vI v = false) : omR p k n = (0, 8) := by
  rw [omR_near hv hn h hs, Int.natAbs_natCast, hw, if_neg (by rw [show vI' v = false from hi]; simp)]
theorem omS_no (x r : Nat) : omS false x r = x := rfl
theorem omS_r (x r : Nat) (h : 0 < r) : omS true x r = -(x : Int) - 1 := by unfold omS; simp [h]
theorem omS_0 (x r : Nat) (h : r = 0) : omS true x r = -(x : Int) := by unfold omS; simp [h]
set_option maxHeartbeats 2000000 in
theorem qOf_any (p q n : Int) (w : World) :
    Calls Tryd.prog 20 #[.agg #[.int .i64 p, .int .i64 q], .int .i64 n] w fun e w' => e = .returned (tup2 (omR p q n)) ∧ Below w.heap.size w w' := by
  cases hv : vR p q
  · have HD := Lib.hid (om_no1 (n := n) hv)
    have HV := Lib.hid hv
    clear hv
    go_enter Tryd.func20, Tryd.ntmps20
    go_wp2_with fail
    refine (qValid_any _ _ _).mono ?_
    rintro e w1 ⟨rfl, hb⟩
    have ba : Blk w1 (w.heap.size) 23 #[.int .i64 p, .int .i64 q] := (Blk.new _ _ _).on hb
    have hbz := hb.size
    have HB1 := Lib.hid (((Below.refl w.heap.size w).alloc (by first | exact Nat.le_refl _ | omega | (simp; done) | (simp; omega)) _).trans (hb.mono (by first | exact Nat.le_refl _ | omega | (simp; done) | (simp; omega))))
    have hz1 : w.heap.size ≤ w1.heap.size := HB1.out.size
    clear hb hbz
    rw [HV.out]
    go_wp2_with fail
    go_ret2
    exact ⟨ret_tup2 HD.out, HB1.out⟩
  cases hw : vI n
  · have HD := Lib.hid (om_no2 (p := p) (q := q) hw)
    have HV := Lib.hid hv
    have HW := Lib.hid hw
    clear hv hw
    go_enter Tryd.func20, Tryd.ntmps20
    go_wp2_with fail
    refine (qValid_any _ _ _).mono ?_
    rintro e w1 ⟨rfl, hb⟩
    have ba : Blk w1 (w.heap.size) 23 #[.int .i64 p, .int .i64 q] := (Blk.new _ _ _).on hb
    have hbz := hb.size
    have HB1 := Lib.hid (((Below.refl w.heap.size w).alloc (by first | exact Nat.le_refl _ | omega | (simp; done) | (simp; omega)) _).trans (hb.mono (by first | exact Nat.le_refl _ | omega | (simp; done) | (simp; omega))))
    have hz1 : w.heap.size ≤ w1.heap.size := HB1.out.size
    clear hb hbz
    rw [HV.out]
    go_wp2_with fail
    refine (Valid_any _ _).mono ?_
    rintro e wq ⟨rfl, hq⟩
    obtain rfl := hq.symm
    rw [HW.out]
    go_wp2_with fail
    go_ret2
    exact ⟨ret_tup2 HD.out, HB1.out⟩
  obtain ⟨b1, b2, b3, b4⟩ := vR_bd hv
  obtain ⟨n1, n2⟩ := (vI_iff n).1 hw
  obtain ⟨k, rfl⟩ := Int.eq_ofNat_of_zero_le (show 0 ≤ q by omega)
  have HV := Lib.hid hv
  have HW := Lib.hid hw
  clear hv hw
  have HF := Lib.hid (fun h => om_far (p := p) (n := n) (k := k) HV.out HW.out h)
  have HI := Lib.hid (fun h {neg} (hs : neg = !(decide (p < 0) == decide (n < 0))) {v} (hw : omS neg (p.natAbs * n.natAbs / k) (p.natAbs * n.natAbs % k) = v) hi => om_in (p := p) (n := n) (k := k) HV.out HW.out h hs hw hi)
  have HO := Lib.hid (fun h {neg} (hs : neg = !(decide (p < 0) == decide (n < 0))) {v} (hw : omS neg (p.natAbs * n.natAbs / k) (p.natAbs * n.natAbs % k) = v) hi => om_out (p := p) (n := n) (k := k) HV.out HW.out h hs hw hi)
  have HA := Lib.hid (high_far (p := p.natAbs * n.natAbs) (c := k) (by omega))
  have HSp := Lib.hid (word_split (p.natAbs * n.natAbs))
  have u1 : p.natAbs ≤ 1000000000 := by omega
  have u2 : n.natAbs ≤ 1000000000000 := by omega
  have kb : k ≤ 1000000 := by omega
  have k0 : 0 < k := by omega
  have zk : ((k : Int) == 0) = false := beq_eq_false_iff_ne.2 (by omega)
  go_enter Tryd.func20, Tryd.ntmps20
  go_wp2_with fail
  refine (qValid_any _ _ _).mono ?_
  rintro e w1 ⟨rfl, hb⟩
  have ba : Blk w1 (w.heap.size) 23 #[.int .i64 p, .int .i64 (k : Int)] := (Blk.new _ _ _).on hb
  have hbz := hb.size
  have HB1 := Lib.hid (((Below.refl w.heap.size w).alloc (by first | exact Nat.le_refl _ | omega | (simp; done) | (simp; omega)) _).trans (hb.mono (by first | exact Nat.le_refl _ | omega | (simp; done) | (simp; omega))))
  have hz1 : w.heap.size ≤ w1.heap.size := HB1.out.size
  clear hb hbz
  rw [HV.out]
  go_wp2_with fail
  refine (Valid_any _ _).mono ?_
  rintro e wq ⟨rfl, hq⟩
  obtain rfl := hq.symm
  rw [HW.out]
  have q_ba0 : w1.cell? ⟨w.heap.size, 0, none⟩ = some (.int .i64 p) := ba.cell 0
  have q_ba1 : w1.cell? ⟨w.heap.size, 1, none⟩ = some (.int .i64 (k : Int)) := ba.cell 1
  go_wp2_with fail
  refine (size_any p _ (by omega) (by omega)).mono ?_
  rintro e wq ⟨rfl, rfl⟩
  go_wp2_with fail
  refine (size_any n _ (by omega) (by omega)).mono ?_
  rintro e wq ⟨rfl, rfl⟩
  go_wp2_with fail
  refine (Tryd.bits_Mul64 p.natAbs n.natAbs (by omega) (by omega) _).mono ?_
  rintro e wq ⟨rfl, hq⟩
  obtain rfl := hq.symm
  have hlo : p.natAbs * n.natAbs % 18446744073709551616 < 18446744073709551616 := Nat.mod_lt _ (by omega)
  have HL := Lib.hid hlo
  clear hlo
  generalize hhi : p.natAbs * n.natAbs / 18446744073709551616 = hi at *
  generalize hlo : p.natAbs * n.natAbs % 18446744073709551616 = lo at *
  clear hhi hlo
  by_cases hge : k ≤ hi
  · have HD := Lib.hid (HF.out (HA.out hge))
    go_wp2_with fail
    go_ret2
    exact ⟨ret_tup2 HD.out, HB1.out⟩
  · skip
    go_wp2_with fail
    refine (Div64_any hi lo k (by omega) HL.out (by omega) _).mono ?_
    rintro e w2 ⟨rfl, hb⟩
    clear q_ba0 q_ba1
    have ba : Blk w2 (w.heap.size) 23 #[.int .i64 p, .int .i64 (k : Int)] := (ba).on hb
    have hbz := hb.size
    have HB2 := Lib.hid ((HB1.out).trans (hb.mono (by first | exact Nat.le_refl _ | omega | (simp; done) | (simp; omega))))
    have hz2 : w.heap.size ≤ w2.heap.size := HB2.out.size
    clear hb hbz
    rw [HSp.out]
    generalize p.natAbs * n.natAbs / k = x at *
    generalize p.natAbs * n.natAbs % k = r at *
    have q_ba0 : w2.cell? ⟨w.heap.size, 0, none⟩ = some (.int .i64 p) := ba.cell 0
    have q_ba1 : w2.cell? ⟨w.heap.size, 1, none⟩ = some (.int .i64 (k : Int)) := ba.cell 1
    by_cases hx : x ≤ 1000000000000
    · skip
      by_cases hp : p < 0
      · skip
        by_cases hn : n < 0
        · skip
          have dp : decide (p < 0) = true := decide_eq_true hp
          have dn : decide (n < 0) = true := decide_eq_true hn
          have HS := Lib.hid (omS_no x r)
          have hng : false = !(decide (p < 0) == decide (n < 0)) := by simp [hp, hn]
          have HN := Lib.hid hng
          clear hng
          go_wp2_with fail
          all_goals try (exfalso; omega)
          go_wp2_with fail
          refine (Valid_any _ _).mono ?_
          rintro e wq ⟨rfl, hq⟩
          obtain rfl := hq.symm
          cases hvv : vI (x)
          · have HD := Lib.hid (HO.out hx HN.out HS.out hvv)
            clear hvv
            go_wp2_with fail
            go_ret2
            exact ⟨ret_tup2 HD.out, HB2.out⟩
          · have HD := Lib.hid (HI.out hx HN.out HS.out hvv)
            clear hvv
            go_wp2_with fail
            go_ret2
            exact ⟨ret_tup2 HD.out, HB2.out⟩
        · skip
          by_cases hr : 0 < r
          · skip
            have dp : decide (p < 0) = true := decide_eq_true hp
            have dn : decide (n < 0) = false := decide_eq_false hn
            have HS := Lib.hid (omS_r x r hr)
            have hng : true = !(decide (p < 0) == decide (n < 0)) := by simp [hp, hn]
            have HN := Lib.hid hng
            clear hng
            go_wp2_with fail
            all_goals try (exfalso; omega)
            go_wp2_with fail
            refine (Valid_any _ _).mono ?_
            rintro e wq ⟨rfl, hq⟩
            obtain rfl := hq.symm
            cases hvv : vI (-(x : Int) - 1)
            · have HD := Lib.hid (HO.out hx HN.out HS.out hvv)
              clear hvv
              go_wp2_with fail
              go_ret2
              exact ⟨ret_tup2 HD.out, HB2.out⟩
            · have HD := Lib.hid (HI.out hx HN.out HS.out hvv)
              clear hvv
              go_wp2_with fail
              go_ret2
              exact ⟨ret_tup2 HD.out, HB2.out⟩
          · skip
            have dp : decide (p < 0) = true := decide_eq_true hp
            have dn : decide (n < 0) = false := decide_eq_false hn
            have HS := Lib.hid (omS_0 x r (by omega))
            have hng : true = !(decide (p < 0) == decide (n < 0)) := by simp [hp, hn]
            have HN := Lib.hid hng
            clear hng
            go_wp2_with fail
            all_goals try (exfalso; omega)
            go_wp2_with fail
            refine (Valid_any _ _).mono ?_
            rintro e wq ⟨rfl, hq⟩
            obtain rfl := hq.symm
            cases hvv : vI (-(x : Int))
            · have HD := Lib.hid (HO.out hx HN.out HS.out hvv)
              clear hvv
              go_wp2_with fail
              go_ret2
              exact ⟨ret_tup2 HD.out, HB2.out⟩
            · have HD := Lib.hid (HI.out hx HN.out HS.out hvv)
              clear hvv
              go_wp2_with fail
              go_ret2
              exact ⟨ret_tup2 HD.out, HB2.out⟩
      · skip
        by_cases hn : n < 0
        · skip
          by_cases hr : 0 < r
          · skip
            have dp : decide (p < 0) = false := decide_eq_false hp
            have dn : decide (n < 0) = true := decide_eq_true hn
            have HS := Lib.hid (omS_r x r hr)
            have hng : true = !(decide (p < 0) == decide (n < 0)) := by simp [hp, hn]
            have HN := Lib.hid hng
            clear hng
            go_wp2_with fail
            all_goals try (exfalso; omega)
            go_wp2_with fail
            refine (Valid_any _ _).mono ?_
            rintro e wq ⟨rfl, hq⟩
            obtain rfl := hq.symm
            cases hvv : vI (-(x : Int) - 1)
            · have HD := Lib.hid (HO.out hx HN.out HS.out hvv)
              clear hvv
              go_wp2_with fail
              go_ret2
              exact ⟨ret_tup2 HD.out, HB2.out⟩
            · have HD := Lib.hid (HI.out hx HN.out HS.out hvv)
              clear hvv
              go_wp2_with fail
              go_ret2
              exact ⟨ret_tup2 HD.out, HB2.out⟩
          · skip
            have dp : decide (p < 0) = false := decide_eq_false hp
            have dn : decide (n < 0) = true := decide_eq_true hn
            have HS := Lib.hid (omS_0 x r (by omega))
            have hng : true = !(decide (p < 0) == decide (n < 0)) := by simp [hp, hn]
            have HN := Lib.hid hng
            clear hng
            go_wp2_with fail
            all_goals try (exfalso; omega)
            go_wp2_with fail
            refine (Valid_any _ _).mono ?_
            rintro e wq ⟨rfl, hq⟩
            obtain rfl := hq.symm
            cases hvv : vI (-(x : Int))
            · have HD := Lib.hid (HO.out hx HN.out HS.out hvv)
              clear hvv
              go_wp2_with fail
              go_ret2
              exact ⟨ret_tup2 HD.out, HB2.out⟩
            · have HD := Lib.hid (HI.out hx HN.out HS.out hvv)
              clear hvv
              go_wp2_with fail
              go_ret2
              exact ⟨ret_tup2 HD.out, HB2.out⟩
        · skip
          have dp : decide (p < 0) = false := decide_eq_false hp
          have dn : decide (n < 0) = false := decide_eq_false hn
          have HS := Lib.hid (omS_no x r)
          have hng : false = !(decide (p < 0) == decide (n < 0)) := by simp [hp, hn]
          have HN := Lib.hid hng
          clear hng
          go_wp2_with fail
          all_goals try (exfalso; omega)
          go_wp2_with fail
          refine (Valid_any _ _).mono ?_
          rintro e wq ⟨rfl, hq⟩
          obtain rfl := hq.symm
          cases hvv : vI (x)
          · have HD := Lib.hid (HO.out hx HN.out HS.out hvv)
            clear hvv
            go_wp2_with fail
            go_ret2
            exact ⟨ret_tup2 HD.out, HB2.out⟩
          · have HD := Lib.hid (HI.out hx HN.out HS.out hvv)
            clear hvv
            go_wp2_with fail
            go_ret2
            exact ⟨ret_tup2 HD.out, HB2.out⟩
    · have HD := Lib.hid (HF.out (by omega))
      go_wp2_with fail
      go_ret2
      exact ⟨ret_tup2 HD.out, HB2.out⟩
/-! ### the reference -/
theorem ref_split {a m k : Nat} (hk : 0 < k) : a * m / k = a * (m / k) + a * (m % k) / k ∧ a * m % k = a * (m % k) % k := by
  have e : a * m = a * (m % k) + a * (m / k) * k := by
    have := Nat.div_add_mod m k
    calc a * m = a * (k * (m / k) + m % k) := by rw [this]
      _ = a * (m % k) + a * (m / k) * k := by rw [Nat.mul_add, Nat.mul_comm k, ← Nat.mul_assoc, Nat.add_comm]
  rw [e]
  exact ⟨by rw [Nat.add_mul_div_right _ _ hk, Nat.add_comm], by rw [Nat.add_mul_mod_self_right]⟩
theorem quo_test {x y : Nat} (hx : 0 < x) : (1000000000000 / (x : Int) < (y : Int)) ↔ 1000000000000 < x * y := by
  rw [show (1000000000000 / (x : Int)) = ((1000000000000 / x : Nat) : Int) by rw [Int.natCast_ediv]; rfl]
  rw [Int.ofNat_lt, Nat.div_lt_iff_lt_mul hx, Nat.mul_comm]
def negB (p n : Int) : Bool := (decide (p < 0) && decide (0 < n)) || (decide (0 < p) && decide (n < 0))
theorem ref_far {p n : Int} {k x : Nat} (hv : vR p k = true) (hn : vI n = true) (hx : p.natAbs * n.natAbs / k = x) (h : 1000000000000 < x) : omR p k n = (0, 8) := om_far hv hn (by omega)
theorem ref_val {p n : Int} {k x r : Nat} (hv : vR p k = true) (hn : vI n = true) (hx : p.natAbs * n.natAbs / k = x) (hr : p.natAbs * n.natAbs % k = r) (h : x ≤ 1000000000000) {v : Int}
    (hval : v = if negB p n then (if 0 < r then -(x : Int) - 1 else -(x : Int)) else (x : Int)) : omR p k n = if -1000000000000 ≤ v then (v, 0) else (0, 8) := by
  have hs : omS (!(decide (p < 0) == decide (n < 0))) x r = v := by
    subst hval
    by_cases h0 : p = 0 ∨ n = 0
    · have hz : p.natAbs * n.natAbs = 0 := by rcases h0 with rfl | rfl <;> simp
      rw [hz, Nat.zero_div] at hx
      rw [hz, Nat.zero_mod] at hr
      subst hx hr
      have : negB p n = false := by unfold negB; rcases h0 with rfl | rfl <;> simp
      rw [this]
      unfold omS
      simp
    · have : negB p n = !(decide (p < 0) == decide (n < 0)) := by
        unfold negB
        by_cases h1 : p < 0 <;> by_cases h2 : n < 0
        · simp [h1, h2]; omega
        · have h3 : 0 < n := by omega
          simp [h1, h2, h3]
        · have h3 : 0 < p := by omega
          simp [h1, h2, h3]
        · simp [h1, h2]
      rw [this]
      rfl
  rw [omR_near hv hn (by rw [Int.natAbs_natCast]; omega) rfl, Int.natAbs_natCast, hx, hr, hs]
  have hle : v ≤ 1000000000000 := by
    subst hval
    split
    · split <;> omega
    · omega
  by_cases hv2 : -1000000000000 ≤ v
  · rw [if_pos hv2, if_pos (by show vI v = true; rw [vI_iff]; omega)]
  · rw [if_neg hv2, if_neg (by show ¬ vI v = true; rw [vI_iff]; omega)]
set_option maxHeartbeats 4000000 in
set_option maxRecDepth 100000 in
theorem qrOf_any (p q n : Int) (w : World) :
    Calls Tryd.prog 21 #[.agg #[.int .i64 p, .int .i64 q], .int .i64 n] w fun e w' => e = .returned (tup2 (omR p q n)) ∧ Below w.heap.size w w' := by
  cases hv : vR p q
  · have HD := Lib.hid (om_no1 (n := n) hv)
    have HV := Lib.hid hv
    clear hv
    go_enter Tryd.func21, Tryd.ntmps21
    go_wp2_with fail
    refine (qrValid_any _ _ _).mono ?_
    rintro e w1 ⟨rfl, hb⟩
    have ba : Blk w1 (w.heap.size) 23 #[.int .i64 p, .int .i64 q] := (Blk.new _ _ _).on hb
    have hbz := hb.size
    have HB1 := Lib.hid (((Below.refl w.heap.size w).alloc (by first | exact Nat.le_refl _ | omega | (simp; done) | (simp; omega)) _).trans (hb.mono (by first | exact Nat.le_refl _ | omega | (simp; done) | (simp; omega))))
    have hz1 : w.heap.size ≤ w1.heap.size := HB1.out.size
    clear hb hbz
    rw [HV.out]
    go_wp2_with fail
    go_ret2
    exact ⟨ret_tup2 HD.out, HB1.out⟩
  cases hw : vI n
  · have HD := Lib.hid (om_no2 (p := p) (q := q) hw)
    have HV := Lib.hid hv
    have HW := Lib.hid hw
    clear hv hw
    go_enter Tryd.func21, Tryd.ntmps21
    go_wp2_with fail
    refine (qrValid_any _ _ _).mono ?_
    rintro e w1 ⟨rfl, hb⟩
    have ba : Blk w1 (w.heap.size) 23 #[.int .i64 p, .int .i64 q] := (Blk.new _ _ _).on hb
    have hbz := hb.size
    have HB1 := Lib.hid (((Below.refl w.heap.size w).alloc (by first | exact Nat.le_refl _ | omega | (simp; done) | (simp; omega)) _).trans (hb.mono (by first | exact Nat.le_refl _ | omega | (simp; done) | (simp; omega))))
    have hz1 : w.heap.size ≤ w1.heap.size := HB1.out.size
    clear hb hbz
    rw [HV.out]
    go_wp2_with fail
    refine (rValid_any _ _).mono ?_
    rintro e wq ⟨rfl, rfl⟩
    rw [HW.out]
    go_wp2_with fail
    go_ret2
    exact ⟨ret_tup2 HD.out, HB1.out⟩
  obtain ⟨b1, b2, b3, b4⟩ := vR_bd hv
  obtain ⟨n1, n2⟩ := (vI_iff n).1 hw
  obtain ⟨k, rfl⟩ := Int.eq_ofNat_of_zero_le (show 0 ≤ q by omega)
  have HV := Lib.hid hv
  have HW := Lib.hid hw
  clear hv hw
  have HSp := Lib.hid (ref_split (a := p.natAbs) (m := n.natAbs) (k := k) (by omega))
  have HF := Lib.hid (fun (x : Nat) hx h => ref_far (p := p) (n := n) (k := k) (x := x) HV.out HW.out hx h)
  have HI := Lib.hid (fun (x r : Nat) hx hr h (v : Int) hval => ref_val (p := p) (n := n) (k := k) (x := x) (r := r) HV.out HW.out hx hr h (v := v) hval)
  have u1 : p.natAbs ≤ 1000000000 := by omega
  have u2 : n.natAbs ≤ 1000000000000 := by omega
  have kb : k ≤ 1000000 := by omega
  have k0 : 1 ≤ k := by omega
  have zne : k ≠ 0 := by omega
  have zneI : (k : Int) ≠ 0 := by omega
  have zk : ((k : Int) == 0) = false := beq_eq_false_iff_ne.2 (by omega)
  go_enter Tryd.func21, Tryd.ntmps21
  go_wp2_with fail
  refine (qrValid_any _ _ _).mono ?_
  rintro e w1 ⟨rfl, hb⟩
  have ba : Blk w1 (w.heap.size) 23 #[.int .i64 p, .int .i64 (k : Int)] := (Blk.new _ _ _).on hb
  have hbz := hb.size
  have HB1 := Lib.hid (((Below.refl w.heap.size w).alloc (by first | exact Nat.le_refl _ | omega | (simp; done) | (simp; omega)) _).trans (hb.mono (by first | exact Nat.le_refl _ | omega | (simp; done) | (simp; omega))))
  have hz1 : w.heap.size ≤ w1.heap.size := HB1.out.size
  clear hb hbz
  rw [HV.out]
  go_wp2_with fail
  refine (rValid_any _ _).mono ?_
  rintro e wq ⟨rfl, hq⟩
  obtain rfl := hq.symm
  rw [HW.out]
  have q_ba0 : w1.cell? ⟨w.heap.size, 0, none⟩ = some (.int .i64 p) := ba.cell 0
  have q_ba1 : w1.cell? ⟨w.heap.size, 1, none⟩ = some (.int .i64 (k : Int)) := ba.cell 1
  go_wp2_with fail
  refine (amount_any p _ (by omega) (by omega)).mono ?_
  rintro e wq ⟨rfl, rfl⟩
  obtain ⟨m, hm⟩ : ∃ m, m = n.natAbs := ⟨_, rfl⟩
  obtain ⟨a, ha⟩ : ∃ a, a = p.natAbs := ⟨_, rfl⟩
  rw [← hm] at HSp HF HI u2
  rw [← ha] at HSp HF HI u1 ⊢
  have HM := Lib.hid hm
  have HAA := Lib.hid ha
  clear hm ha
  have hwl : m / k ≤ m := Nat.div_le_self _ _
  have hrl : m % k < k := Nat.mod_lt _ (by omega)
  have HN := Lib.hid (fun (W : World) (d : Nat) (os : Array Obj) => (amount_at n W d os (by omega)))
  rw [← HM.out] at HN
  have s1 : (m : Int).tdiv (k : Int) = ((m / k : Nat) : Int) := rfl
  have s2 : (m : Int) / (k : Int) = ((m / k : Nat) : Int) := rfl
  have s3 : (m : Int).tmod (k : Int) = ((m % k : Nat) : Int) := rfl
  have s4 : (m : Int) % (k : Int) = ((m % k : Nat) : Int) := rfl
  generalize m / k = wh at *
  generalize m % k = rm at *
  have hpr : a * rm ≤ 1000000000 * 1000000 := Nat.mul_le_mul u1 (by omega)
  have s5 : IntKind.i64.wrap (wh : Int) = (wh : Int) := IntWalk.i64_in _ (by omega)
  have s6 : IntKind.i64.wrap (rm : Int) = (rm : Int) := IntWalk.i64_in _ (by omega)
  have s7 : IntKind.i64.wrap ((a : Int) * (rm : Int)) = ((a * rm : Nat) : Int) := by rw [← Int.natCast_mul]; exact IntWalk.i64_in _ (by omega)
  have s8 : (a : Int) * (rm : Int) = ((a * rm : Nat) : Int) := rfl
  generalize a * rm = rs at *
  go_wp2_with fail
  clear q_ba0 q_ba1
  have r_ba0 := fun d os => cell_regrown (v := .int .i64 p) (ba.cell 0) d os
  have r_ba1 := fun d os => cell_regrown (v := .int .i64 (k : Int)) (ba.cell 1) d os
  refine wp_region_quiet_below (by kernel_rfl) (by kernel_rfl) ?_
  repeat (go_big_quiet_step ((go_at_call 67; go_must (exact HN.out _ _ _))))
  refine wpQuiet_nil ?_
  intro _ hw'
  obtain ⟨⟨dq, osq⟩, hw''⟩ := hw'
  subst hw''
  have hb := below_regrown w1 dq osq
  have ba : Blk (Go.Sort.grow (redrawn w1 dq) osq) (w.heap.size) 23 #[.int .i64 p, .int .i64 (k : Int)] := ba.on hb
  have HB2 := Lib.hid ((HB1.out).trans (hb.mono (by first | exact Nat.le_refl _ | omega | (simp; done) | (simp; omega))))
  clear hb r_ba0 r_ba1
  generalize Go.Sort.grow (redrawn w1 dq) osq = w2 at *
  have hz2 : w.heap.size ≤ w2.heap.size := HB2.out.size
  go_wp2_with fail
  have r_ba0 := fun d os => cell_regrown (v := .int .i64 p) (ba.cell 0) d os
  have r_ba1 := fun d os => cell_regrown (v := .int .i64 (k : Int)) (ba.cell 1) d os
  refine wp_region_quiet_below (by kernel_rfl) (by kernel_rfl) ?_
  repeat (go_big_quiet_step ((go_at_call 67; go_must (exact HN.out _ _ _))))
  refine wpQuiet_nil ?_
  intro _ hw'
  obtain ⟨⟨dq, osq⟩, hw''⟩ := hw'
  subst hw''
  have hb := below_regrown w2 dq osq
  have ba : Blk (Go.Sort.grow (redrawn w2 dq) osq) (w.heap.size) 23 #[.int .i64 p, .int .i64 (k : Int)] := ba.on hb
  have HB3 := Lib.hid ((HB2.out).trans (hb.mono (by first | exact Nat.le_refl _ | omega | (simp; done) | (simp; omega))))
  clear hb r_ba0 r_ba1
  generalize Go.Sort.grow (redrawn w2 dq) osq = w3 at *
  have hz3 : w.heap.size ≤ w3.heap.size := HB3.out.size
  have q_ba0 : w3.cell? ⟨w.heap.size, 0, none⟩ = some (.int .i64 p) := ba.cell 0
  have q_ba1 : w3.cell? ⟨w.heap.size, 1, none⟩ = some (.int .i64 (k : Int)) := ba.cell 1
  have hsl : rs / k ≤ rs := Nat.div_le_self _ _
  have hsr : rs % k < k := Nat.mod_lt _ (by omega)
  clear s1 s2 s3 s4 s5 s6 s7 s8
  have s1 : (rs : Int).tdiv (k : Int) = ((rs / k : Nat) : Int) := rfl
  have s2 : (rs : Int) / (k : Int) = ((rs / k : Nat) : Int) := rfl
  have s3 : (rs : Int).tmod (k : Int) = ((rs % k : Nat) : Int) := rfl
  have s4 : (rs : Int) % (k : Int) = ((rs % k : Nat) : Int) := rfl
  generalize rs / k = sq at *
  generalize rs % k = sr at *
  have HQ := Lib.hid (And.intro s1 (And.intro s2 (And.intro s3 s4)))
  clear s1 s2 s3 s4
  have hfar : ∀ h : 0 < wh, (1000000000000 / (wh : Int) < (a : Int)) ↔ 1000000000000 < wh * a := fun h => quo_test h
  by_cases hov : 0 < wh ∧ 1000000000000 < a * wh
  · have HD := Lib.hid (HF.out (a * wh + sq) HSp.out.1 (by omega))
    obtain ⟨w0, hov2⟩ := hov
    have hgt : 1000000000000 / (wh : Int) < (a : Int) := (hfar w0).2 (by rw [Nat.mul_comm]; exact hov2)
    have wne : wh ≠ 0 := by omega
    have wneI : (wh : Int) ≠ 0 := by omega
    clear hfar
    go_wp2_with fail
    all_goals try (exfalso; omega)
    go_ret2
    exact ⟨ret_tup2 HD.out, HB3.out⟩
  · have hle : a * wh ≤ 1000000000000 := by
      rcases Nat.eq_zero_or_pos wh with h | h
      · rw [h]; omega
      · omega
    have hng : 0 < wh → ¬ (1000000000000 / (wh : Int) < (a : Int)) := fun h h' => by have := (hfar h).1 h'; rw [Nat.mul_comm] at this; omega
    have HNG := Lib.hid hng
    have s7 : IntKind.i64.wrap ((a : Int) * (wh : Int)) = ((a * wh : Nat) : Int) := by rw [← Int.natCast_mul]; exact IntWalk.i64_in _ (by omega)
    have s8 : (a : Int) * (wh : Int) = ((a * wh : Nat) : Int) := rfl
    clear hfar hov hng
    generalize a * wh = aw at *
    have HI2 := Lib.hid (fun h v hv => HI.out (aw + sq) sr HSp.out.1 HSp.out.2 h v hv)
    have HF2 := Lib.hid (fun h => HF.out (aw + sq) HSp.out.1 h)
    clear HI HF HSp
    obtain ⟨s1, s2, s3, s4⟩ := HQ.out
    have s5 : IntKind.i64.wrap (sq : Int) = (sq : Int) := IntWalk.i64_in _ (by omega)
    obtain ⟨X, hX⟩ : ∃ X : Int, (aw : Int) + (sq : Int) = X := ⟨_, rfl⟩
    have x1 : 0 ≤ X := by omega
    have x2 : X ≤ 1001000000000000 := by omega
    by_cases w0 : 0 < wh
    · have hgt := HNG.out w0
      have wne : wh ≠ 0 := by omega
      have wneI : (wh : Int) ≠ 0 := by omega
      have hsg : (p < 0 ∧ 0 < n) ∨ (p < 0 ∧ n ≤ 0) ∨ (0 ≤ p ∧ p ≤ 0) ∨ (0 < p ∧ n < 0) ∨ (0 < p ∧ 0 ≤ n) := by omega
      rcases hsg with ⟨g1, g2⟩ | ⟨g1, g2⟩ | ⟨g1, g2⟩ | ⟨g1, g2⟩ | ⟨g1, g2⟩
      · have HNB : Hid (negB p n = true) := by show negB p n = _; unfold negB; simp only [decide_eq_true (show (p < 0) by omega), decide_eq_false (show ¬ (0 < p) by omega)]; simp <;> omega
        have d0 : decide (p < 0) = true := decide_eq_true (by omega)
        have d1 : decide (0 < p) = false := decide_eq_false (by omega)
        have d2 : decide (0 < n) = true := decide_eq_true (by omega)
        by_cases hr : 0 < sr
        · by_cases hx : X + 1 ≤ 1000000000000
          · skip
            have HD := Lib.hid ((HI2.out (by omega) (-(X + 1)) (by rw [HNB.out, if_pos rfl, if_pos hr]; omega)).trans (if_pos (by omega)))
            go_wp2_with fail
            all_goals try (exfalso; omega)
            go_ret2
            exact ⟨ret_tup2 HD.out, HB3.out⟩
          · skip
            have HD := Lib.hid (show omR p (k : Int) n = (0, 8) by rcases Nat.lt_or_ge 1000000000000 (aw + sq) with h | h; exact HF2.out h; exact (HI2.out h (-(X + 1)) (by rw [HNB.out, if_pos rfl, if_pos hr]; omega)).trans (if_neg (by omega)))
            go_wp2_with fail
            all_goals try (exfalso; omega)
            go_ret2
            exact ⟨ret_tup2 HD.out, HB3.out⟩
        · have hr0 : ¬ (0 : Int) < (sr : Int) := by omega
          by_cases hx : X ≤ 1000000000000
          · skip
            have HD := Lib.hid ((HI2.out (by omega) (-X) (by rw [HNB.out, if_pos rfl, if_neg hr]; omega)).trans (if_pos (by omega)))
            go_wp2_with fail
            all_goals try (exfalso; omega)
            go_ret2
            exact ⟨ret_tup2 HD.out, HB3.out⟩
          · skip
            have HD := Lib.hid (HF2.out (by omega))
            go_wp2_with fail
            all_goals try (exfalso; omega)
            go_ret2
            exact ⟨ret_tup2 HD.out, HB3.out⟩
      · have HNB : Hid (negB p n = false) := by show negB p n = _; unfold negB; simp only [decide_eq_true (show (p < 0) by omega), decide_eq_false (show ¬ (0 < p) by omega)]; simp <;> omega
        have d0 : decide (p < 0) = true := decide_eq_true (by omega)
        have d1 : decide (0 < p) = false := decide_eq_false (by omega)
        have d2 : decide (0 < n) = false := decide_eq_false (by omega)
        by_cases hx : X ≤ 1000000000000
        · skip
          have HD := Lib.hid ((HI2.out (by omega) X (by rw [HNB.out, if_neg (by simp)]; omega)).trans (if_pos (by omega)))
          go_wp2_with fail
          all_goals try (exfalso; omega)
          go_ret2
          exact ⟨ret_tup2 HD.out, HB3.out⟩
        · skip
          have HD := Lib.hid (HF2.out (by omega))
          go_wp2_with fail
          all_goals try (exfalso; omega)
          go_ret2
          exact ⟨ret_tup2 HD.out, HB3.out⟩
      · have HNB : Hid (negB p n = false) := by show negB p n = _; unfold negB; simp only [decide_eq_false (show ¬ (p < 0) by omega), decide_eq_false (show ¬ (0 < p) by omega)]; simp <;> omega
        have d0 : decide (p < 0) = false := decide_eq_false (by omega)
        have d1 : decide (0 < p) = false := decide_eq_false (by omega)
        by_cases hx : X ≤ 1000000000000
        · skip
          have HD := Lib.hid ((HI2.out (by omega) X (by rw [HNB.out, if_neg (by simp)]; omega)).trans (if_pos (by omega)))
          go_wp2_with fail
          all_goals try (exfalso; omega)
          go_ret2
          exact ⟨ret_tup2 HD.out, HB3.out⟩
        · skip
          have HD := Lib.hid (HF2.out (by omega))
          go_wp2_with fail
          all_goals try (exfalso; omega)
          go_ret2
          exact ⟨ret_tup2 HD.out, HB3.out⟩
      · have HNB : Hid (negB p n = true) := by show negB p n = _; unfold negB; simp only [decide_eq_false (show ¬ (p < 0) by omega), decide_eq_true (show (0 < p) by omega)]; simp <;> omega
        have d0 : decide (p < 0) = false := decide_eq_false (by omega)
        have d1 : decide (0 < p) = true := decide_eq_true (by omega)
        have d2 : decide (n < 0) = true := decide_eq_true (by omega)
        by_cases hr : 0 < sr
        · by_cases hx : X + 1 ≤ 1000000000000
          · skip
            have HD := Lib.hid ((HI2.out (by omega) (-(X + 1)) (by rw [HNB.out, if_pos rfl, if_pos hr]; omega)).trans (if_pos (by omega)))
            go_wp2_with fail
            all_goals try (exfalso; omega)
            go_ret2
            exact ⟨ret_tup2 HD.out, HB3.out⟩
          · skip
            have HD := Lib.hid (show omR p (k : Int) n = (0, 8) by rcases Nat.lt_or_ge 1000000000000 (aw + sq) with h | h; exact HF2.out h; exact (HI2.out h (-(X + 1)) (by rw [HNB.out, if_pos rfl, if_pos hr]; omega)).trans (if_neg (by omega)))
            go_wp2_with fail
            all_goals try (exfalso; omega)
            go_ret2
            exact ⟨ret_tup2 HD.out, HB3.out⟩
        · have hr0 : ¬ (0 : Int) < (sr : Int) := by omega
          by_cases hx : X ≤ 1000000000000
          · skip
            have HD := Lib.hid ((HI2.out (by omega) (-X) (by rw [HNB.out, if_pos rfl, if_neg hr]; omega)).trans (if_pos (by omega)))
            go_wp2_with fail
            all_goals try (exfalso; omega)
            go_ret2
            exact ⟨ret_tup2 HD.out, HB3.out⟩
          · skip
            have HD := Lib.hid (HF2.out (by omega))
            go_wp2_with fail
            all_goals try (exfalso; omega)
            go_ret2
            exact ⟨ret_tup2 HD.out, HB3.out⟩
      · have HNB : Hid (negB p n = false) := by show negB p n = _; unfold negB; simp only [decide_eq_false (show ¬ (p < 0) by omega), decide_eq_true (show (0 < p) by omega)]; simp <;> omega
        have d0 : decide (p < 0) = false := decide_eq_false (by omega)
        have d1 : decide (0 < p) = true := decide_eq_true (by omega)
        have d2 : decide (n < 0) = false := decide_eq_false (by omega)
        by_cases hx : X ≤ 1000000000000
        · skip
          have HD := Lib.hid ((HI2.out (by omega) X (by rw [HNB.out, if_neg (by simp)]; omega)).trans (if_pos (by omega)))
          go_wp2_with fail
          all_goals try (exfalso; omega)
          go_ret2
          exact ⟨ret_tup2 HD.out, HB3.out⟩
        · skip
          have HD := Lib.hid (HF2.out (by omega))
          go_wp2_with fail
          all_goals try (exfalso; omega)
          go_ret2
          exact ⟨ret_tup2 HD.out, HB3.out⟩
    · skip
      have hsg : (p < 0 ∧ 0 < n) ∨ (p < 0 ∧ n ≤ 0) ∨ (0 ≤ p ∧ p ≤ 0) ∨ (0 < p ∧ n < 0) ∨ (0 < p ∧ 0 ≤ n) := by omega
      rcases hsg with ⟨g1, g2⟩ | ⟨g1, g2⟩ | ⟨g1, g2⟩ | ⟨g1, g2⟩ | ⟨g1, g2⟩
      · have HNB : Hid (negB p n = true) := by show negB p n = _; unfold negB; simp only [decide_eq_true (show (p < 0) by omega), decide_eq_false (show ¬ (0 < p) by omega)]; simp <;> omega
        have d0 : decide (p < 0) = true := decide_eq_true (by omega)
        have d1 : decide (0 < p) = false := decide_eq_false (by omega)
        have d2 : decide (0 < n) = true := decide_eq_true (by omega)
        by_cases hr : 0 < sr
        · by_cases hx : X + 1 ≤ 1000000000000
          · skip
            have HD := Lib.hid ((HI2.out (by omega) (-(X + 1)) (by rw [HNB.out, if_pos rfl, if_pos hr]; omega)).trans (if_pos (by omega)))
            go_wp2_with fail
            all_goals try (exfalso; omega)
            go_ret2
            exact ⟨ret_tup2 HD.out, HB3.out⟩
          · skip
            have HD := Lib.hid (show omR p (k : Int) n = (0, 8) by rcases Nat.lt_or_ge 1000000000000 (aw + sq) with h | h; exact HF2.out h; exact (HI2.out h (-(X + 1)) (by rw [HNB.out, if_pos rfl, if_pos hr]; omega)).trans (if_neg (by omega)))
            go_wp2_with fail
            all_goals try (exfalso; omega)
            go_ret2
            exact ⟨ret_tup2 HD.out, HB3.out⟩
        · have hr0 : ¬ (0 : Int) < (sr : Int) := by omega
          by_cases hx : X ≤ 1000000000000
          · skip
            have HD := Lib.hid ((HI2.out (by omega) (-X) (by rw [HNB.out, if_pos rfl, if_neg hr]; omega)).trans (if_pos (by omega)))
            go_wp2_with fail
            all_goals try (exfalso; omega)
            go_ret2
            exact ⟨ret_tup2 HD.out, HB3.out⟩
          · skip
            have HD := Lib.hid (HF2.out (by omega))
            go_wp2_with fail
            all_goals try (exfalso; omega)
            go_ret2
            exact ⟨ret_tup2 HD.out, HB3.out⟩
      · have HNB : Hid (negB p n = false) := by show negB p n = _; unfold negB; simp only [decide_eq_true (show (p < 0) by omega), decide_eq_false (show ¬ (0 < p) by omega)]; simp <;> omega
        have d0 : decide (p < 0) = true := decide_eq_true (by omega)
        have d1 : decide (0 < p) = false := decide_eq_false (by omega)
        have d2 : decide (0 < n) = false := decide_eq_false (by omega)
        by_cases hx : X ≤ 1000000000000
        · skip
          have HD := Lib.hid ((HI2.out (by omega) X (by rw [HNB.out, if_neg (by simp)]; omega)).trans (if_pos (by omega)))
          go_wp2_with fail
          all_goals try (exfalso; omega)
          go_ret2
          exact ⟨ret_tup2 HD.out, HB3.out⟩
        · skip
          have HD := Lib.hid (HF2.out (by omega))
          go_wp2_with fail
          all_goals try (exfalso; omega)
          go_ret2
          exact ⟨ret_tup2 HD.out, HB3.out⟩
      · have HNB : Hid (negB p n = false) := by show negB p n = _; unfold negB; simp only [decide_eq_false (show ¬ (p < 0) by omega), decide_eq_false (show ¬ (0 < p) by omega)]; simp <;> omega
        have d0 : decide (p < 0) = false := decide_eq_false (by omega)
        have d1 : decide (0 < p) = false := decide_eq_false (by omega)
        by_cases hx : X ≤ 1000000000000
        · skip
          have HD := Lib.hid ((HI2.out (by omega) X (by rw [HNB.out, if_neg (by simp)]; omega)).trans (if_pos (by omega)))
          go_wp2_with fail
          all_goals try (exfalso; omega)
          go_ret2
          exact ⟨ret_tup2 HD.out, HB3.out⟩
        · skip
          have HD := Lib.hid (HF2.out (by omega))
          go_wp2_with fail
          all_goals try (exfalso; omega)
          go_ret2
          exact ⟨ret_tup2 HD.out, HB3.out⟩
      · have HNB : Hid (negB p n = true) := by show negB p n = _; unfold negB; simp only [decide_eq_false (show ¬ (p < 0) by omega), decide_eq_true (show (0 < p) by omega)]; simp <;> omega
        have d0 : decide (p < 0) = false := decide_eq_false (by omega)
        have d1 : decide (0 < p) = true := decide_eq_true (by omega)
        have d2 : decide (n < 0) = true := decide_eq_true (by omega)
        by_cases hr : 0 < sr
        · by_cases hx : X + 1 ≤ 1000000000000
          · skip
            have HD := Lib.hid ((HI2.out (by omega) (-(X + 1)) (by rw [HNB.out, if_pos rfl, if_pos hr]; omega)).trans (if_pos (by omega)))
            go_wp2_with fail
            all_goals try (exfalso; omega)
            go_ret2
            exact ⟨ret_tup2 HD.out, HB3.out⟩
          · skip
            have HD := Lib.hid (show omR p (k : Int) n = (0, 8) by rcases Nat.lt_or_ge 1000000000000 (aw + sq) with h | h; exact HF2.out h; exact (HI2.out h (-(X + 1)) (by rw [HNB.out, if_pos rfl, if_pos hr]; omega)).trans (if_neg (by omega)))
            go_wp2_with fail
            all_goals try (exfalso; omega)
            go_ret2
            exact ⟨ret_tup2 HD.out, HB3.out⟩
        · have hr0 : ¬ (0 : Int) < (sr : Int) := by omega
          by_cases hx : X ≤ 1000000000000
          · skip
            have HD := Lib.hid ((HI2.out (by omega) (-X) (by rw [HNB.out, if_pos rfl, if_neg hr]; omega)).trans (if_pos (by omega)))
            go_wp2_with fail
            all_goals try (exfalso; omega)
            go_ret2
            exact ⟨ret_tup2 HD.out, HB3.out⟩
          · skip
            have HD := Lib.hid (HF2.out (by omega))
            go_wp2_with fail
            all_goals try (exfalso; omega)
            go_ret2
            exact ⟨ret_tup2 HD.out, HB3.out⟩
      · have HNB : Hid (negB p n = false) := by show negB p n = _; unfold negB; simp only [decide_eq_false (show ¬ (p < 0) by omega), decide_eq_true (show (0 < p) by omega)]; simp <;> omega
        have d0 : decide (p < 0) = false := decide_eq_false (by omega)
        have d1 : decide (0 < p) = true := decide_eq_true (by omega)
        have d2 : decide (n < 0) = false := decide_eq_false (by omega)
        by_cases hx : X ≤ 1000000000000
        · skip
          have HD := Lib.hid ((HI2.out (by omega) X (by rw [HNB.out, if_neg (by simp)]; omega)).trans (if_pos (by omega)))
          go_wp2_with fail
          all_goals try (exfalso; omega)
          go_ret2
          exact ⟨ret_tup2 HD.out, HB3.out⟩
        · skip
          have HD := Lib.hid (HF2.out (by omega))
          go_wp2_with fail
          all_goals try (exfalso; omega)
          go_ret2
          exact ⟨ret_tup2 HD.out, HB3.out⟩
end Go.Proofs.YtpkekfhnpcjgkaaDoor
