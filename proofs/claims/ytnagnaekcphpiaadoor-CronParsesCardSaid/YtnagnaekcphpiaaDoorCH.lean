/- cron: number of both sides; the reference's split. -/
import Derived.Test.YtnagnaekcphpiaaDoorCG
import Derived.Test.YtnagnaekcphpiaaDoorShelf
import Derived.Lib.AtoiErrMem
namespace Go.Proofs.YtnagnaekcphpiaaDoor
open Go.RowKit
open Go.Sort (grow)

theorem dec_mag : ∀ (l : List UInt8) (acc : Nat), l.all isDg = true → Lib.decFrom acc l = some (magF acc l)
  | [], acc, _ => by rw [Lib.decFrom, magF_nil]
  | c :: r, acc, h => by
    rw [List.all_cons, Bool.and_eq_true] at h
    have hc : 48 ≤ c.toNat ∧ c.toNat ≤ 57 := by simpa [isDg] using h.1
    rw [Lib.decFrom, Lib.digitVal, if_pos hc]
    rw [magF_cons]
    exact dec_mag r _ h.2
theorem atoi_mag {l : List UInt8} (h : l.all isDg = true) (h0 : l ≠ []) : Lib.atoi l = some ((magF 0 l : Nat) : Int) := by
  cases l with
  | nil => exact absurd rfl h0
  | cons c r =>
    have hc : 48 ≤ c.toNat ∧ c.toNat ≤ 57 := by
      rw [List.all_cons, Bool.and_eq_true] at h
      simpa [isDg] using h.1
    rw [Lib.atoi, if_neg (by intro e; have := eq_of_beq e; subst this; exact absurd hc.1 (by decide)), if_neg (by intro e; have := eq_of_beq e; subst this; exact absurd hc.1 (by decide))]
    rw [Lib.decNat, if_neg (by simp), dec_mag _ _ h]
    rfl
theorem mag_lt : ∀ (l : List UInt8) (acc : Nat), l.all isDg = true → magF acc l < (acc + 1) * 10 ^ l.length
  | [], acc, _ => by rw [magF_nil]; simp
  | c :: r, acc, h => by
    rw [List.all_cons, Bool.and_eq_true] at h
    have hc : 48 ≤ c.toNat ∧ c.toNat ≤ 57 := by simpa [isDg] using h.1
    rw [magF_cons]
    refine Nat.lt_of_lt_of_le (mag_lt r _ h.2) ?_
    rw [List.length_cons, Nat.pow_succ, Nat.mul_comm (10 ^ r.length) 10, ← Nat.mul_assoc]
    exact Nat.mul_le_mul_right _ (by omega)
theorem all_step {s : ByteArray} {k : Nat} (hk : k < s.size) : (s.data.toList.take (k + 1)).all isDg = ((s.data.toList.take k).all isDg && isDg s[k]) := by
  rw [take_snoc s k hk, List.all_append]; simp
theorem dg_not {s : ByteArray} {k : Nat} (hk : k < s.size) (h : isDg s[k] = false) : s.data.toList.all isDg = false := by
  rw [← Bool.not_eq_true, List.all_eq_true]
  intro hh
  have := hh s[k] (List.mem_of_getElem? (byte_at s k hk))
  rw [h] at this
  cases this
theorem dg_yes {c : UInt8} (h : 48 ≤ c.toNat ∧ c.toNat ≤ 57) : isDg c = true := by simp [isDg, h.1, h.2]
theorem dg_no {c : UInt8} (h : ¬ (48 ≤ c.toNat ∧ c.toNat ≤ 57)) : isDg c = false := by
  unfold isDg
  rw [← Bool.not_eq_true, Bool.and_eq_true, decide_eq_true_eq, decide_eq_true_eq]
  exact h
/-- What number answers for a text. -/
def numB (s : ByteArray) : Nat × Bool := numS s.data.toList
theorem numB_nil : numB ⟨#[]⟩ = (0, false) := num_nil
theorem numB_zero {s : ByteArray} (h1 : 1 < s.size) (h : s[0] = 48) : numB s = (0, false) := by
  unfold numB numS
  have h0 : s.data.toList.head? = some 48 := by
    rw [List.head?_eq_getElem?, byte_at s 0 (by omega), h]
  rw [if_pos]
  rw [h0, size_len, decide_eq_true h1]
  simp
theorem numB_bad {s : ByteArray} (h : s.data.toList.all isDg = false) : numB s = (0, false) := by
  unfold numB numS
  rw [if_pos (by rw [h]; simp)]
theorem numB_good {s : ByteArray} (h1 : 1 ≤ s.size) (h2 : s.size = 1 ∨ s[0]? ≠ some 48) (h : s.data.toList.all isDg = true) : numB s = (if 9 < s.size then 1000000000 else magF 0 s.data.toList, true) := by
  unfold numB numS
  rw [size_len, h, if_neg]
  have he : s.data.toList.isEmpty = false := by
    rw [List.isEmpty_eq_false_iff]
    intro e
    have := size_len s
    rw [e] at this
    simp at this
    omega
  rw [he]
  simp only [Bool.false_or, Bool.not_true, Bool.or_false, Bool.and_eq_true, decide_eq_true_eq, not_and]
  intro h3 h4
  rcases h2 with h2 | h2
  · omega
  · apply h2
    rw [← eq_of_beq h4, List.head?_eq_getElem?, byte_at s 0 (by omega)]
    rw [getElem?_pos s 0 (by omega)]
def tupN (x : Nat × Bool) : Value := .tuple #[.int .i64 (x.1 : Int), .bool x.2]
theorem ret_tupN {x : Nat × Bool} {a : Nat} {b : Bool} (h : x = (a, b)) : Ending.returned (.tuple #[.int .i64 (a : Int), .bool b]) = .returned (tupN x) := by subst h; rfl
theorem ret_tupN0 {x : Nat × Bool} {b : Bool} (h : x = (0, b)) : Ending.returned (.tuple #[.int .i64 0, .bool b]) = .returned (tupN x) := by subst h; rfl
theorem ret_tupN9 {x : Nat × Bool} {b : Bool} (h : x = (1000000000, b)) : Ending.returned (.tuple #[.int .i64 1000000000, .bool b]) = .returned (tupN x) := by subst h; rfl
theorem ba_nil {s : ByteArray} (h : s.size = 0) : s = ⟨#[]⟩ := by
  apply ba_ext
  have := size_len s
  rw [h] at this
  rw [List.eq_nil_of_length_eq_zero this]
theorem tl_nil {s : ByteArray} (h : 1 ≤ s.size) : (s.toList == []) = false := by
  rw [ByteArray.toList_eq, beq_eq_false_iff_ne]
  intro e
  have := size_len s
  rw [e] at this
  simp at this
  omega
set_option maxHeartbeats 2000000 in
set_option maxRecDepth 20000 in
theorem number_any (s : ByteArray) (w : World) (hs : s.size ≤ 1048576) : Calls Tryd.prog 41 #[.string s] w fun e w' => e = .returned (tupN (numB s)) ∧ Below w.heap.size w w' := by
  by_cases hz : s.size = 0
  · obtain rfl := ba_nil hz
    go_enter Tryd.func41, Tryd.ntmps41
    go_wp2_with fail
    go_ret2
    exact ⟨ret_tupN0 numB_nil, Below.refl _ _⟩
  · have hz1 : 1 ≤ s.size := by omega
    have HT := Lib.hid (tl_nil hz1)
    have tn := HT.out
    have tz : ((s.size : Int) == 0) = false := beq_eq_false_iff_ne.2 (by omega)
    have hp0 : (0 : Int) < s.size := by omega
    by_cases h0 : 1 < s.size ∧ s[0] = 48
    · have HD := Lib.hid (numB_zero h0.1 h0.2)
      have t1 : decide ((1 : Int) < s.size) = true := decide_eq_true (by omega)
      have t2 : ((s[0].toNat : Int) == 48) = true := beq_iff_eq.2 (by rw [h0.2]; rfl)
      clear h0
      go_enter Tryd.func41, Tryd.ntmps41
      go_wp2_with fail
      go_ret2
      exact ⟨ret_tupN0 HD.out, Below.refl _ _⟩
    · have HG := Lib.hid (show s.size = 1 ∨ s[0]? ≠ some 48 from by
        by_cases h1 : s.size = 1
        · exact .inl h1
        · refine .inr (fun e => h0 ⟨by omega, ?_⟩)
          rw [getElem?_pos s 0 (by omega)] at e
          exact Option.some.inj e)
      have t12 : (decide ((1 : Int) < s.size) = true ∧ ((s[0].toNat : Int) == 48) = false) ∨ decide ((1 : Int) < s.size) = false := by
        by_cases h1 : 1 < s.size
        · refine .inl ⟨decide_eq_true (by omega), beq_eq_false_iff_ne.2 fun e => h0 ⟨h1, UInt8.toNat_inj.1 (show s[0].toNat = 48 by omega)⟩⟩
        · exact .inr (decide_eq_false (by omega))
      clear h0
      go_enter Tryd.func41, Tryd.ntmps41
      rcases t12 with ⟨t1, t2⟩ | t1
      · skip
        go_wp2_with fail
        go_loopw [21] (fun i wr => ∃ k : Nat, k ≤ s.size ∧ i = .int .i64 k ∧ (s.data.toList.take k).all isDg = true ∧ w = wr) (fun i _ => s.size - (intOf i).toNat)
        case atStart => exact ⟨0, Nat.zero_le _, rfl, rfl, rfl⟩
        case round =>
          obtain ⟨k, hk, rfl, hall, rfl⟩ := hrel
          have HA := Lib.hid hall
          clear hall
          by_cases hlt : k < s.size
          · have hki : (k : Int) < s.size := by omega
            have hk0 : (0 : Int) ≤ k := by omega
            by_cases hd : 48 ≤ s[k].toNat ∧ s[k].toNat ≤ 57
            · have d1 : decide ((s[k].toNat : Int) < 48) = false := decide_eq_false (by omega)
              have d2 : decide ((57 : Int) < s[k].toNat) = false := decide_eq_false (by omega)
              have HN := Lib.hid (show (s.data.toList.take (k + 1)).all isDg = true from by rw [all_step hlt, HA.out, dg_yes hd]; rfl)
              clear hd
              go_wp2_with fail
              go_roundw
              case rel => exact ⟨k + 1, by omega, by go_num, HN.out, by first | rfl | trivial⟩
              case measure => simp [intOf]; omega
            · have HD := Lib.hid (numB_bad (dg_not hlt (dg_no hd)))
              by_cases hd1 : s[k].toNat < 48
              · have d1 : decide ((s[k].toNat : Int) < 48) = true := decide_eq_true (by omega)
                clear hd
                go_wp2_with fail
                go_ret2
                exact ⟨ret_tupN0 HD.out, Below.refl _ _⟩
              · have d1 : decide ((s[k].toNat : Int) < 48) = false := decide_eq_false (by omega)
                have d2 : decide ((57 : Int) < s[k].toNat) = true := decide_eq_true (by omega)
                clear hd hd1
                go_wp2_with fail
                go_ret2
                exact ⟨ret_tupN0 HD.out, Below.refl _ _⟩
          · have hki : ¬ (k : Int) < s.size := by omega
            obtain rfl : k = s.size := by omega
            have HW := Lib.hid (show s.data.toList.all isDg = true from by have := HA.out; rwa [take_size] at this)
            have HV := Lib.hid (numB_good hz1 HG.out HW.out)
            by_cases h9 : 9 < s.size
            · have d9 : decide ((9 : Int) < s.size) = true := decide_eq_true (by omega)
              have HD := Lib.hid (show numB s = (1000000000, true) from by rw [HV.out, if_pos h9])
              go_wp2_with fail
              go_ret2
              exact ⟨ret_tupN9 HD.out, Below.refl _ _⟩
            · have d9 : decide ((9 : Int) < s.size) = false := decide_eq_false (by omega)
              have HD := Lib.hid (show numB s = (magF 0 s.data.toList, true) from by rw [HV.out, if_neg h9])
              go_wp2_with fail
              refine (Tryd.strconv_Atoi s _ (by omega) (atoi_mag HW.out (by intro e; have := size_len s; rw [e] at this; simp at this; omega)) _).mono ?_
              rintro e w1 ⟨rfl, t, hw⟩
              have hb : Below w.heap.size w w1 := by rw [hw]; exact Lib.bytesWorld_below _ _ _
              have HB := Lib.hid hb
              clear hw hb
              obtain ⟨m, hm⟩ : ∃ m, magF 0 s.data.toList = m := ⟨_, rfl⟩
              rw [hm] at HD ⊢
              clear hm
              go_wp2_with fail
              go_quiet (fail)
              go_wp2_with fail
              go_ret2
              exact ⟨ret_tupN HD.out, HB.out.trans (below_drewN' w.heap.size w1 _)⟩
      · skip
        go_wp2_with fail
        go_loopw [21] (fun i wr => ∃ k : Nat, k ≤ s.size ∧ i = .int .i64 k ∧ (s.data.toList.take k).all isDg = true ∧ w = wr) (fun i _ => s.size - (intOf i).toNat)
        case atStart => exact ⟨0, Nat.zero_le _, rfl, rfl, rfl⟩
        case round =>
          obtain ⟨k, hk, rfl, hall, rfl⟩ := hrel
          have HA := Lib.hid hall
          clear hall
          by_cases hlt : k < s.size
          · have hki : (k : Int) < s.size := by omega
            have hk0 : (0 : Int) ≤ k := by omega
            by_cases hd : 48 ≤ s[k].toNat ∧ s[k].toNat ≤ 57
            · have d1 : decide ((s[k].toNat : Int) < 48) = false := decide_eq_false (by omega)
              have d2 : decide ((57 : Int) < s[k].toNat) = false := decide_eq_false (by omega)
              have HN := Lib.hid (show (s.data.toList.take (k + 1)).all isDg = true from by rw [all_step hlt, HA.out, dg_yes hd]; rfl)
              clear hd
              go_wp2_with fail
              go_roundw
              case rel => exact ⟨k + 1, by omega, by go_num, HN.out, by first | rfl | trivial⟩
              case measure => simp [intOf]; omega
            · have HD := Lib.hid (numB_bad (dg_not hlt (dg_no hd)))
              by_cases hd1 : s[k].toNat < 48
              · have d1 : decide ((s[k].toNat : Int) < 48) = true := decide_eq_true (by omega)
                clear hd
                go_wp2_with fail
                go_ret2
                exact ⟨ret_tupN0 HD.out, Below.refl _ _⟩
              · have d1 : decide ((s[k].toNat : Int) < 48) = false := decide_eq_false (by omega)
                have d2 : decide ((57 : Int) < s[k].toNat) = true := decide_eq_true (by omega)
                clear hd hd1
                go_wp2_with fail
                go_ret2
                exact ⟨ret_tupN0 HD.out, Below.refl _ _⟩
          · have hki : ¬ (k : Int) < s.size := by omega
            obtain rfl : k = s.size := by omega
            have HW := Lib.hid (show s.data.toList.all isDg = true from by have := HA.out; rwa [take_size] at this)
            have HV := Lib.hid (numB_good hz1 HG.out HW.out)
            by_cases h9 : 9 < s.size
            · have d9 : decide ((9 : Int) < s.size) = true := decide_eq_true (by omega)
              have HD := Lib.hid (show numB s = (1000000000, true) from by rw [HV.out, if_pos h9])
              go_wp2_with fail
              go_ret2
              exact ⟨ret_tupN9 HD.out, Below.refl _ _⟩
            · have d9 : decide ((9 : Int) < s.size) = false := decide_eq_false (by omega)
              have HD := Lib.hid (show numB s = (magF 0 s.data.toList, true) from by rw [HV.out, if_neg h9])
              go_wp2_with fail
              refine (Tryd.strconv_Atoi s _ (by omega) (atoi_mag HW.out (by intro e; have := size_len s; rw [e] at this; simp at this; omega)) _).mono ?_
              rintro e w1 ⟨rfl, t, hw⟩
              have hb : Below w.heap.size w w1 := by rw [hw]; exact Lib.bytesWorld_below _ _ _
              have HB := Lib.hid hb
              clear hw hb
              obtain ⟨m, hm⟩ : ∃ m, magF 0 s.data.toList = m := ⟨_, rfl⟩
              rw [hm] at HD ⊢
              clear hm
              go_wp2_with fail
              go_quiet (fail)
              go_wp2_with fail
              go_ret2
              exact ⟨ret_tupN HD.out, HB.out.trans (below_drewN' w.heap.size w1 _)⟩
set_option maxHeartbeats 2000000 in
set_option maxRecDepth 20000 in
theorem rnumber_any (s : ByteArray) (w : World) (hs : s.size ≤ 1048576) : Calls Tryd.prog 43 #[.string s] w fun e w' => e = .returned (tupN (numB s)) ∧ Below w.heap.size w w' := by
  by_cases hz : s.size = 0
  · obtain rfl := ba_nil hz
    go_enter Tryd.func43, Tryd.ntmps43
    go_wp2_with fail
    go_ret2
    exact ⟨ret_tupN0 numB_nil, Below.refl _ _⟩
  · have hz1 : 1 ≤ s.size := by omega
    have HT := Lib.hid (tl_nil hz1)
    have tn := HT.out
    have tz : ((s.size : Int) == 0) = false := beq_eq_false_iff_ne.2 (by omega)
    have hp0 : (0 : Int) < s.size := by omega
    by_cases h0 : 1 < s.size ∧ s[0] = 48
    · have HD := Lib.hid (numB_zero h0.1 h0.2)
      have t1 : decide ((1 : Int) < s.size) = true := decide_eq_true (by omega)
      have t2 : ((s[0].toNat : Int) == 48) = true := beq_iff_eq.2 (by rw [h0.2]; rfl)
      clear h0
      go_enter Tryd.func43, Tryd.ntmps43
      go_wp2_with fail
      go_ret2
      exact ⟨ret_tupN0 HD.out, Below.refl _ _⟩
    · have HG := Lib.hid (show s.size = 1 ∨ s[0]? ≠ some 48 from by
        by_cases h1 : s.size = 1
        · exact .inl h1
        · refine .inr (fun e => h0 ⟨by omega, ?_⟩)
          rw [getElem?_pos s 0 (by omega)] at e
          exact Option.some.inj e)
      have t12 : (decide ((1 : Int) < s.size) = true ∧ ((s[0].toNat : Int) == 48) = false) ∨ decide ((1 : Int) < s.size) = false := by
        by_cases h1 : 1 < s.size
        · refine .inl ⟨decide_eq_true (by omega), beq_eq_false_iff_ne.2 fun e => h0 ⟨h1, UInt8.toNat_inj.1 (show s[0].toNat = 48 by omega)⟩⟩
        · exact .inr (decide_eq_false (by omega))
      clear h0
      go_enter Tryd.func43, Tryd.ntmps43
      rcases t12 with ⟨t1, t2⟩ | t1
      · skip
        go_wp2_with fail
        go_loopw [4, 5] (fun n i wr => ∃ (k m : Nat), k ≤ s.size ∧ i = .int .i64 k ∧ n = .int .i64 m ∧ (m : Int) ≤ 1000000000 ∧ (k ≤ 9 → m = magF 0 (s.data.toList.take k)) ∧ (s.data.toList.take k).all isDg = true ∧ w = wr) (fun _ i _ => s.size - (intOf i).toNat)
        case atStart => exact ⟨0, 0, Nat.zero_le _, rfl, rfl, by omega, fun _ => (magF_nil 0).symm, rfl, rfl⟩
        case round =>
          obtain ⟨k, m, hk, rfl, rfl, hm, hmag, hall, rfl⟩ := hrel
          have HMG := Lib.hid hmag
          clear hmag
          have HA := Lib.hid hall
          clear hall
          by_cases hlt : k < s.size
          · have hki : (k : Int) < s.size := by omega
            have hk0 : (0 : Int) ≤ k := by omega
            by_cases hd : 48 ≤ s[k].toNat ∧ s[k].toNat ≤ 57
            · have d1 : decide ((s[k].toNat : Int) < 48) = false := decide_eq_false (by omega)
              have d2 : decide ((57 : Int) < s[k].toNat) = false := decide_eq_false (by omega)
              have HN := Lib.hid (show (s.data.toList.take (k + 1)).all isDg = true from by rw [all_step hlt, HA.out, dg_yes hd]; rfl)
              obtain ⟨d, hdd⟩ : ∃ d : Nat, s[k].toNat - 48 = d := ⟨_, rfl⟩
              have e1 : IntKind.u8.wrap ((s[k].toNat : Int) - 48) = (d : Int) := by rw [IntKind.wrap_u8]; omega
              have e2 : IntKind.i64.wrap (d : Int) = (d : Int) := by rw [IntKind.wrap_i64]; omega
              have e3 : IntKind.i64.wrap (10 * (m : Int)) = 10 * (m : Int) := by rw [IntKind.wrap_i64]; omega
              have e4 : IntKind.i64.wrap (10 * (m : Int) + (d : Int)) = ((m * 10 + d : Nat) : Int) := by rw [IntKind.wrap_i64]; omega
              have HS := Lib.hid (show magF 0 (s.data.toList.take (k + 1)) = magF 0 (s.data.toList.take k) * 10 + d from by rw [take_snoc s k hlt, magF_append, magF_cons, magF_nil, hdd])
              by_cases h8 : (m : Int) < 100000000
              · have d3 : decide ((m : Int) < 100000000) = true := decide_eq_true h8
                obtain ⟨m', hm'⟩ : ∃ m', m * 10 + d = m' := ⟨_, rfl⟩
                rw [hm'] at e4
                have HM := Lib.hid hm'
                have hmb : (m' : Int) ≤ 1000000000 := by omega
                clear hm' hdd hd
                go_wp2_with fail
                go_roundw
                case rel => exact ⟨k + 1, m', by omega, by go_num, rfl, hmb, fun h => by rw [HS.out, ← HMG.out (by omega), HM.out], HN.out, by first | rfl | trivial⟩
                case measure => simp [intOf]; omega
              · have d3 : decide ((m : Int) < 100000000) = false := decide_eq_false h8
                have HX := Lib.hid (show k + 1 ≤ 9 → False from fun h => by
                  have h9 := mag_lt (s.data.toList.take k) 0 HA.out
                  rw [← HMG.out (by omega), List.length_take, size_len, Nat.min_eq_left hk] at h9
                  have h10 : 10 ^ k ≤ 10 ^ 8 := Nat.pow_le_pow_right (by omega) (by omega)
                  have h11 : (10 : Nat) ^ 8 = 100000000 := by decide
                  omega)
                clear hdd hd
                go_wp2_with fail
                go_roundw
                case rel => exact ⟨k + 1, m, by omega, by go_num, rfl, hm, fun h => (HX.out h).elim, HN.out, by first | rfl | trivial⟩
                case measure => simp [intOf]; omega
            · have HD := Lib.hid (numB_bad (dg_not hlt (dg_no hd)))
              by_cases hd1 : s[k].toNat < 48
              · have d1 : decide ((s[k].toNat : Int) < 48) = true := decide_eq_true (by omega)
                clear hd
                go_wp2_with fail
                go_ret2
                exact ⟨ret_tupN0 HD.out, Below.refl _ _⟩
              · have d1 : decide ((s[k].toNat : Int) < 48) = false := decide_eq_false (by omega)
                have d2 : decide ((57 : Int) < s[k].toNat) = true := decide_eq_true (by omega)
                clear hd hd1
                go_wp2_with fail
                go_ret2
                exact ⟨ret_tupN0 HD.out, Below.refl _ _⟩
          · have hki : ¬ (k : Int) < s.size := by omega
            obtain rfl : k = s.size := by omega
            have HW := Lib.hid (show s.data.toList.all isDg = true from by have := HA.out; rwa [take_size] at this)
            have HV := Lib.hid (numB_good hz1 HG.out HW.out)
            by_cases h9 : 9 < s.size
            · have d9 : decide ((9 : Int) < s.size) = true := decide_eq_true (by omega)
              have HD := Lib.hid (show numB s = (1000000000, true) from by rw [HV.out, if_pos h9])
              go_wp2_with fail
              go_ret2
              exact ⟨ret_tupN9 HD.out, Below.refl _ _⟩
            · have d9 : decide ((9 : Int) < s.size) = false := decide_eq_false (by omega)
              have HD := Lib.hid (show numB s = (m, true) from by rw [HV.out, if_neg h9, HMG.out (by omega), take_size])
              go_wp2_with fail
              go_ret2
              exact ⟨ret_tupN HD.out, Below.refl _ _⟩
      · skip
        go_wp2_with fail
        go_loopw [4, 5] (fun n i wr => ∃ (k m : Nat), k ≤ s.size ∧ i = .int .i64 k ∧ n = .int .i64 m ∧ (m : Int) ≤ 1000000000 ∧ (k ≤ 9 → m = magF 0 (s.data.toList.take k)) ∧ (s.data.toList.take k).all isDg = true ∧ w = wr) (fun _ i _ => s.size - (intOf i).toNat)
        case atStart => exact ⟨0, 0, Nat.zero_le _, rfl, rfl, by omega, fun _ => (magF_nil 0).symm, rfl, rfl⟩
        case round =>
          obtain ⟨k, m, hk, rfl, rfl, hm, hmag, hall, rfl⟩ := hrel
          have HMG := Lib.hid hmag
          clear hmag
          have HA := Lib.hid hall
          clear hall
          by_cases hlt : k < s.size
          · have hki : (k : Int) < s.size := by omega
            have hk0 : (0 : Int) ≤ k := by omega
            by_cases hd : 48 ≤ s[k].toNat ∧ s[k].toNat ≤ 57
            · have d1 : decide ((s[k].toNat : Int) < 48) = false := decide_eq_false (by omega)
              have d2 : decide ((57 : Int) < s[k].toNat) = false := decide_eq_false (by omega)
              have HN := Lib.hid (show (s.data.toList.take (k + 1)).all isDg = true from by rw [all_step hlt, HA.out, dg_yes hd]; rfl)
              obtain ⟨d, hdd⟩ : ∃ d : Nat, s[k].toNat - 48 = d := ⟨_, rfl⟩
              have e1 : IntKind.u8.wrap ((s[k].toNat : Int) - 48) = (d : Int) := by rw [IntKind.wrap_u8]; omega
              have e2 : IntKind.i64.wrap (d : Int) = (d : Int) := by rw [IntKind.wrap_i64]; omega
              have e3 : IntKind.i64.wrap (10 * (m : Int)) = 10 * (m : Int) := by rw [IntKind.wrap_i64]; omega
              have e4 : IntKind.i64.wrap (10 * (m : Int) + (d : Int)) = ((m * 10 + d : Nat) : Int) := by rw [IntKind.wrap_i64]; omega
              have HS := Lib.hid (show magF 0 (s.data.toList.take (k + 1)) = magF 0 (s.data.toList.take k) * 10 + d from by rw [take_snoc s k hlt, magF_append, magF_cons, magF_nil, hdd])
              by_cases h8 : (m : Int) < 100000000
              · have d3 : decide ((m : Int) < 100000000) = true := decide_eq_true h8
                obtain ⟨m', hm'⟩ : ∃ m', m * 10 + d = m' := ⟨_, rfl⟩
                rw [hm'] at e4
                have HM := Lib.hid hm'
                have hmb : (m' : Int) ≤ 1000000000 := by omega
                clear hm' hdd hd
                go_wp2_with fail
                go_roundw
                case rel => exact ⟨k + 1, m', by omega, by go_num, rfl, hmb, fun h => by rw [HS.out, ← HMG.out (by omega), HM.out], HN.out, by first | rfl | trivial⟩
                case measure => simp [intOf]; omega
              · have d3 : decide ((m : Int) < 100000000) = false := decide_eq_false h8
                have HX := Lib.hid (show k + 1 ≤ 9 → False from fun h => by
                  have h9 := mag_lt (s.data.toList.take k) 0 HA.out
                  rw [← HMG.out (by omega), List.length_take, size_len, Nat.min_eq_left hk] at h9
                  have h10 : 10 ^ k ≤ 10 ^ 8 := Nat.pow_le_pow_right (by omega) (by omega)
                  have h11 : (10 : Nat) ^ 8 = 100000000 := by decide
                  omega)
                clear hdd hd
                go_wp2_with fail
                go_roundw
                case rel => exact ⟨k + 1, m, by omega, by go_num, rfl, hm, fun h => (HX.out h).elim, HN.out, by first | rfl | trivial⟩
                case measure => simp [intOf]; omega
            · have HD := Lib.hid (numB_bad (dg_not hlt (dg_no hd)))
              by_cases hd1 : s[k].toNat < 48
              · have d1 : decide ((s[k].toNat : Int) < 48) = true := decide_eq_true (by omega)
                clear hd
                go_wp2_with fail
                go_ret2
                exact ⟨ret_tupN0 HD.out, Below.refl _ _⟩
              · have d1 : decide ((s[k].toNat : Int) < 48) = false := decide_eq_false (by omega)
                have d2 : decide ((57 : Int) < s[k].toNat) = true := decide_eq_true (by omega)
                clear hd hd1
                go_wp2_with fail
                go_ret2
                exact ⟨ret_tupN0 HD.out, Below.refl _ _⟩
          · have hki : ¬ (k : Int) < s.size := by omega
            obtain rfl : k = s.size := by omega
            have HW := Lib.hid (show s.data.toList.all isDg = true from by have := HA.out; rwa [take_size] at this)
            have HV := Lib.hid (numB_good hz1 HG.out HW.out)
            by_cases h9 : 9 < s.size
            · have d9 : decide ((9 : Int) < s.size) = true := decide_eq_true (by omega)
              have HD := Lib.hid (show numB s = (1000000000, true) from by rw [HV.out, if_pos h9])
              go_wp2_with fail
              go_ret2
              exact ⟨ret_tupN9 HD.out, Below.refl _ _⟩
            · have d9 : decide ((9 : Int) < s.size) = false := decide_eq_false (by omega)
              have HD := Lib.hid (show numB s = (m, true) from by rw [HV.out, if_neg h9, HMG.out (by omega), take_size])
              go_wp2_with fail
              go_ret2
              exact ⟨ret_tupN HD.out, Below.refl _ _⟩
set_option maxHeartbeats 2000000 in
set_option maxRecDepth 20000 in
theorem split_own (c : UInt8) (s : ByteArray) (w : World) (hs : s.size ≤ 1048576) :
    Calls Tryd.prog 27 #[.string s, .int .u8 (c.toNat : Int)] w fun e w' => ∃ v, e = .returned v ∧ OwnS w' w.heap.size v (pcs c s) ∧ Below w.heap.size w w' := by
  obtain ⟨i0, ih, iz0, iz1, iz2⟩ := info_parts info_str
  go_enter Tryd.func27, Tryd.ntmps27
  go_wp2_with fail
  go_loopw [5, 6, 7] (fun v f i wr => ∃ (k n : Nat) (P : List ByteArray), i = .int .i64 k ∧ f = .int .i64 n ∧ CutRel c s k n P ∧ OwnS wr w.heap.size v P ∧ Below w.heap.size w wr) (fun _ _ i _ => s.size - (intOf i).toNat)
  case atStart => exact ⟨0, 0, [], rfl, rfl, CutRel.start c s, OwnS.nil _ _, Below.refl _ _⟩
  case round =>
    obtain ⟨k, n, P, rfl, rfl, hrel', hv, hbr⟩ := hrel
    obtain ⟨v, rfl⟩ : ∃ v : Value, v = u5 := ⟨_, rfl⟩
    have HR := Lib.hid hbr
    have HV := Lib.hid hv
    have hzr := hbr.size
    have HC := Lib.hid hrel'
    obtain ⟨hnk, hks, hpl, -⟩ := hrel'
    clear hbr hv
    by_cases hlt : k < s.size
    · by_cases he : s[k] = c
      · have hbe : ((s[k].toNat : Int) == (c.toNat : Int)) = true := beq_iff_eq.2 (by rw [he])
        have HN := Lib.hid (HC.out.hit hlt he)
        clear he
        go_wp2_with (at_builtin; go_loud (refine wpList_append_own _ rfl (.tmp 19) (.tmp 24) 43 rfl w.heap.size 9 i0 (.string ⟨#[]⟩) 1 16 Tryd.underlying43 ih iz0 iz1 iz2 rfl (by decide) _ P.length (svals P) rfl (HV.out.alloc _) ⟨wr.heap.size, 0, none⟩ 1 1 [.string (s.extract n k)] rfl rfl (cells_new_at rfl) (by intro u hu; simp at hu; subst hu; rfl) (by simp only [maxLen]; omega) (by omega) (by simp; omega) ?_); intro v' wn hown1 hgr hiff; clear hiff; have HG := Lib.hid (And.intro hown1 hgr); clear hown1 hgr)
        have hlow : Below w.heap.size w wn := ((HR.out).alloc (by omega) _).grown HG.out.2 (by simp; omega) (fun q hq => (HV.out.lt q hq).1)
        have hown := HG.out.1
        have HF := Lib.hid (And.intro (OwnS.push hown) hlow)
        clear hlow hown HG
        go_wp2_with fail
        go_roundw
        case rel => exact ⟨k + 1, k + 1, P ++ [s.extract n k], by go_num, by go_num, HN.out, HF.out.1, HF.out.2⟩
        case measure => simp [intOf]; omega
      · have hbe : ((s[k].toNat : Int) == (c.toNat : Int)) = false := beq_eq_false_iff_ne.2 (fun e => he (UInt8.toNat_inj.1 (by omega)))
        have HN := Lib.hid (HC.out.miss hlt he)
        clear he
        go_wp2_with fail
        go_roundw
        case rel => exact ⟨k + 1, n, P, by go_num, rfl, HN.out, HV.out, HR.out⟩
        case measure => simp [intOf]; omega
    · obtain rfl : k = s.size := by omega
      have HN := Lib.hid HC.out.done
      go_wp2_with (at_builtin; go_loud (refine wpList_append_own _ rfl (.tmp 28) (.tmp 32) 43 rfl w.heap.size 9 i0 (.string ⟨#[]⟩) 1 16 Tryd.underlying43 ih iz0 iz1 iz2 rfl (by decide) _ P.length (svals P) rfl (HV.out.alloc _) ⟨wr.heap.size, 0, none⟩ 1 1 [.string (s.extract n s.size)] rfl rfl (cells_new_at rfl) (by intro u hu; simp at hu; subst hu; rfl) (by simp only [maxLen]; omega) (by omega) (by simp; omega) ?_); intro v' wn hown1 hgr hiff; clear hiff; have HG := Lib.hid (And.intro hown1 hgr); clear hown1 hgr)
      have hlow : Below w.heap.size w wn := ((HR.out).alloc (by omega) _).grown HG.out.2 (by simp; omega) (fun q hq => (HV.out.lt q hq).1)
      have hown := HG.out.1
      have HF := Lib.hid (And.intro (OwnS.push hown) hlow)
      clear hlow hown HG
      go_wp2_with fail
      go_ret
      exact ⟨_, rfl, by rw [← HN.out]; exact HF.out.1, HF.out.2⟩
theorem split_any (c : UInt8) (s : ByteArray) (w : World) (hs : s.size ≤ 1048576) :
    Calls Tryd.prog 27 #[.string s, .int .u8 (c.toNat : Int)] w fun e w' => (∃ g cap, e = .returned (.slice (some ⟨g, 0, none⟩) (pcs c s).length cap) ∧ StrsAt w' w.heap.size g (pcs c s)) ∧ Below w.heap.size w w' := by
  refine (split_own c s w hs).mono ?_
  rintro e w' ⟨v, rfl, ho, hb⟩
  obtain ⟨g, cap, rfl, h⟩ := ho.at_ (pcs_pos c s)
  exact ⟨⟨g, cap, rfl, h⟩, hb⟩
end Go.Proofs.YtnagnaekcphpiaaDoor
