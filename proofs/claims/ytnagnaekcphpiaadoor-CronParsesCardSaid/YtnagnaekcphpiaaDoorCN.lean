/- cron: the laws CronSpans, CronWeeks. -/
import Derived.Test.YtnagnaekcphpiaaDoorCM
namespace Go.Proofs.YtnagnaekcphpiaaDoor
open Go.RowKit
open Go.Sort (grow)

theorem ints_any (p p' : Option Addr) (k k' n n' : Nat) (l : List Int) (w : World) (hn : n = l.length) (hn' : n' = l.length) (h : Reads w w.heap.size 1 p l.length (ivals l)) (h' : Reads w w.heap.size 1 p' l.length (ivals l)) (hb : l.length ≤ 1000) :
    Calls Tryd.prog 22 #[.slice p n k, .slice p' n' k'] w fun e w' => e = .returned (.bool true) ∧ Below w.heap.size w w' := by
  subst hn hn'
  have HR := Lib.hid h
  have HR' := Lib.hid h'
  clear h h'
  go_enter Tryd.func22, Tryd.ntmps22
  go_wp2_with fail
  go_loopw [13] (fun i wr => ∃ k n : Nat, k ≤ l.length ∧ i = .int .i64 k ∧ wr = w.drewN n) (fun i _ => l.length - (intOf i).toNat)
  case atStart => exact ⟨0, 0, Nat.zero_le _, rfl, rfl⟩
  case round =>
    obtain ⟨k, nq, hk, rfl, rfl⟩ := hrel
    by_cases hlt : k < l.length
    · obtain ⟨b, o, b', o', x, rfl, rfl, p0, q0⟩ := reads_eq HR.out HR'.out hlt
      have hltI : (k : Int) < l.length := by omega
      have hk0 : (0 : Int) ≤ k := by omega
      go_wp2_with fail
      go_quiet (fail)
      go_wp2_with fail
      go_roundw
      case rel => exact ⟨k + 1, _, by omega, by go_num, by first | rfl | rw [World.drewN_drewN]⟩
      case measure => simp [intOf]; omega
    · go_wp2_with fail
      go_ret
      exact ⟨rfl, below_drewN' _ _ _⟩
theorem Between_lit (c : Cr) (fr to : Int) (l : List Int) (n : Int) (h : betS c fr to = (l, n)) (w : World) (hu : U64 c) (hf : -9223372036854775808 ≤ fr ∧ fr ≤ 9223372036854775807) : Calls Tryd.prog 20 #[.agg #[.int .u64 c.mi, .int .u64 c.ho, .int .u64 c.da], .int .i64 fr, .int .i64 to] w fun e w' => (∃ p k, e = .returned (.tuple #[.slice p l.length k, .int .i64 n]) ∧ Reads w' w'.heap.size 1 p l.length (ivals l)) ∧ Below w.heap.size w w' := by
  have h2 := Between_any c fr to w hu hf
  rw [h] at h2
  exact h2
theorem rBetween_lit (c : Cr) (fr to : Int) (l : List Int) (n : Int) (h : betS c fr to = (l, n)) (w : World) (hu : U64 c) (hf : -9223372036854775808 ≤ fr ∧ fr ≤ 9223372036854775807) : Calls Tryd.prog 21 #[.agg #[.int .u64 c.mi, .int .u64 c.ho, .int .u64 c.da], .int .i64 fr, .int .i64 to] w fun e w' => (∃ p k, e = .returned (.tuple #[.slice p l.length k, .int .i64 n]) ∧ Reads w' w'.heap.size 1 p l.length (ivals l)) ∧ Below w.heap.size w w' := by
  have h2 := rBetween_any c fr to w hu hf
  rw [h] at h2
  exact h2
theorem ivals_app (a b : List Int) : ivals (a ++ b) = ivals a ++ ivals b := List.map_append
theorem reads_on {w w' : World} {sz n : Nat} {A : Option Addr} {xs : List Value} (h : Reads w w.heap.size sz A n xs) (hb : Below w.heap.size w w') : Reads w' w'.heap.size sz A n xs := (h.below hb).more hb.size
theorem own_lit0 {base : Nat} {e : TypeId} {sz : Nat} (w : World) (g : Nat) (hg : w.heap.size = g) (hb : base ≤ g) : (w.alloc (.cells #[] e)).ownsRow base e sz (.slice (some ⟨g, 0, none⟩) 0 0) 0 [] := by
  subst hg
  exact World.ownsRow_lit w #[] 0 hb (Nat.zero_le _) (by simp)
theorem bet_lst {c : Cr} {fr to : Int} {l : List Int} {n : Int} (h : betS c fr to = (l, n)) : l.length ≤ 256 := by have := bet_len c fr to; rw [h] at this; exact this
theorem mat_week {c : Cr} {t : Int} (h0 : 0 ≤ t) (h1 : t ≤ 1073741824 - 10080) : matC c (t + 10080) = matC c t := by
  unfold matC
  rw [show (t + 10080).toNat = t.toNat + 10080 from by omega, isC_week, decide_eq_true (show 0 ≤ t + 10080 by omega), decide_eq_true (show t + 10080 ≤ 1073741824 by omega), decide_eq_true h0, decide_eq_true (show t ≤ 1073741824 by omega)]
set_option maxHeartbeats 8000000 in
set_option maxRecDepth 20000 in
theorem CronSpans_any (c : Cr) (fr to : Int) (m : Int) (w : World) (hu : U64 c) (hf : -9223372036854775808 ≤ fr ∧ fr ≤ 9223372036854775807) (ht : -9223372036854775808 ≤ to ∧ to ≤ 9223372036854775807) (hm : w.cell? ⟨0, 0, none⟩ = some (.int .i64 m)) : Calls Tryd.prog 7 #[.agg #[.int .u64 c.mi, .int .u64 c.ho, .int .u64 c.da], .int .i64 fr, .int .i64 to] w fun e w' => e = .returned (.bool true) ∧ Below w.heap.size w w' := by
  have HU := Lib.hid hu
  have HM := Lib.hid hm
  have hw0 := block_lt_of_cell hm
  clear hu hm
  go_enter Tryd.func7, Tryd.ntmps7
  by_cases h0 : 0 ≤ fr
  · have t0 : decide (0 ≤ fr) = true := decide_eq_true h0
    by_cases h1 : to ≤ 1073741824
    · have t1 : decide (to ≤ 1073741824) = true := decide_eq_true h1
      by_cases h2 : fr ≤ to
      · have t2 : decide (fr ≤ to) = true := decide_eq_true h2
        have ew : IntKind.i64.wrap (to - fr) = to - fr := by rw [IntKind.wrap_i64]; omega
        by_cases h3 : 20000 < to - fr
        · have t3 : decide (20000 < to - fr) = true := decide_eq_true h3
          go_wp2_with fail
          refine (awake_any m _ ((((Below.refl w.heap.size w).alloc (by first | exact Nat.le_refl _ | omega | (simp; done) | (simp; omega)) _).cell (p := ⟨0, 0, none⟩) hw0).trans HM.out)).mono ?_
          rintro e w1 ⟨rfl, hb⟩
          have bc : Blk w1 (w.heap.size) 25 #[.int .u64 c.mi, .int .u64 c.ho, .int .u64 c.da] := (Blk.new _ _ _).on hb
          have hbz := hb.size
          have HB1 := Lib.hid (((Below.refl w.heap.size w).alloc (by first | exact Nat.le_refl _ | omega | (simp; done) | (simp; omega)) _).trans (hb.mono (by first | exact Nat.le_refl _ | omega | (simp; done) | (simp; omega))))
          have hz1 : w.heap.size ≤ w1.heap.size := HB1.out.size
          clear hb hbz
          go_wp2_with fail
          go_ret
          exact ⟨rfl, HB1.out⟩
        · have t3 : decide (20000 < to - fr) = false := decide_eq_false h3
          obtain ⟨⟨l, n⟩, hq⟩ : ∃ q, betS c fr to = q := ⟨_, rfl⟩
          have HQ := Lib.hid hq
          have hl9 := bet_lst hq
          clear hq
          go_wp2_with fail
          refine (Between_lit c fr to l n HQ.out _ HU.out (by omega)).mono ?_
          rintro e w1 ⟨⟨p, k, rfl, hr⟩, hb⟩
          have bc : Blk w1 (w.heap.size) 25 #[.int .u64 c.mi, .int .u64 c.ho, .int .u64 c.da] := (Blk.new _ _ _).on hb
          have hbz := hb.size
          have HB1 := Lib.hid (((Below.refl w.heap.size w).alloc (by first | exact Nat.le_refl _ | omega | (simp; done) | (simp; omega)) _).trans (hb.mono (by first | exact Nat.le_refl _ | omega | (simp; done) | (simp; omega))))
          have hz1 : w.heap.size ≤ w1.heap.size := HB1.out.size
          clear hb hbz
          have HA := Lib.hid hr
          clear hr
          have q_bc0 : w1.cell? ⟨w.heap.size, 0, none⟩ = some (.int .u64 c.mi) := bc.cell 0
          have q_bc1 : w1.cell? ⟨w.heap.size, 1, none⟩ = some (.int .u64 c.ho) := bc.cell 1
          have q_bc2 : w1.cell? ⟨w.heap.size, 2, none⟩ = some (.int .u64 c.da) := bc.cell 2
          go_wp2_with fail
          refine (rBetween_lit c fr to l n HQ.out _ HU.out (by omega)).mono ?_
          rintro e w2 ⟨⟨p', k', rfl, hr⟩, hb⟩
          clear q_bc0 q_bc1 q_bc2
          have bc : Blk w2 (w.heap.size) 25 #[.int .u64 c.mi, .int .u64 c.ho, .int .u64 c.da] := (bc).on hb
          have hbz := hb.size
          have HB2 := Lib.hid ((HB1.out).trans (hb.mono (by first | exact Nat.le_refl _ | omega | (simp; done) | (simp; omega))))
          have hz2 : w.heap.size ≤ w2.heap.size := HB2.out.size
          have HA := Lib.hid (reads_on HA.out hb)
          clear hb hbz
          have HB := Lib.hid hr
          clear hr
          go_wp2_with fail
          refine (ints_any p p' k k' _ _ l _ rfl rfl HA.out HB.out (by omega)).mono ?_
          rintro e w3 ⟨rfl, hb⟩
          have bc : Blk w3 (w.heap.size) 25 #[.int .u64 c.mi, .int .u64 c.ho, .int .u64 c.da] := (bc).on hb
          have hbz := hb.size
          have HB3 := Lib.hid ((HB2.out).trans (hb.mono (by first | exact Nat.le_refl _ | omega | (simp; done) | (simp; omega))))
          have hz3 : w.heap.size ≤ w3.heap.size := HB3.out.size
          clear hb hbz
          go_wp2_with fail
          refine (awake_any m _ (((HB3.out).cell (p := ⟨0, 0, none⟩) hw0).trans HM.out)).mono ?_
          rintro e w4 ⟨rfl, hb⟩
          have bc : Blk w4 (w.heap.size) 25 #[.int .u64 c.mi, .int .u64 c.ho, .int .u64 c.da] := (bc).on hb
          have hbz := hb.size
          have HB4 := Lib.hid ((HB3.out).trans (hb.mono (by first | exact Nat.le_refl _ | omega | (simp; done) | (simp; omega))))
          have hz4 : w.heap.size ≤ w4.heap.size := HB4.out.size
          clear hb hbz
          go_wp2_with fail
          go_ret
          exact ⟨rfl, HB4.out⟩
      · have t2 : decide (fr ≤ to) = false := decide_eq_false h2
        obtain ⟨⟨l, n⟩, hq⟩ : ∃ q, betS c fr to = q := ⟨_, rfl⟩
        have HQ := Lib.hid hq
        have hl9 := bet_lst hq
        clear hq
        go_wp2_with fail
        refine (Between_lit c fr to l n HQ.out _ HU.out (by omega)).mono ?_
        rintro e w1 ⟨⟨p, k, rfl, hr⟩, hb⟩
        have bc : Blk w1 (w.heap.size) 25 #[.int .u64 c.mi, .int .u64 c.ho, .int .u64 c.da] := (Blk.new _ _ _).on hb
        have hbz := hb.size
        have HB1 := Lib.hid (((Below.refl w.heap.size w).alloc (by first | exact Nat.le_refl _ | omega | (simp; done) | (simp; omega)) _).trans (hb.mono (by first | exact Nat.le_refl _ | omega | (simp; done) | (simp; omega))))
        have hz1 : w.heap.size ≤ w1.heap.size := HB1.out.size
        clear hb hbz
        have HA := Lib.hid hr
        clear hr
        have q_bc0 : w1.cell? ⟨w.heap.size, 0, none⟩ = some (.int .u64 c.mi) := bc.cell 0
        have q_bc1 : w1.cell? ⟨w.heap.size, 1, none⟩ = some (.int .u64 c.ho) := bc.cell 1
        have q_bc2 : w1.cell? ⟨w.heap.size, 2, none⟩ = some (.int .u64 c.da) := bc.cell 2
        go_wp2_with fail
        refine (rBetween_lit c fr to l n HQ.out _ HU.out (by omega)).mono ?_
        rintro e w2 ⟨⟨p', k', rfl, hr⟩, hb⟩
        clear q_bc0 q_bc1 q_bc2
        have bc : Blk w2 (w.heap.size) 25 #[.int .u64 c.mi, .int .u64 c.ho, .int .u64 c.da] := (bc).on hb
        have hbz := hb.size
        have HB2 := Lib.hid ((HB1.out).trans (hb.mono (by first | exact Nat.le_refl _ | omega | (simp; done) | (simp; omega))))
        have hz2 : w.heap.size ≤ w2.heap.size := HB2.out.size
        have HA := Lib.hid (reads_on HA.out hb)
        clear hb hbz
        have HB := Lib.hid hr
        clear hr
        go_wp2_with fail
        refine (ints_any p p' k k' _ _ l _ rfl rfl HA.out HB.out (by omega)).mono ?_
        rintro e w3 ⟨rfl, hb⟩
        have bc : Blk w3 (w.heap.size) 25 #[.int .u64 c.mi, .int .u64 c.ho, .int .u64 c.da] := (bc).on hb
        have hbz := hb.size
        have HB3 := Lib.hid ((HB2.out).trans (hb.mono (by first | exact Nat.le_refl _ | omega | (simp; done) | (simp; omega))))
        have hz3 : w.heap.size ≤ w3.heap.size := HB3.out.size
        clear hb hbz
        go_wp2_with fail
        refine (awake_any m _ (((HB3.out).cell (p := ⟨0, 0, none⟩) hw0).trans HM.out)).mono ?_
        rintro e w4 ⟨rfl, hb⟩
        have bc : Blk w4 (w.heap.size) 25 #[.int .u64 c.mi, .int .u64 c.ho, .int .u64 c.da] := (bc).on hb
        have hbz := hb.size
        have HB4 := Lib.hid ((HB3.out).trans (hb.mono (by first | exact Nat.le_refl _ | omega | (simp; done) | (simp; omega))))
        have hz4 : w.heap.size ≤ w4.heap.size := HB4.out.size
        clear hb hbz
        go_wp2_with fail
        go_ret
        exact ⟨rfl, HB4.out⟩
    · have t1 : decide (to ≤ 1073741824) = false := decide_eq_false h1
      obtain ⟨⟨l, n⟩, hq⟩ : ∃ q, betS c fr to = q := ⟨_, rfl⟩
      have HQ := Lib.hid hq
      have hl9 := bet_lst hq
      clear hq
      go_wp2_with fail
      refine (Between_lit c fr to l n HQ.out _ HU.out (by omega)).mono ?_
      rintro e w1 ⟨⟨p, k, rfl, hr⟩, hb⟩
      have bc : Blk w1 (w.heap.size) 25 #[.int .u64 c.mi, .int .u64 c.ho, .int .u64 c.da] := (Blk.new _ _ _).on hb
      have hbz := hb.size
      have HB1 := Lib.hid (((Below.refl w.heap.size w).alloc (by first | exact Nat.le_refl _ | omega | (simp; done) | (simp; omega)) _).trans (hb.mono (by first | exact Nat.le_refl _ | omega | (simp; done) | (simp; omega))))
      have hz1 : w.heap.size ≤ w1.heap.size := HB1.out.size
      clear hb hbz
      have HA := Lib.hid hr
      clear hr
      have q_bc0 : w1.cell? ⟨w.heap.size, 0, none⟩ = some (.int .u64 c.mi) := bc.cell 0
      have q_bc1 : w1.cell? ⟨w.heap.size, 1, none⟩ = some (.int .u64 c.ho) := bc.cell 1
      have q_bc2 : w1.cell? ⟨w.heap.size, 2, none⟩ = some (.int .u64 c.da) := bc.cell 2
      go_wp2_with fail
      refine (rBetween_lit c fr to l n HQ.out _ HU.out (by omega)).mono ?_
      rintro e w2 ⟨⟨p', k', rfl, hr⟩, hb⟩
      clear q_bc0 q_bc1 q_bc2
      have bc : Blk w2 (w.heap.size) 25 #[.int .u64 c.mi, .int .u64 c.ho, .int .u64 c.da] := (bc).on hb
      have hbz := hb.size
      have HB2 := Lib.hid ((HB1.out).trans (hb.mono (by first | exact Nat.le_refl _ | omega | (simp; done) | (simp; omega))))
      have hz2 : w.heap.size ≤ w2.heap.size := HB2.out.size
      have HA := Lib.hid (reads_on HA.out hb)
      clear hb hbz
      have HB := Lib.hid hr
      clear hr
      go_wp2_with fail
      refine (ints_any p p' k k' _ _ l _ rfl rfl HA.out HB.out (by omega)).mono ?_
      rintro e w3 ⟨rfl, hb⟩
      have bc : Blk w3 (w.heap.size) 25 #[.int .u64 c.mi, .int .u64 c.ho, .int .u64 c.da] := (bc).on hb
      have hbz := hb.size
      have HB3 := Lib.hid ((HB2.out).trans (hb.mono (by first | exact Nat.le_refl _ | omega | (simp; done) | (simp; omega))))
      have hz3 : w.heap.size ≤ w3.heap.size := HB3.out.size
      clear hb hbz
      go_wp2_with fail
      refine (awake_any m _ (((HB3.out).cell (p := ⟨0, 0, none⟩) hw0).trans HM.out)).mono ?_
      rintro e w4 ⟨rfl, hb⟩
      have bc : Blk w4 (w.heap.size) 25 #[.int .u64 c.mi, .int .u64 c.ho, .int .u64 c.da] := (bc).on hb
      have hbz := hb.size
      have HB4 := Lib.hid ((HB3.out).trans (hb.mono (by first | exact Nat.le_refl _ | omega | (simp; done) | (simp; omega))))
      have hz4 : w.heap.size ≤ w4.heap.size := HB4.out.size
      clear hb hbz
      go_wp2_with fail
      go_ret
      exact ⟨rfl, HB4.out⟩
  · have t0 : decide (0 ≤ fr) = false := decide_eq_false h0
    obtain ⟨⟨l, n⟩, hq⟩ : ∃ q, betS c fr to = q := ⟨_, rfl⟩
    have HQ := Lib.hid hq
    have hl9 := bet_lst hq
    clear hq
    go_wp2_with fail
    refine (Between_lit c fr to l n HQ.out _ HU.out (by omega)).mono ?_
    rintro e w1 ⟨⟨p, k, rfl, hr⟩, hb⟩
    have bc : Blk w1 (w.heap.size) 25 #[.int .u64 c.mi, .int .u64 c.ho, .int .u64 c.da] := (Blk.new _ _ _).on hb
    have hbz := hb.size
    have HB1 := Lib.hid (((Below.refl w.heap.size w).alloc (by first | exact Nat.le_refl _ | omega | (simp; done) | (simp; omega)) _).trans (hb.mono (by first | exact Nat.le_refl _ | omega | (simp; done) | (simp; omega))))
    have hz1 : w.heap.size ≤ w1.heap.size := HB1.out.size
    clear hb hbz
    have HA := Lib.hid hr
    clear hr
    have q_bc0 : w1.cell? ⟨w.heap.size, 0, none⟩ = some (.int .u64 c.mi) := bc.cell 0
    have q_bc1 : w1.cell? ⟨w.heap.size, 1, none⟩ = some (.int .u64 c.ho) := bc.cell 1
    have q_bc2 : w1.cell? ⟨w.heap.size, 2, none⟩ = some (.int .u64 c.da) := bc.cell 2
    go_wp2_with fail
    refine (rBetween_lit c fr to l n HQ.out _ HU.out (by omega)).mono ?_
    rintro e w2 ⟨⟨p', k', rfl, hr⟩, hb⟩
    clear q_bc0 q_bc1 q_bc2
    have bc : Blk w2 (w.heap.size) 25 #[.int .u64 c.mi, .int .u64 c.ho, .int .u64 c.da] := (bc).on hb
    have hbz := hb.size
    have HB2 := Lib.hid ((HB1.out).trans (hb.mono (by first | exact Nat.le_refl _ | omega | (simp; done) | (simp; omega))))
    have hz2 : w.heap.size ≤ w2.heap.size := HB2.out.size
    have HA := Lib.hid (reads_on HA.out hb)
    clear hb hbz
    have HB := Lib.hid hr
    clear hr
    go_wp2_with fail
    refine (ints_any p p' k k' _ _ l _ rfl rfl HA.out HB.out (by omega)).mono ?_
    rintro e w3 ⟨rfl, hb⟩
    have bc : Blk w3 (w.heap.size) 25 #[.int .u64 c.mi, .int .u64 c.ho, .int .u64 c.da] := (bc).on hb
    have hbz := hb.size
    have HB3 := Lib.hid ((HB2.out).trans (hb.mono (by first | exact Nat.le_refl _ | omega | (simp; done) | (simp; omega))))
    have hz3 : w.heap.size ≤ w3.heap.size := HB3.out.size
    clear hb hbz
    go_wp2_with fail
    refine (awake_any m _ (((HB3.out).cell (p := ⟨0, 0, none⟩) hw0).trans HM.out)).mono ?_
    rintro e w4 ⟨rfl, hb⟩
    have bc : Blk w4 (w.heap.size) 25 #[.int .u64 c.mi, .int .u64 c.ho, .int .u64 c.da] := (bc).on hb
    have hbz := hb.size
    have HB4 := Lib.hid ((HB3.out).trans (hb.mono (by first | exact Nat.le_refl _ | omega | (simp; done) | (simp; omega))))
    have hz4 : w.heap.size ≤ w4.heap.size := HB4.out.size
    clear hb hbz
    go_wp2_with fail
    go_ret
    exact ⟨rfl, HB4.out⟩
set_option maxHeartbeats 8000000 in
set_option maxRecDepth 20000 in
theorem CronWeeks_any (c : Cr) (fr md to : Int) (m : Int) (w : World) (hu : U64 c) (hf : -9223372036854775808 ≤ fr ∧ fr ≤ 9223372036854775807) (ht : -9223372036854775808 ≤ to ∧ to ≤ 9223372036854775807) (hmd : -9223372036854775808 ≤ md ∧ md ≤ 9223372036854775807) (hm : w.cell? ⟨0, 0, none⟩ = some (.int .i64 m)) : Calls Tryd.prog 8 #[.agg #[.int .u64 c.mi, .int .u64 c.ho, .int .u64 c.da], .int .i64 fr, .int .i64 md, .int .i64 to] w fun e w' => e = .returned (.bool true) ∧ Below w.heap.size w w' := by
  have HU := Lib.hid hu
  have HM := Lib.hid hm
  have hw0 := block_lt_of_cell hm
  clear hu hm
  go_enter Tryd.func8, Tryd.ntmps8
  by_cases h0 : fr < 0
  · have t0 : decide (fr < 0) = true := decide_eq_true h0
    go_wp2_with fail
    refine (awake_any m _ ((((Below.refl w.heap.size w).alloc (by first | exact Nat.le_refl _ | omega | (simp; done) | (simp; omega)) _).cell (p := ⟨0, 0, none⟩) hw0).trans HM.out)).mono ?_
    rintro e w1 ⟨rfl, hb⟩
    have bc : Blk w1 (w.heap.size) 25 #[.int .u64 c.mi, .int .u64 c.ho, .int .u64 c.da] := (Blk.new _ _ _).on hb
    have hbz := hb.size
    have HB1 := Lib.hid (((Below.refl w.heap.size w).alloc (by first | exact Nat.le_refl _ | omega | (simp; done) | (simp; omega)) _).trans (hb.mono (by first | exact Nat.le_refl _ | omega | (simp; done) | (simp; omega))))
    have hz1 : w.heap.size ≤ w1.heap.size := HB1.out.size
    clear hb hbz
    go_wp2_with fail
    go_ret
    exact ⟨rfl, HB1.out⟩
  · have t0 : decide (fr < 0) = false := decide_eq_false h0
    by_cases h1 : md < fr
    · have t1 : decide (md < fr) = true := decide_eq_true h1
      go_wp2_with fail
      refine (awake_any m _ ((((Below.refl w.heap.size w).alloc (by first | exact Nat.le_refl _ | omega | (simp; done) | (simp; omega)) _).cell (p := ⟨0, 0, none⟩) hw0).trans HM.out)).mono ?_
      rintro e w1 ⟨rfl, hb⟩
      have bc : Blk w1 (w.heap.size) 25 #[.int .u64 c.mi, .int .u64 c.ho, .int .u64 c.da] := (Blk.new _ _ _).on hb
      have hbz := hb.size
      have HB1 := Lib.hid (((Below.refl w.heap.size w).alloc (by first | exact Nat.le_refl _ | omega | (simp; done) | (simp; omega)) _).trans (hb.mono (by first | exact Nat.le_refl _ | omega | (simp; done) | (simp; omega))))
      have hz1 : w.heap.size ≤ w1.heap.size := HB1.out.size
      clear hb hbz
      go_wp2_with fail
      go_ret
      exact ⟨rfl, HB1.out⟩
    · have t1 : decide (md < fr) = false := decide_eq_false h1
      by_cases h2 : to < md
      · have t2 : decide (to < md) = true := decide_eq_true h2
        go_wp2_with fail
        refine (awake_any m _ ((((Below.refl w.heap.size w).alloc (by first | exact Nat.le_refl _ | omega | (simp; done) | (simp; omega)) _).cell (p := ⟨0, 0, none⟩) hw0).trans HM.out)).mono ?_
        rintro e w1 ⟨rfl, hb⟩
        have bc : Blk w1 (w.heap.size) 25 #[.int .u64 c.mi, .int .u64 c.ho, .int .u64 c.da] := (Blk.new _ _ _).on hb
        have hbz := hb.size
        have HB1 := Lib.hid (((Below.refl w.heap.size w).alloc (by first | exact Nat.le_refl _ | omega | (simp; done) | (simp; omega)) _).trans (hb.mono (by first | exact Nat.le_refl _ | omega | (simp; done) | (simp; omega))))
        have hz1 : w.heap.size ≤ w1.heap.size := HB1.out.size
        clear hb hbz
        go_wp2_with fail
        go_ret
        exact ⟨rfl, HB1.out⟩
      · have t2 : decide (to < md) = false := decide_eq_false h2
        by_cases h3 : 1073731744 < to
        · have t3 : decide (1073731744 < to) = true := decide_eq_true h3
          go_wp2_with fail
          refine (awake_any m _ ((((Below.refl w.heap.size w).alloc (by first | exact Nat.le_refl _ | omega | (simp; done) | (simp; omega)) _).cell (p := ⟨0, 0, none⟩) hw0).trans HM.out)).mono ?_
          rintro e w1 ⟨rfl, hb⟩
          have bc : Blk w1 (w.heap.size) 25 #[.int .u64 c.mi, .int .u64 c.ho, .int .u64 c.da] := (Blk.new _ _ _).on hb
          have hbz := hb.size
          have HB1 := Lib.hid (((Below.refl w.heap.size w).alloc (by first | exact Nat.le_refl _ | omega | (simp; done) | (simp; omega)) _).trans (hb.mono (by first | exact Nat.le_refl _ | omega | (simp; done) | (simp; omega))))
          have hz1 : w.heap.size ≤ w1.heap.size := HB1.out.size
          clear hb hbz
          go_wp2_with fail
          go_ret
          exact ⟨rfl, HB1.out⟩
        · have t3 : decide (1073731744 < to) = false := decide_eq_false h3
          have ew : IntKind.i64.wrap (to - fr) = to - fr := by rw [IntKind.wrap_i64]; omega
          by_cases h4 : 5000 < to - fr
          · have t4 : decide (5000 < to - fr) = true := decide_eq_true h4
            go_wp2_with fail
            refine (awake_any m _ ((((Below.refl w.heap.size w).alloc (by first | exact Nat.le_refl _ | omega | (simp; done) | (simp; omega)) _).cell (p := ⟨0, 0, none⟩) hw0).trans HM.out)).mono ?_
            rintro e w1 ⟨rfl, hb⟩
            have bc : Blk w1 (w.heap.size) 25 #[.int .u64 c.mi, .int .u64 c.ho, .int .u64 c.da] := (Blk.new _ _ _).on hb
            have hbz := hb.size
            have HB1 := Lib.hid (((Below.refl w.heap.size w).alloc (by first | exact Nat.le_refl _ | omega | (simp; done) | (simp; omega)) _).trans (hb.mono (by first | exact Nat.le_refl _ | omega | (simp; done) | (simp; omega))))
            have hz1 : w.heap.size ≤ w1.heap.size := HB1.out.size
            clear hb hbz
            go_wp2_with fail
            go_ret
            exact ⟨rfl, HB1.out⟩
          · have t4 : decide (5000 < to - fr) = false := decide_eq_false h4
            have HW := Lib.hid (mat_week (c := c) (t := fr) (by omega) (by omega))
            obtain ⟨b, hb9⟩ : ∃ b, matC c fr = b := ⟨_, rfl⟩
            rw [hb9] at HW
            have HX := Lib.hid hb9
            clear hb9
            have ew2 : IntKind.i64.wrap (fr + 10080) = fr + 10080 := by rw [IntKind.wrap_i64]; omega
            go_wp2_with fail
            have bc : Blk ((w).alloc (.cells #[.int .u64 c.mi, .int .u64 c.ho, .int .u64 c.da] 25)) (w.heap.size) 25 #[.int .u64 c.mi, .int .u64 c.ho, .int .u64 c.da] := Blk.new _ _ _
            have HB1 := Lib.hid (show Below w.heap.size w ((w).alloc (.cells #[.int .u64 c.mi, .int .u64 c.ho, .int .u64 c.da] 25)) from (Below.refl w.heap.size w).alloc (by first | exact Nat.le_refl _ | omega | (simp; done) | (simp; omega)) _)
            generalize (w).alloc (.cells #[.int .u64 c.mi, .int .u64 c.ho, .int .u64 c.da] 25) = w1 at *
            have hz1 : w.heap.size ≤ w1.heap.size := HB1.out.size
            have r_bc0 := fun d os => cell_regrown (v := .int .u64 c.mi) (bc.cell 0) d os
            have r_bc1 := fun d os => cell_regrown (v := .int .u64 c.ho) (bc.cell 1) d os
            have r_bc2 := fun d os => cell_regrown (v := .int .u64 c.da) (bc.cell 2) d os
            refine wp_region_quiet_below (by kernel_rfl) (by kernel_rfl) ?_
            repeat (go_big_quiet_step ((first | (go_at_call 18; first | (with_reducible exact Matches_at c fr b HX.out HU.out _ _ _) | (with_reducible exact Matches_at c (fr + 10080) b HW.out HU.out _ _ _)))))
            refine wpQuiet_nil ?_
            intro _ hw'
            obtain ⟨⟨dq, osq⟩, hw''⟩ := hw'
            subst hw''
            have hb := below_regrown w1 dq osq
            have bc : Blk (Go.Sort.grow (redrawn w1 dq) osq) (w.heap.size) 25 #[.int .u64 c.mi, .int .u64 c.ho, .int .u64 c.da] := bc.on hb
            have HB2 := Lib.hid ((HB1.out).trans (hb.mono (by first | exact Nat.le_refl _ | omega | (simp; done) | (simp; omega))))
            clear hb r_bc0 r_bc1 r_bc2
            generalize Go.Sort.grow (redrawn w1 dq) osq = w2 at *
            have hz2 : w.heap.size ≤ w2.heap.size := HB2.out.size
            obtain ⟨⟨l1, n1⟩, hq⟩ : ∃ q, betS c fr md = q := ⟨_, rfl⟩
            have HQ1 := Lib.hid hq
            have hl1 := bet_lst hq
            clear hq
            obtain ⟨⟨l2, n2⟩, hq⟩ : ∃ q, betS c md to = q := ⟨_, rfl⟩
            have HQ2 := Lib.hid hq
            have hl2 := bet_lst hq
            clear hq
            obtain ⟨⟨l3, n3⟩, hq⟩ : ∃ q, betS c fr to = q := ⟨_, rfl⟩
            have HQ3 := Lib.hid hq
            have hl3 := bet_lst hq
            clear hq
            have q_bc0 : w2.cell? ⟨w.heap.size, 0, none⟩ = some (.int .u64 c.mi) := bc.cell 0
            have q_bc1 : w2.cell? ⟨w.heap.size, 1, none⟩ = some (.int .u64 c.ho) := bc.cell 1
            have q_bc2 : w2.cell? ⟨w.heap.size, 2, none⟩ = some (.int .u64 c.da) := bc.cell 2
            go_wp2_with fail
            refine (Between_lit c fr md l1 n1 HQ1.out _ HU.out (by omega)).mono ?_
            rintro e w3 ⟨⟨p1, k1, rfl, hr⟩, hb⟩
            clear q_bc0 q_bc1 q_bc2
            have bc : Blk w3 (w.heap.size) 25 #[.int .u64 c.mi, .int .u64 c.ho, .int .u64 c.da] := (bc).on hb
            have hbz := hb.size
            have HB3 := Lib.hid ((HB2.out).trans (hb.mono (by first | exact Nat.le_refl _ | omega | (simp; done) | (simp; omega))))
            have hz3 : w.heap.size ≤ w3.heap.size := HB3.out.size
            clear hb hbz
            have HA := Lib.hid hr
            clear hr
            have q_bc0 : w3.cell? ⟨w.heap.size, 0, none⟩ = some (.int .u64 c.mi) := bc.cell 0
            have q_bc1 : w3.cell? ⟨w.heap.size, 1, none⟩ = some (.int .u64 c.ho) := bc.cell 1
            have q_bc2 : w3.cell? ⟨w.heap.size, 2, none⟩ = some (.int .u64 c.da) := bc.cell 2
            go_wp2_with fail
            refine (Between_lit c md to l2 n2 HQ2.out _ HU.out (by omega)).mono ?_
            rintro e w4 ⟨⟨p2, k2, rfl, hr⟩, hb⟩
            clear q_bc0 q_bc1 q_bc2
            have bc : Blk w4 (w.heap.size) 25 #[.int .u64 c.mi, .int .u64 c.ho, .int .u64 c.da] := (bc).on hb
            have hbz := hb.size
            have HB4 := Lib.hid ((HB3.out).trans (hb.mono (by first | exact Nat.le_refl _ | omega | (simp; done) | (simp; omega))))
            have hz4 : w.heap.size ≤ w4.heap.size := HB4.out.size
            have HA := Lib.hid (reads_on HA.out hb)
            clear hb hbz
            have HB := Lib.hid hr
            clear hr
            have q_bc0 : w4.cell? ⟨w.heap.size, 0, none⟩ = some (.int .u64 c.mi) := bc.cell 0
            have q_bc1 : w4.cell? ⟨w.heap.size, 1, none⟩ = some (.int .u64 c.ho) := bc.cell 1
            have q_bc2 : w4.cell? ⟨w.heap.size, 2, none⟩ = some (.int .u64 c.da) := bc.cell 2
            go_wp2_with fail
            refine (Between_lit c fr to l3 n3 HQ3.out _ HU.out (by omega)).mono ?_
            rintro e w5 ⟨⟨p3, k3, rfl, hr⟩, hb⟩
            clear q_bc0 q_bc1 q_bc2
            have bc : Blk w5 (w.heap.size) 25 #[.int .u64 c.mi, .int .u64 c.ho, .int .u64 c.da] := (bc).on hb
            have hbz := hb.size
            have HB5 := Lib.hid ((HB4.out).trans (hb.mono (by first | exact Nat.le_refl _ | omega | (simp; done) | (simp; omega))))
            have hz5 : w.heap.size ≤ w5.heap.size := HB5.out.size
            have HA := Lib.hid (reads_on HA.out hb)
            have HB := Lib.hid (reads_on HB.out hb)
            clear hb hbz
            have HC := Lib.hid hr
            clear hr
            by_cases e1 : n1 = 0
            · subst e1
              by_cases e2 : n2 = 0
              · subst e2
                by_cases e3 : n3 = 0
                · subst e3
                  obtain ⟨i0, ih, iz0, iz1, iz2⟩ := info_parts info_int
                  have HE := Lib.hid (show l1 ++ l2 = l3 from by
                    have h := bet_weeks (c := c) (fr := fr) (md := md) (to := to) (by omega) (by omega) (by omega) (by omega) (by omega) (by rw [HQ1.out]) (by rw [HQ2.out]) (by rw [HQ3.out])
                    rw [HQ1.out, HQ2.out, HQ3.out] at h
                    exact h)
                  have HBK := Lib.hid HB5.out
                  have HWS := Lib.hid (size_new' w5 (.cells #[] 3))
                  go_wp2_with (at_builtin; first | (go_loud (refine wpList_append_any _ rfl (.tmp 78) (.tmp 79) 37 rfl w5.heap.size 3 i0 (.int .i64 0) 1 8 Tryd.underlying37 ih iz0 iz1 iz2 rfl (by decide) _ _ _ rfl (own_lit0 (base := w5.heap.size) w5 w5.heap.size rfl (Nat.le_refl _)) _ p1 _ _ (ivals l1) rfl (reads_on HA.out HWS.out) (by intro u hu; obtain ⟨z, _, rfl⟩ := List.mem_map.1 hu; rfl) (by simp only [maxLen]; omega) (by omega) (by first | exact Nat.le_refl _ | (simp; done) | (simp; omega) | omega) ?_); intro v1 wn1 ho1 hg1 hi1; clear hi1; have hlow := (HWS.out).grown hg1 HWS.out.size (fun q e => by have e := Option.some.inj e; dsimp only at e; omega); have HL1 := Lib.hid hlow; have HB2 := Lib.hid (reads_on HB.out hlow); have HO1 := Lib.hid ho1; have ho1 := HO1; have hgz1 : w5.heap.size ≤ wn1.heap.size := hlow.size; clear hg1 hlow) | (go_loud (refine wpList_append_any _ rfl (.tmp 80) (.tmp 81) 37 rfl w5.heap.size 3 i0 (.int .i64 0) 1 8 Tryd.underlying37 ih iz0 iz1 iz2 rfl (by decide) v1 _ _ rfl ho1.out _ p2 _ _ (ivals l2) rfl HB2.out (by intro u hu; obtain ⟨z, _, rfl⟩ := List.mem_map.1 hu; rfl) (by simp only [maxLen]; omega) (by omega) (by first | exact Nat.le_refl _ | (simp; done) | (simp; omega) | omega) ?_); intro v2 wn2 ho2 hg2 hi2; clear hi2; have HL2 := Lib.hid (HL1.out.grown hg2 HL1.out.size (own_ge HO1.out)); have HO2 := Lib.hid ho2; clear hg2 ho2))
                  obtain ⟨p9, k9, rfl, hr9⟩ := own_reads HO2.out
                  have HR9 := Lib.hid hr9
                  clear hr9
                  refine (ints_any p9 p3 k9 k3 _ _ l3 wn2 (by rw [← HE.out, List.length_append]; omega) rfl (by rw [← HE.out, ivals_app, List.length_append]; have h := HR9.out; rw [Nat.zero_add] at h; exact h) (reads_on HC.out HL2.out) (by rw [← HE.out, List.length_append]; omega)).mono ?_
                  rintro e w9 ⟨rfl, hb⟩
                  have HBL := Lib.hid (HBK.out.trans ((HL2.out.trans (hb.mono HL2.out.size)).mono HBK.out.size))
                  have hz9 := HBL.out.size
                  clear hb
                  go_wp2_with fail
                  refine (awake_any m _ (((HBL.out).cell (p := ⟨0, 0, none⟩) hw0).trans HM.out)).mono ?_
                  rintro e w6 ⟨rfl, hb⟩
                  have hbz := hb.size
                  have HB6 := Lib.hid ((HBL.out).trans (hb.mono (by first | exact Nat.le_refl _ | omega | (simp; done) | (simp; omega))))
                  have hz6 : w.heap.size ≤ w6.heap.size := HB6.out.size
                  clear hb hbz
                  go_wp2_with fail
                  go_ret
                  exact ⟨rfl, HB6.out⟩
                · have te : (n3 != 0) = true := by rw [bne_iff_ne]; exact e3
                  clear e3
                  go_wp2_with fail
                  refine (awake_any m _ (((HB5.out).cell (p := ⟨0, 0, none⟩) hw0).trans HM.out)).mono ?_
                  rintro e w6 ⟨rfl, hb⟩
                  have bc : Blk w6 (w.heap.size) 25 #[.int .u64 c.mi, .int .u64 c.ho, .int .u64 c.da] := (bc).on hb
                  have hbz := hb.size
                  have HB6 := Lib.hid ((HB5.out).trans (hb.mono (by first | exact Nat.le_refl _ | omega | (simp; done) | (simp; omega))))
                  have hz6 : w.heap.size ≤ w6.heap.size := HB6.out.size
                  clear hb hbz
                  go_wp2_with fail
                  go_ret
                  exact ⟨rfl, HB6.out⟩
              · have te : (n2 != 0) = true := by rw [bne_iff_ne]; exact e2
                clear e2
                go_wp2_with fail
                refine (awake_any m _ (((HB5.out).cell (p := ⟨0, 0, none⟩) hw0).trans HM.out)).mono ?_
                rintro e w6 ⟨rfl, hb⟩
                have bc : Blk w6 (w.heap.size) 25 #[.int .u64 c.mi, .int .u64 c.ho, .int .u64 c.da] := (bc).on hb
                have hbz := hb.size
                have HB6 := Lib.hid ((HB5.out).trans (hb.mono (by first | exact Nat.le_refl _ | omega | (simp; done) | (simp; omega))))
                have hz6 : w.heap.size ≤ w6.heap.size := HB6.out.size
                clear hb hbz
                go_wp2_with fail
                go_ret
                exact ⟨rfl, HB6.out⟩
            · have te : (n1 != 0) = true := by rw [bne_iff_ne]; exact e1
              clear e1
              go_wp2_with fail
              refine (awake_any m _ (((HB5.out).cell (p := ⟨0, 0, none⟩) hw0).trans HM.out)).mono ?_
              rintro e w6 ⟨rfl, hb⟩
              have bc : Blk w6 (w.heap.size) 25 #[.int .u64 c.mi, .int .u64 c.ho, .int .u64 c.da] := (bc).on hb
              have hbz := hb.size
              have HB6 := Lib.hid ((HB5.out).trans (hb.mono (by first | exact Nat.le_refl _ | omega | (simp; done) | (simp; omega))))
              have hz6 : w.heap.size ≤ w6.heap.size := HB6.out.size
              clear hb hbz
              go_wp2_with fail
              go_ret
              exact ⟨rfl, HB6.out⟩
end Go.Proofs.YtnagnaekcphpiaaDoor
