/- The walks of Delay, Total and their references. -/
import Derived.Test.YtojghgeemdpmpaaMBB
namespace Go.Proofs.Ytojghgeemdpmpaa.BO
open Go.RowKit

def tup2 (x : Int × Int) : Value := .tuple #[.int .i64 x.1, .int .i64 x.2]
theorem ret_tup2 {x : Int × Int} {a b : Int} (h : x = (a, b)) : Ending.returned (.tuple #[.int .i64 a, .int .i64 b]) = .returned (tup2 x) := by subst h; rfl
def inB (n lo hi : Int) : Bool := decide (lo ≤ n) && decide (n ≤ hi)
theorem inB_yes {n lo hi : Int} (h : lo ≤ n ∧ n ≤ hi) : inB n lo hi = true := by simp [inB, h.1, h.2]
theorem inB_no {n lo hi : Int} (h : ¬ (lo ≤ n ∧ n ≤ hi)) : inB n lo hi = false := by
  cases e : inB n lo hi with
  | false => rfl
  | true => exact absurd (by simpa [inB] using e) h
theorem in_any (n lo hi : Int) (w : World) : Calls Try.prog 58 #[.int .i64 n, .int .i64 lo, .int .i64 hi] w fun e w' => e = .returned (.bool (inB n lo hi)) ∧ w = w' := by
  rcases Int.lt_or_le n lo with h | h
  · have HD := Lib.hid (inB_no (n := n) (lo := lo) (hi := hi) (by omega))
    go_enter Try.func58, Try.ntmps58
    go_wp2
    all_goals try (exfalso; omega)
    go_ret
    exact ⟨ret_bool HD.out.symm, rfl⟩
  · rcases Int.lt_or_le hi n with h' | h'
    · have HD := Lib.hid (inB_no (n := n) (lo := lo) (hi := hi) (by omega))
      have hd : decide (n ≤ hi) = false := decide_eq_false (by omega)
      go_enter Try.func58, Try.ntmps58
      go_wp2
      all_goals try (exfalso; omega)
      go_ret
      exact ⟨ret_bool HD.out.symm, rfl⟩
    · have HD := Lib.hid (inB_yes (n := n) (lo := lo) (hi := hi) ⟨h, h'⟩)
      have hd : decide (n ≤ hi) = true := decide_eq_true h'
      go_enter Try.func58, Try.ntmps58
      go_wp2
      all_goals try (exfalso; omega)
      go_ret
      exact ⟨ret_bool HD.out.symm, rfl⟩
theorem CellIs.new (w : World) (x : Int) (T : TypeId) : CellIs (w.alloc (.cells #[.int .i64 x] T)) (w.alloc (.cells #[.int .i64 x] T)) w.heap.size x :=
  ⟨Below.refl _ _, by rw [cell_of_row _ _ _ _ T (0, 0) (heap_alloc_new w _)]; rfl, by go_simp, by simp⟩
def delI (a b f c m t : Int) : Int × Int := if RP.ok ⟨a, b, f, c, m⟩ = true then (if 1 ≤ t ∧ t < a then (dl b f c (t.toNat - 1), 0) else (0, 2)) else (0, 2)
set_option maxHeartbeats 1000000 in
theorem Delay_any (a b f c m t : Int) (w : World) (hb1 : -9223372036854775808 ≤ a) (hb2 : a ≤ 9223372036854775807) :
    Calls Try.prog 59 #[.agg #[.int .i64 a, .int .i64 b, .int .i64 f, .int .i64 c, .int .i64 m], .int .i64 t] w fun e w' => e = .returned (tup2 (delI a b f c m t)) ∧ Below w.heap.size w w' := by
  cases hok : RP.ok ⟨a, b, f, c, m⟩
  · have HD := Lib.hid (show delI a b f c m t = (0, 2) by unfold delI; rw [if_neg (by rw [hok]; simp)])
    have HE := Lib.hid (show RP.e ⟨a, b, f, c, m⟩ = 2 by unfold RP.e; rw [if_neg (by rw [hok]; simp)])
    clear hok
    go_enter Try.func59, Try.ntmps59
    go_wp2_with fail
    refine (Check_any a b f c m _).mono ?_
    rintro e w1 ⟨rfl, hb⟩
    rw [HE.out]
    go_wp2_with fail
    go_ret2
    exact ⟨ret_tup2 HD.out, (((Below.refl _ _).alloc (Nat.le_refl _) _).alloc (by simp) _).trans (hb.mono (by simp; omega))⟩
  · have HE := Lib.hid (show RP.e ⟨a, b, f, c, m⟩ = 0 by unfold RP.e; rw [if_pos hok])
    have HO := Lib.hid hok
    have hbd := (RP.ok_iff _).1 hok
    simp only at hbd
    obtain ⟨a1, a2, -⟩ := hbd
    clear hok
    go_enter Try.func59, Try.ntmps59
    go_wp2_with fail
    refine (Check_any a b f c m _).mono ?_
    rintro e w1 ⟨rfl, hb⟩
    rw [HE.out]
    obtain ⟨hc1, hf1⟩ := bcell hb
    have hz1 := hb.size
    simp only [World.size_alloc] at hc1 hf1 hz1
    have q0 : w1.cell? ⟨w.heap.size, 0, none⟩ = some (.int .i64 a) := by rw [hc1 _ _ (by omega)]; go_simp
    have q1 : w1.cell? ⟨w.heap.size, 1, none⟩ = some (.int .i64 b) := by rw [hc1 _ _ (by omega)]; go_simp
    have q2 : w1.cell? ⟨w.heap.size, 2, none⟩ = some (.int .i64 f) := by rw [hc1 _ _ (by omega)]; go_simp
    have q3 : w1.cell? ⟨w.heap.size, 3, none⟩ = some (.int .i64 c) := by rw [hc1 _ _ (by omega)]; go_simp
    have q4 : w1.cell? ⟨w.heap.size, 4, none⟩ = some (.int .i64 m) := by rw [hc1 _ _ (by omega)]; go_simp
    have q5 : w1.cell? ⟨w.heap.size + 1, 0, none⟩ = some (.int .i64 t) := by rw [hc1 _ _ (by omega)]; go_simp
    have hw1 : Below w.heap.size w w1 := (((Below.refl _ _).alloc (Nat.le_refl _) _).alloc (by simp) _).trans (hb.mono (by simp; omega))
    clear hc1 hf1 hb
    have hz2 : w.heap.size < w1.heap.size := by omega
    have hz3 : w.heap.size + 1 < w1.heap.size := by omega
    by_cases ht : 1 ≤ t ∧ t < a
    · have HD := Lib.hid (show delI a b f c m t = (dl b f c (t.toNat - 1), 0) by unfold delI; rw [if_pos HO.out, if_pos ht])
      have HI := Lib.hid (inB_yes (n := t) (lo := 1) (hi := a - 1) (by omega))
      obtain ⟨t1, t2⟩ := ht
      go_wp2_with fail
      refine (in_any _ _ _ _).mono ?_
      rintro e w2 ⟨rfl, rfl⟩
      rw [HI.out]
      go_wp2_with fail
      have hn := CellIs.new w1 0 3
      have hta : (w1.alloc (.cells #[.int .i64 0] 3)).cell? ⟨w.heap.size + 1, 0, none⟩ = some (.int .i64 t) := by
        rw [((Below.refl w1.heap.size w1).alloc (Nat.le_refl _) _).cell (p := ⟨w.heap.size + 1, 0, none⟩) hz3]; exact q5
      refine (delays_D a b f c m t w1.heap.size (w.heap.size + 1) _ HO.out hn hta hz3 t1 t2).mono ?_
      rintro e w2 ⟨rfl, hC⟩
      have hcell := hC.cell
      have hlow : Below w.heap.size w w2 := hw1.trans ((((Below.refl w1.heap.size w1).alloc (Nat.le_refl _) _).mono (Nat.le_of_lt hz2)).trans (hC.low.mono (Nat.le_of_lt hz2)))
      clear q0 q1 q2 q3 q4 q5 hC hn hta hw1
      go_wp2_with fail
      go_ret2
      exact ⟨ret_tup2 HD.out, hlow⟩
    · have HD := Lib.hid (show delI a b f c m t = (0, 2) by unfold delI; rw [if_pos HO.out, if_neg ht])
      have HI := Lib.hid (inB_no (n := t) (lo := 1) (hi := a - 1) (by omega))
      go_wp2_with fail
      refine (in_any _ _ _ _).mono ?_
      rintro e w2 ⟨rfl, rfl⟩
      rw [HI.out]
      go_wp2_with fail
      go_ret2
      exact ⟨ret_tup2 HD.out, hw1⟩

/-! ### the references -/
set_option maxHeartbeats 1000000 in
theorem rdelay_any (a b f c m t : Int) (w : World) (hok : RP.ok ⟨a, b, f, c, m⟩ = true) (ht1 : 1 ≤ t) (ht2 : t ≤ 100) :
    Calls Try.prog 61 #[.agg #[.int .i64 a, .int .i64 b, .int .i64 f, .int .i64 c, .int .i64 m], .int .i64 t] w fun e w' => e = .returned (.int .i64 (dl b f c (t.toNat - 1))) ∧ Below w.heap.size w w' := by
  have hbd := (RP.ok_iff _).1 hok
  simp only at hbd
  obtain ⟨-, -, b1, b2, f1, f2, c1, c2, -, -⟩ := hbd
  have HD := Lib.hid (dl_bd b1 f1 c1)
  clear hok
  have hlow : Below w.heap.size w (w.alloc (.cells #[.int .i64 a, .int .i64 b, .int .i64 f, .int .i64 c, .int .i64 m] 27)) := (Below.refl _ _).alloc (Nat.le_refl _) _
  have HL := Lib.hid hlow
  clear hlow
  go_enter Try.func61, Try.ntmps61
  go_wp2_with fail
  go_loop [5, 6] (fun d k => ∃ i : Nat, 1 ≤ i ∧ (i : Int) ≤ t ∧ k = .int .i64 i ∧ d = .int .i64 (dl b f c (i - 1))) (fun _ k => 200 - (intOf k).toNat)
  case atStart => exact ⟨1, Nat.le_refl _, ht1, rfl, rfl⟩
  case round =>
    obtain ⟨i, hi1, hi2, rfl, rfl⟩ := hrel
    obtain ⟨d1, d2, -⟩ := HD.out (i - 1)
    have hmin := dl_min (b := b) (f := f) (c := c) (i - 1)
    rw [show i - 1 + 1 = i by omega] at hmin
    obtain ⟨m1, m2⟩ := mul_bd d1 d2 c2 f1 f2
    by_cases hit : (i : Int) < t
    · generalize hdq : dl b f c (i - 1) = d at *
      have HQ := Lib.hid hdq
      clear hdq
      go_wp2_with fail
      go_round
      case rel => exact ⟨i + 1, by omega, by omega, by go_num, by rw [← HQ.out, dl_if, show i - 1 + 1 = i + 1 - 1 by omega]⟩
      case measure => simp [intOf]; omega
    · have HQ := Lib.hid (show dl b f c (i - 1) = dl b f c (t.toNat - 1) by rw [show i - 1 = t.toNat - 1 by omega])
      clear hmin
      generalize dl b f c (i - 1) = d at *
      go_wp2_with fail
      go_ret
      exact ⟨ret_int HQ.out, HL.out⟩
end Go.Proofs.Ytojghgeemdpmpaa.BO
