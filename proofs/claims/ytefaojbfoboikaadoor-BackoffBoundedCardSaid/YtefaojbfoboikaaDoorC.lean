/- The walks of Delay, Total and their references. -/
import Derived.Test.YtefaojbfoboikaaDoorB
namespace Go.Proofs.YtefaojbfoboikaaDoor
open Go.RowKit

def tup2 (x : Int × Int) : Value := .tuple #[.int .i64 x.1, .int .i64 x.2]
theorem ret_tup2 {x : Int × Int} {a b : Int} (h : x = (a, b)) : Ending.returned (.tuple #[.int .i64 a, .int .i64 b]) = .returned (tup2 x) := by subst h; rfl
def inB (n lo hi : Int) : Bool := decide (lo ≤ n) && decide (n ≤ hi)
theorem inB_yes {n lo hi : Int} (h : lo ≤ n ∧ n ≤ hi) : inB n lo hi = true := by simp [inB, h.1, h.2]
theorem inB_no {n lo hi : Int} (h : ¬ (lo ≤ n ∧ n ≤ hi)) : inB n lo hi = false := by
  cases e : inB n lo hi with
  | false => rfl
  | true => exact absurd (by simpa [inB] using e) h
theorem in_any (n lo hi : Int) (w : World) : Calls Tryd.prog 22 #[.int .i64 n, .int .i64 lo, .int .i64 hi] w fun e w' => e = .returned (.bool (inB n lo hi)) ∧ w = w' := by
  rcases Int.lt_or_le n lo with h | h
  · have HD := Lib.hid (inB_no (n := n) (lo := lo) (hi := hi) (by omega))
    go_enter Tryd.func22, Tryd.ntmps22
    go_wp2
    all_goals try (exfalso; omega)
    go_ret
    exact ⟨ret_bool HD.out.symm, rfl⟩
  · rcases Int.lt_or_le hi n with h' | h'
    · have HD := Lib.hid (inB_no (n := n) (lo := lo) (hi := hi) (by omega))
      have hd : decide (n ≤ hi) = false := decide_eq_false (by omega)
      go_enter Tryd.func22, Tryd.ntmps22
      go_wp2
      all_goals try (exfalso; omega)
      go_ret
      exact ⟨ret_bool HD.out.symm, rfl⟩
    · have HD := Lib.hid (inB_yes (n := n) (lo := lo) (hi := hi) ⟨h, h'⟩)
      have hd : decide (n ≤ hi) = true := decide_eq_true h'
      go_enter Tryd.func22, Tryd.ntmps22
      go_wp2
      all_goals try (exfalso; omega)
      go_ret
      exact ⟨ret_bool HD.out.symm, rfl⟩
theorem CellIs.new (w : World) (x : Int) (T : TypeId) : CellIs (w.alloc (.cells #[.int .i64 x] T)) (w.alloc (.cells #[.int .i64 x] T)) w.heap.size x :=
  ⟨Below.refl _ _, by rw [cell_of_row _ _ _ _ T (0, 0) (heap_alloc_new w _)]; rfl, by go_simp, by simp⟩
/-- The sum of the first delays. -/
def sm (b f c : Int) : Nat → Int
  | 0 => 0
  | k + 1 => sm b f c k + dl b f c k
theorem sm_bd {b f c : Int} (hb : 1 ≤ b) (hf : 1 ≤ f) (hbc : b ≤ c) (hc : c ≤ 1073741824) (k : Nat) : 0 ≤ sm b f c k ∧ sm b f c k ≤ 1073741824 * k := by
  induction k with
  | zero => exact ⟨Int.le_refl _, by simp [sm]⟩
  | succ k ih =>
    have := dl_bd hb hf hbc k
    show 0 ≤ sm b f c k + dl b f c k ∧ sm b f c k + dl b f c k ≤ _
    omega
set_option maxHeartbeats 1000000 in
theorem delays_T (a b f c m : Int) (bn : Nat) (w : World) (hok : RP.ok ⟨a, b, f, c, m⟩ = true) (h : CellIs w w bn 0) :
    Calls Tryd.prog 24 #[.agg #[.int .i64 a, .int .i64 b, .int .i64 f, .int .i64 c, .int .i64 m], .func (.func 33) #[] #[.pointer (some ⟨bn, 0, none⟩)]] w fun e w' => e = .returned (.tuple #[]) ∧ CellIs w w' bn (sm b f c (a.toNat - 1)) := by
  have hbd := (RP.ok_iff _).1 hok
  simp only at hbd
  obtain ⟨a1, a2, b1, b2, f1, f2, c1, c2, -, -⟩ := hbd
  have HD := Lib.hid (And.intro (dl_bd b1 f1 c1) (sm_bd b1 f1 c1 c2))
  have HB0 := Box.new w a b f c m 23
  have hsz := h.size
  have hC := h.alloc (.cells #[.int .i64 a, .int .i64 b, .int .i64 f, .int .i64 c, .int .i64 m] 23)
  have HH := Lib.hid (And.intro HB0 hC)
  clear HB0 hC h hok
  go_enter Tryd.func24, Tryd.ntmps24
  go_wp2_with fail
  go_loopw [4, 5] (fun d k wr => ∃ i : Nat, 1 ≤ i ∧ (i : Int) ≤ a ∧ k = .int .i64 i ∧ d = .int .i64 (dl b f c (i - 1)) ∧ CellIs w wr bn (sm b f c (i - 1)) ∧ Box wr w.heap.size a b f c m) (fun _ k _ => 20 - (Lib.intOf k).toNat)
  case atStart => exact ⟨1, Nat.le_refl _, a1, rfl, rfl, HH.out.2, HH.out.1⟩
  case round =>
    obtain ⟨i, hi1, hi2, rfl, rfl, hcl, hbx⟩ := hrel
    obtain ⟨d1, d2, -⟩ := HD.out.1 (i - 1)
    obtain ⟨s1, s2⟩ := HD.out.2 (i - 1)
    have hmin := dl_min (b := b) (f := f) (c := c) (i - 1)
    rw [show i - 1 + 1 = i by omega] at hmin
    have hsm : sm b f c (i - 1 + 1) = sm b f c (i - 1) + dl b f c (i - 1) := rfl
    rw [show i - 1 + 1 = i by omega] at hsm
    obtain ⟨m1, m2⟩ := mul_bd d1 d2 c2 f1 f2
    have hbx2 := hbx.set (p := ⟨bn, 0, none⟩) (.int .i64 (sm b f c (i - 1) + dl b f c (i - 1))) (show bn ≠ w.heap.size by omega)
    have hcl2 := hcl.set (sm b f c (i - 1) + dl b f c (i - 1))
    have HX := Lib.hid (And.intro hcl (And.intro hcl2 hbx2))
    clear hcl hcl2 hbx2
    obtain ⟨q0, q1, q2, q3, q4⟩ := hbx
    have HM := Lib.hid (And.intro hmin hsm)
    clear hmin hsm
    by_cases hia : (i : Int) < a
    · generalize dl b f c (i - 1) = d at *
      generalize hsv : sm b f c (i - 1) = s at *
      clear hsv
      go_wp2_with fail
      rw [Int.min_eq_left d2]
      refine (T1_any (i : Int) d s bn wr HX.out.1.cell HX.out.1.free s1 (by omega) (by omega) (by omega)).mono ?_
      rintro e w1 ⟨rfl, rfl⟩
      obtain ⟨hcl, hcl2, hbx2⟩ := HX.out
      clear q0 q1 q2 q3 q4
      have HY := Lib.hid (And.intro hcl2 hbx2)
      obtain ⟨q0, q1, q2, q3, q4⟩ := hbx2
      clear hcl hcl2 HX
      generalize wr.setCell ⟨bn, 0, none⟩ (.int .i64 (s + d)) = wx at *
      have hmin := HM.out.1
      go_wp2_with fail
      go_roundw
      case rel => exact ⟨i + 1, by omega, by omega, by go_num, rfl, by rw [Nat.add_sub_cancel, HM.out.2]; exact HY.out.1, HY.out.2⟩
      case measure => simp [Lib.intOf]; omega
    · have HS := Lib.hid HX.out.1
      clear HX
      go_wp2_with fail
      go_end0
      refine ⟨rfl, ?_⟩
      rw [show a.toNat - 1 = i - 1 by omega]
      exact HS.out

def delI (a b f c m t : Int) : Int × Int := if RP.ok ⟨a, b, f, c, m⟩ = true then (if 1 ≤ t ∧ t < a then (dl b f c (t.toNat - 1), 0) else (0, 2)) else (0, 2)
set_option maxHeartbeats 1000000 in
theorem Delay_any (a b f c m t : Int) (w : World) (hb1 : -9223372036854775808 ≤ a) (hb2 : a ≤ 9223372036854775807) :
    Calls Tryd.prog 10 #[.agg #[.int .i64 a, .int .i64 b, .int .i64 f, .int .i64 c, .int .i64 m], .int .i64 t] w fun e w' => e = .returned (tup2 (delI a b f c m t)) ∧ Below w.heap.size w w' := by
  cases hok : RP.ok ⟨a, b, f, c, m⟩
  · have HD := Lib.hid (show delI a b f c m t = (0, 2) by unfold delI; rw [if_neg (by rw [hok]; simp)])
    have HE := Lib.hid (show RP.e ⟨a, b, f, c, m⟩ = 2 by unfold RP.e; rw [if_neg (by rw [hok]; simp)])
    clear hok
    go_enter Tryd.func10, Tryd.ntmps10
    go_wp2_with fail
    refine (Check_any a b f c m _).mono ?_
    rintro e w1 ⟨rfl, hb⟩
    rw [HE.out]
    go_wp2_with fail
    go_ret2
    exact ⟨ret_tup2 HD.out, (((Below.refl _ _).alloc (Nat.le_refl _) _).alloc (by simp) _).trans (hb.mono (by simp; omega))⟩
  · have HE := Lib.hid (show RP.e ⟨a, b, f, c, m⟩ = 0 by unfold RP.e; rw [if_pos hok])
    have HO := Lib.hid hok
    have hbd := (RP.ok_iff _).1 hok
    simp only at hbd
    obtain ⟨a1, a2, -⟩ := hbd
    clear hok
    go_enter Tryd.func10, Tryd.ntmps10
    go_wp2_with fail
    refine (Check_any a b f c m _).mono ?_
    rintro e w1 ⟨rfl, hb⟩
    rw [HE.out]
    obtain ⟨hc1, hf1⟩ := bcell hb
    have hz1 := hb.size
    simp only [World.size_alloc] at hc1 hf1 hz1
    have q0 : w1.cell? ⟨w.heap.size, 0, none⟩ = some (.int .i64 a) := by rw [hc1 _ _ (by omega)]; go_simp
    have q1 : w1.cell? ⟨w.heap.size, 1, none⟩ = some (.int .i64 b) := by rw [hc1 _ _ (by omega)]; go_simp
    have q2 : w1.cell? ⟨w.heap.size, 2, none⟩ = some (.int .i64 f) := by rw [hc1 _ _ (by omega)]; go_simp
    have q3 : w1.cell? ⟨w.heap.size, 3, none⟩ = some (.int .i64 c) := by rw [hc1 _ _ (by omega)]; go_simp
    have q4 : w1.cell? ⟨w.heap.size, 4, none⟩ = some (.int .i64 m) := by rw [hc1 _ _ (by omega)]; go_simp
    have q5 : w1.cell? ⟨w.heap.size + 1, 0, none⟩ = some (.int .i64 t) := by rw [hc1 _ _ (by omega)]; go_simp
    have hw1 : Below w.heap.size w w1 := (((Below.refl _ _).alloc (Nat.le_refl _) _).alloc (by simp) _).trans (hb.mono (by simp; omega))
    clear hc1 hf1 hb
    have hz2 : w.heap.size < w1.heap.size := by omega
    have hz3 : w.heap.size + 1 < w1.heap.size := by omega
    by_cases ht : 1 ≤ t ∧ t < a
    · have HD := Lib.hid (show delI a b f c m t = (dl b f c (t.toNat - 1), 0) by unfold delI; rw [if_pos HO.out, if_pos ht])
      have HI := Lib.hid (inB_yes (n := t) (lo := 1) (hi := a - 1) (by omega))
      obtain ⟨t1, t2⟩ := ht
      go_wp2_with fail
      refine (in_any _ _ _ _).mono ?_
      rintro e w2 ⟨rfl, rfl⟩
      rw [HI.out]
      go_wp2_with fail
      have hn := CellIs.new w1 0 3
      have hta : (w1.alloc (.cells #[.int .i64 0] 3)).cell? ⟨w.heap.size + 1, 0, none⟩ = some (.int .i64 t) := by
        rw [((Below.refl w1.heap.size w1).alloc (Nat.le_refl _) _).cell (p := ⟨w.heap.size + 1, 0, none⟩) hz3]; exact q5
      refine (delays_D a b f c m t w1.heap.size (w.heap.size + 1) _ HO.out hn hta hz3 t1 t2).mono ?_
      rintro e w2 ⟨rfl, hC⟩
      have hcell := hC.cell
      have hlow : Below w.heap.size w w2 := hw1.trans ((((Below.refl w1.heap.size w1).alloc (Nat.le_refl _) _).mono (Nat.le_of_lt hz2)).trans (hC.low.mono (Nat.le_of_lt hz2)))
      clear q0 q1 q2 q3 q4 q5 hC hn hta hw1
      go_wp2_with fail
      go_ret2
      exact ⟨ret_tup2 HD.out, hlow⟩
    · have HD := Lib.hid (show delI a b f c m t = (0, 2) by unfold delI; rw [if_pos HO.out, if_neg ht])
      have HI := Lib.hid (inB_no (n := t) (lo := 1) (hi := a - 1) (by omega))
      go_wp2_with fail
      refine (in_any _ _ _ _).mono ?_
      rintro e w2 ⟨rfl, rfl⟩
      rw [HI.out]
      go_wp2_with fail
      go_ret2
      exact ⟨ret_tup2 HD.out, hw1⟩

def totI (a b f c m : Int) : Int × Int := if RP.ok ⟨a, b, f, c, m⟩ = true then (sm b f c (a.toNat - 1), 0) else (0, 2)
set_option maxHeartbeats 1000000 in
theorem Total_any (a b f c m : Int) (w : World) :
    Calls Tryd.prog 14 #[.agg #[.int .i64 a, .int .i64 b, .int .i64 f, .int .i64 c, .int .i64 m]] w fun e w' => e = .returned (tup2 (totI a b f c m)) ∧ Below w.heap.size w w' := by
  cases hok : RP.ok ⟨a, b, f, c, m⟩
  · have HD := Lib.hid (show totI a b f c m = (0, 2) by unfold totI; rw [if_neg (by rw [hok]; simp)])
    have HE := Lib.hid (show RP.e ⟨a, b, f, c, m⟩ = 2 by unfold RP.e; rw [if_neg (by rw [hok]; simp)])
    clear hok
    go_enter Tryd.func14, Tryd.ntmps14
    go_wp2_with fail
    refine (Check_any a b f c m _).mono ?_
    rintro e w1 ⟨rfl, hb⟩
    rw [HE.out]
    go_wp2_with fail
    go_ret2
    exact ⟨ret_tup2 HD.out, ((Below.refl _ _).alloc (Nat.le_refl _) _).trans (hb.mono (by simp))⟩
  · have HD := Lib.hid (show totI a b f c m = (sm b f c (a.toNat - 1), 0) by unfold totI; rw [if_pos hok])
    have HE := Lib.hid (show RP.e ⟨a, b, f, c, m⟩ = 0 by unfold RP.e; rw [if_pos hok])
    have HO := Lib.hid hok
    clear hok
    go_enter Tryd.func14, Tryd.ntmps14
    go_wp2_with fail
    refine (Check_any a b f c m _).mono ?_
    rintro e w1 ⟨rfl, hb⟩
    rw [HE.out]
    obtain ⟨hc1, hf1⟩ := bcell hb
    have hz1 := hb.size
    simp only [World.size_alloc] at hc1 hf1 hz1
    have q0 : w1.cell? ⟨w.heap.size, 0, none⟩ = some (.int .i64 a) := by rw [hc1 _ _ (by omega)]; go_simp
    have q1 : w1.cell? ⟨w.heap.size, 1, none⟩ = some (.int .i64 b) := by rw [hc1 _ _ (by omega)]; go_simp
    have q2 : w1.cell? ⟨w.heap.size, 2, none⟩ = some (.int .i64 f) := by rw [hc1 _ _ (by omega)]; go_simp
    have q3 : w1.cell? ⟨w.heap.size, 3, none⟩ = some (.int .i64 c) := by rw [hc1 _ _ (by omega)]; go_simp
    have q4 : w1.cell? ⟨w.heap.size, 4, none⟩ = some (.int .i64 m) := by rw [hc1 _ _ (by omega)]; go_simp
    have hw1 : Below w.heap.size w w1 := ((Below.refl _ _).alloc (Nat.le_refl _) _).trans (hb.mono (by simp))
    clear hc1 hf1 hb
    have hz2 : w.heap.size < w1.heap.size := by omega
    go_wp2_with fail
    have hn := CellIs.new w1 0 3
    refine (delays_T a b f c m w1.heap.size _ HO.out hn).mono ?_
    rintro e w2 ⟨rfl, hC⟩
    have hcell := hC.cell
    have hlow : Below w.heap.size w w2 := hw1.trans ((((Below.refl w1.heap.size w1).alloc (Nat.le_refl _) _).mono (Nat.le_of_lt hz2)).trans (hC.low.mono (Nat.le_of_lt hz2)))
    clear q0 q1 q2 q3 q4 hC hn hw1
    go_wp2_with fail
    go_ret2
    exact ⟨ret_tup2 HD.out, hlow⟩

/-! ### the references -/
set_option maxHeartbeats 1000000 in
theorem rdelay_any (a b f c m t : Int) (w : World) (hok : RP.ok ⟨a, b, f, c, m⟩ = true) (ht1 : 1 ≤ t) (ht2 : t ≤ 100) :
    Calls Tryd.prog 26 #[.agg #[.int .i64 a, .int .i64 b, .int .i64 f, .int .i64 c, .int .i64 m], .int .i64 t] w fun e w' => e = .returned (.int .i64 (dl b f c (t.toNat - 1))) ∧ Below w.heap.size w w' := by
  have hbd := (RP.ok_iff _).1 hok
  simp only at hbd
  obtain ⟨-, -, b1, b2, f1, f2, c1, c2, -, -⟩ := hbd
  have HD := Lib.hid (dl_bd b1 f1 c1)
  clear hok
  have hlow : Below w.heap.size w (w.alloc (.cells #[.int .i64 a, .int .i64 b, .int .i64 f, .int .i64 c, .int .i64 m] 23)) := (Below.refl _ _).alloc (Nat.le_refl _) _
  have HL := Lib.hid hlow
  clear hlow
  go_enter Tryd.func26, Tryd.ntmps26
  go_wp2_with fail
  go_loop [5, 6] (fun d k => ∃ i : Nat, 1 ≤ i ∧ (i : Int) ≤ t ∧ k = .int .i64 i ∧ d = .int .i64 (dl b f c (i - 1))) (fun _ k => 200 - (Lib.intOf k).toNat)
  case atStart => exact ⟨1, Nat.le_refl _, ht1, rfl, rfl⟩
  case round =>
    obtain ⟨i, hi1, hi2, rfl, rfl⟩ := hrel
    obtain ⟨d1, d2, -⟩ := HD.out (i - 1)
    have hmin := dl_min (b := b) (f := f) (c := c) (i - 1)
    rw [show i - 1 + 1 = i by omega] at hmin
    obtain ⟨m1, m2⟩ := mul_bd d1 d2 c2 f1 f2
    by_cases hit : (i : Int) < t
    · generalize dl b f c (i - 1) = d at *
      go_wp2_with fail
      go_round
      case rel => exact ⟨i + 1, by omega, by omega, by go_num, rfl⟩
      case measure => simp [Lib.intOf]; omega
    · have HQ := Lib.hid (show dl b f c (i - 1) = dl b f c (t.toNat - 1) by rw [show i - 1 = t.toNat - 1 by omega])
      clear hmin
      generalize dl b f c (i - 1) = d at *
      go_wp2_with fail
      go_ret
      exact ⟨ret_int HQ.out, HL.out⟩
set_option maxHeartbeats 1000000 in
theorem rDelay_any (a b f c m t : Int) (w : World) :
    Calls Tryd.prog 11 #[.agg #[.int .i64 a, .int .i64 b, .int .i64 f, .int .i64 c, .int .i64 m], .int .i64 t] w fun e w' => e = .returned (tup2 (delI a b f c m t)) ∧ Below w.heap.size w w' := by
  cases hok : RP.ok ⟨a, b, f, c, m⟩
  · have HD := Lib.hid (show delI a b f c m t = (0, 2) by unfold delI; rw [if_neg (by rw [hok]; simp)])
    have HE := Lib.hid (show RP.e ⟨a, b, f, c, m⟩ = 2 by unfold RP.e; rw [if_neg (by rw [hok]; simp)])
    clear hok
    go_enter Tryd.func11, Tryd.ntmps11
    go_wp2_with fail
    refine (rCheck_any a b f c m _).mono ?_
    rintro e w1 ⟨rfl, hb⟩
    rw [HE.out]
    go_wp2_with fail
    go_ret2
    exact ⟨ret_tup2 HD.out, ((Below.refl _ _).alloc (Nat.le_refl _) _).trans (hb.mono (by simp))⟩
  · have HE := Lib.hid (show RP.e ⟨a, b, f, c, m⟩ = 0 by unfold RP.e; rw [if_pos hok])
    have HO := Lib.hid hok
    have hbd := (RP.ok_iff _).1 hok
    simp only at hbd
    obtain ⟨a1, a2, -⟩ := hbd
    clear hok
    go_enter Tryd.func11, Tryd.ntmps11
    go_wp2_with fail
    refine (rCheck_any a b f c m _).mono ?_
    rintro e w1 ⟨rfl, hb⟩
    rw [HE.out]
    obtain ⟨hc1, hf1⟩ := bcell hb
    have hz1 := hb.size
    simp only [World.size_alloc] at hc1 hf1 hz1
    have q0 : w1.cell? ⟨w.heap.size, 0, none⟩ = some (.int .i64 a) := by rw [hc1 _ _ (by omega)]; go_simp
    have q1 : w1.cell? ⟨w.heap.size, 1, none⟩ = some (.int .i64 b) := by rw [hc1 _ _ (by omega)]; go_simp
    have q2 : w1.cell? ⟨w.heap.size, 2, none⟩ = some (.int .i64 f) := by rw [hc1 _ _ (by omega)]; go_simp
    have q3 : w1.cell? ⟨w.heap.size, 3, none⟩ = some (.int .i64 c) := by rw [hc1 _ _ (by omega)]; go_simp
    have q4 : w1.cell? ⟨w.heap.size, 4, none⟩ = some (.int .i64 m) := by rw [hc1 _ _ (by omega)]; go_simp
    have hw1 : Below w.heap.size w w1 := ((Below.refl _ _).alloc (Nat.le_refl _) _).trans (hb.mono (by simp))
    clear hc1 hf1 hb
    have hz2 : w.heap.size < w1.heap.size := by omega
    by_cases ht : 1 ≤ t ∧ t < a
    · have HD := Lib.hid (show delI a b f c m t = (dl b f c (t.toNat - 1), 0) by unfold delI; rw [if_pos HO.out, if_pos ht])
      obtain ⟨t1, t2⟩ := ht
      go_wp2_with fail
      all_goals try (exfalso; omega)
      refine (rdelay_any a b f c m t _ HO.out t1 (by omega)).mono ?_
      rintro e w2 ⟨rfl, hb2⟩
      have hw2 := hw1.trans (hb2.mono (Nat.le_of_lt hz2))
      clear q0 q1 q2 q3 q4
      go_wp2_with fail
      go_ret2
      exact ⟨ret_tup2 HD.out, hw2⟩
    · have HD := Lib.hid (show delI a b f c m t = (0, 2) by unfold delI; rw [if_pos HO.out, if_neg ht])
      rcases Int.lt_or_le t 1 with h1 | h1
      · go_wp2_with fail
        all_goals try (exfalso; omega)
        go_ret2
        exact ⟨ret_tup2 HD.out, hw1⟩
      · have h2 : a ≤ t := by omega
        have hdd : decide (a ≤ t) = true := decide_eq_true h2
        clear ht
        go_wp2_with fail
        all_goals try (exfalso; omega)
        go_ret2
        exact ⟨ret_tup2 HD.out, hw1⟩
set_option maxHeartbeats 1000000 in
theorem rTotal_any (a b f c m : Int) (w : World) :
    Calls Tryd.prog 15 #[.agg #[.int .i64 a, .int .i64 b, .int .i64 f, .int .i64 c, .int .i64 m]] w fun e w' => e = .returned (tup2 (totI a b f c m)) ∧ Below w.heap.size w w' := by
  cases hok : RP.ok ⟨a, b, f, c, m⟩
  · have HD := Lib.hid (show totI a b f c m = (0, 2) by unfold totI; rw [if_neg (by rw [hok]; simp)])
    have HE := Lib.hid (show RP.e ⟨a, b, f, c, m⟩ = 2 by unfold RP.e; rw [if_neg (by rw [hok]; simp)])
    clear hok
    go_enter Tryd.func15, Tryd.ntmps15
    go_wp2_with fail
    refine (rCheck_any a b f c m _).mono ?_
    rintro e w1 ⟨rfl, hb⟩
    rw [HE.out]
    go_wp2_with fail
    go_ret2
    exact ⟨ret_tup2 HD.out, ((Below.refl _ _).alloc (Nat.le_refl _) _).trans (hb.mono (by simp))⟩
  · have HD := Lib.hid (show totI a b f c m = (sm b f c (a.toNat - 1), 0) by unfold totI; rw [if_pos hok])
    have HE := Lib.hid (show RP.e ⟨a, b, f, c, m⟩ = 0 by unfold RP.e; rw [if_pos hok])
    have HO := Lib.hid hok
    have hbd := (RP.ok_iff _).1 hok
    simp only at hbd
    obtain ⟨a1, a2, b1, -, f1, -, c1, c2, -, -⟩ := hbd
    have HS := Lib.hid (And.intro (dl_bd b1 f1 c1) (sm_bd b1 f1 c1 c2))
    clear hok b1 f1 c1 c2
    go_enter Tryd.func15, Tryd.ntmps15
    go_wp2_with fail
    refine (rCheck_any a b f c m _).mono ?_
    rintro e w1 ⟨rfl, hb⟩
    rw [HE.out]
    obtain ⟨hc1, hf1⟩ := bcell hb
    have hz1 := hb.size
    simp only [World.size_alloc] at hc1 hf1 hz1
    have hbx : Box w1 w.heap.size a b f c m := (Box.new w a b f c m 23).below hb (by simp)
    have hw1 : Below w.heap.size w w1 := ((Below.refl _ _).alloc (Nat.le_refl _) _).trans (hb.mono (by simp))
    clear hc1 hf1 hb
    have hz2 : w.heap.size < w1.heap.size := by omega
    have HB := Lib.hid hbx
    clear hbx
    go_wp2_with fail
    go_loopw [5, 6] (fun s k wr => ∃ i : Nat, 1 ≤ i ∧ (i : Int) ≤ a ∧ k = .int .i64 i ∧ s = .int .i64 (sm b f c (i - 1)) ∧ Below w1.heap.size w1 wr) (fun _ k _ => 20 - (Lib.intOf k).toNat)
    case atStart => exact ⟨1, Nat.le_refl _, a1, rfl, rfl, Below.refl _ _⟩
    case round =>
      obtain ⟨i, hi1, hi2, rfl, rfl, hbw⟩ := hrel
      obtain ⟨q0, q1, q2, q3, q4⟩ := HB.out.below hbw hz2
      obtain ⟨d1, d2, -⟩ := HS.out.1 (i - 1)
      obtain ⟨s1, s2⟩ := HS.out.2 (i - 1)
      have hcb := ((RP.ok_iff _).1 HO.out).2.2.2.2.2.2.2.1
      simp only at hcb
      have hsm : sm b f c (i - 1 + 1) = sm b f c (i - 1) + dl b f c (i - 1) := rfl
      rw [show i - 1 + 1 = i by omega] at hsm
      have HM := Lib.hid hsm
      clear hsm
      by_cases hia : (i : Int) < a
      · go_wp2_with fail
        refine (rdelay_any a b f c m i _ HO.out (by omega) (by omega)).mono ?_
        rintro e w2 ⟨rfl, hb2⟩
        rw [Int.toNat_natCast]
        have hw2 := hbw.trans (hb2.mono hbw.size)
        clear q0 q1 q2 q3 q4
        generalize dl b f c (i - 1) = d at *
        generalize sm b f c (i - 1) = s at *
        go_wp2_with fail
        go_roundw
        case rel => exact ⟨i + 1, by omega, by omega, by go_num, by rw [Nat.add_sub_cancel, HM.out], hw2⟩
        case measure => simp [Lib.intOf]; omega
      · have HQ := Lib.hid (HD.out.trans (by rw [show a.toNat - 1 = i - 1 by omega]))
        have hw2 := hw1.trans (hbw.mono (Nat.le_of_lt hz2))
        go_wp2_with fail
        go_ret2
        exact ⟨ret_tup2 HQ.out, hw2⟩
end Go.Proofs.YtefaojbfoboikaaDoor
