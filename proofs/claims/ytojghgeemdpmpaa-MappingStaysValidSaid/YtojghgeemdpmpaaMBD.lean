/- The walks of the two Next. -/
import Derived.Test.YtojghgeemdpmpaaMBC
import Derived.Deep.RegionHeld3
import Derived.Deep.QuietTactic
namespace Go.Proofs.Ytojghgeemdpmpaa.BO
open Go.RowKit

def nxI (a b f c m s t n : Int) : Int × Bool × Int :=
  if RP.ok ⟨a, b, f, c, m⟩ = true then
    (if 0 ≤ s ∧ s ≤ 1073741824 ∧ 0 ≤ n ∧ n ≤ 1073741824 ∧ 1 ≤ t ∧ t ≤ a then
      (if n < s then (0, false, 11) else if t = a ∨ s + m < n + dl b f c (t.toNat - 1) then (0, false, 0) else (n + dl b f c (t.toNat - 1), true, 0))
    else (0, false, 2))
  else (0, false, 2)
def tupN (x : Int × Bool × Int) : Value := .tuple #[.int .i64 x.1, .bool x.2.1, .int .i64 x.2.2]
theorem ret_tupN {x : Int × Bool × Int} {a : Int} {q : Bool} {e : Int} (h : x = (a, q, e)) : Ending.returned (.tuple #[.int .i64 a, .bool q, .int .i64 e]) = .returned (tupN x) := by subst h; rfl
section
variable {a b f c m s t n : Int}
theorem nx_bad (h : RP.ok ⟨a, b, f, c, m⟩ = false) : nxI a b f c m s t n = (0, false, 2) := by unfold nxI; rw [if_neg (by rw [h]; simp)]
theorem nx_range (h : RP.ok ⟨a, b, f, c, m⟩ = true) (h2 : ¬ (0 ≤ s ∧ s ≤ 1073741824 ∧ 0 ≤ n ∧ n ≤ 1073741824 ∧ 1 ≤ t ∧ t ≤ a)) : nxI a b f c m s t n = (0, false, 2) := by unfold nxI; rw [if_pos h, if_neg h2]
theorem nx_order (h : RP.ok ⟨a, b, f, c, m⟩ = true) (h2 : 0 ≤ s ∧ s ≤ 1073741824 ∧ 0 ≤ n ∧ n ≤ 1073741824 ∧ 1 ≤ t ∧ t ≤ a) (h3 : n < s) : nxI a b f c m s t n = (0, false, 11) := by unfold nxI; rw [if_pos h, if_pos h2, if_pos h3]
theorem nx_last (h : RP.ok ⟨a, b, f, c, m⟩ = true) (h2 : 0 ≤ s ∧ s ≤ 1073741824 ∧ 0 ≤ n ∧ n ≤ 1073741824 ∧ 1 ≤ t ∧ t ≤ a) (h3 : ¬ n < s) (h4 : t = a ∨ s + m < n + dl b f c (t.toNat - 1)) : nxI a b f c m s t n = (0, false, 0) := by
  unfold nxI; rw [if_pos h, if_pos h2, if_neg h3, if_pos h4]
theorem nx_next (h : RP.ok ⟨a, b, f, c, m⟩ = true) (h2 : 0 ≤ s ∧ s ≤ 1073741824 ∧ 0 ≤ n ∧ n ≤ 1073741824 ∧ 1 ≤ t ∧ t ≤ a) (h3 : ¬ n < s) (h4 : ¬ (t = a ∨ s + m < n + dl b f c (t.toNat - 1))) : nxI a b f c m s t n = (n + dl b f c (t.toNat - 1), true, 0) := by
  unfold nxI; rw [if_pos h, if_pos h2, if_neg h3, if_neg h4]
end
set_option maxHeartbeats 2000000 in
set_option maxRecDepth 100000 in
theorem Next_any (a b f c m s t n : Int) (w : World) :
    Calls Try.prog 46 #[.agg #[.int .i64 a, .int .i64 b, .int .i64 f, .int .i64 c, .int .i64 m], .int .i64 s, .int .i64 t, .int .i64 n] w fun e w' => e = .returned (tupN (nxI a b f c m s t n)) ∧ Below w.heap.size w w' := by
  cases hok : RP.ok ⟨a, b, f, c, m⟩
  · have HD := Lib.hid (nx_bad (s := s) (t := t) (n := n) hok)
    have HE := Lib.hid (show RP.e ⟨a, b, f, c, m⟩ = 2 by unfold RP.e; rw [if_neg (by rw [hok]; simp)])
    clear hok
    go_enter Try.func46, Try.ntmps46
    go_wp2_with fail
    refine (Check_any a b f c m _).mono ?_
    rintro e w1 ⟨rfl, hb⟩
    rw [HE.out]
    go_wp2_with fail
    go_ret3
    exact ⟨ret_tupN HD.out, ((Below.refl _ _).alloc (Nat.le_refl _) _).trans (hb.mono (by simp))⟩
  · have HE := Lib.hid (show RP.e ⟨a, b, f, c, m⟩ = 0 by unfold RP.e; rw [if_pos hok])
    have HO := Lib.hid hok
    have hbd := (RP.ok_iff _).1 hok
    simp only at hbd
    obtain ⟨a1, a2, b1, -, f1, -, c1, c2, m1, m2⟩ := hbd
    obtain ⟨d1, d2, -⟩ := dl_bd b1 f1 c1 (t.toNat - 1)
    clear hok b1 f1 c1
    go_enter Try.func46, Try.ntmps46
    go_wp2_with fail
    refine (Check_any a b f c m _).mono ?_
    rintro e w1 ⟨rfl, hb⟩
    rw [HE.out]
    have hbx : Box w1 w.heap.size a b f c m := (Box.new w a b f c m 27).below hb (by simp)
    have hw1 : Below w.heap.size w w1 := ((Below.refl _ _).alloc (Nat.le_refl _) _).trans (hb.mono (by simp))
    have hz1 := hb.size
    simp only [World.size_alloc] at hz1
    have hz2 : w.heap.size < w1.heap.size := by omega
    have HB := Lib.hid hbx
    clear hb
    obtain ⟨q0, q1, q2, q3, q4⟩ := hbx
    go_wp2_with fail
    refine (in_any _ _ _ _).mono ?_
    rintro e w2 ⟨rfl, rfl⟩
    by_cases g1 : 0 ≤ s ∧ s ≤ 1073741824
    · rw [inB_yes g1]
      go_wp2_with fail
      refine (in_any _ _ _ _).mono ?_
      rintro e w2 ⟨rfl, rfl⟩
      by_cases g2 : 0 ≤ n ∧ n ≤ 1073741824
      · rw [inB_yes g2]
        go_wp2_with fail
        refine (in_any _ _ _ _).mono ?_
        rintro e w2 ⟨rfl, rfl⟩
        by_cases g3 : 1 ≤ t ∧ t ≤ a
        · rw [inB_yes g3]
          have hr : 0 ≤ s ∧ s ≤ 1073741824 ∧ 0 ≤ n ∧ n ≤ 1073741824 ∧ 1 ≤ t ∧ t ≤ a := ⟨g1.1, g1.2, g2.1, g2.2, g3.1, g3.2⟩
          have HR := Lib.hid hr
          obtain ⟨r1, r2, r3, r4, r5, r6⟩ := hr
          clear g1 g2 g3
          by_cases g4 : n < s
          · have HD := Lib.hid (nx_order HO.out HR.out g4)
            go_wp2_with fail
            go_ret3
            exact ⟨ret_tupN HD.out, hw1⟩
          · go_wp2_with fail
            refine (Delay_any a b f c m t _ (by omega) (by omega)).mono ?_
            rintro e w2 ⟨rfl, hb2⟩
            have hw2 := hw1.trans (hb2.mono (Nat.le_of_lt hz2))
            obtain ⟨p0, p1, p2, p3, p4⟩ := HB.out.below hb2 hz2
            clear q0 q1 q2 q3 q4 hb2
            by_cases g5 : t < a
            · have hd : delI a b f c m t = (dl b f c (t.toNat - 1), 0) := by unfold delI; rw [if_pos HO.out, if_pos ⟨r5, g5⟩]
              rw [hd]
              simp only [tup2]
              clear hd
              by_cases g6 : s + m < n + dl b f c (t.toNat - 1)
              · have HD := Lib.hid (nx_last HO.out HR.out (by omega) (.inr g6))
                generalize dl b f c (t.toNat - 1) = d at *
                go_wp2_with fail
                all_goals try (exfalso; omega)
                go_ret3
                exact ⟨ret_tupN HD.out, hw2⟩
              · have HD := Lib.hid (nx_next HO.out HR.out (by omega) (by omega))
                generalize dl b f c (t.toNat - 1) = d at *
                go_wp2_with fail
                all_goals try (exfalso; omega)
                go_ret3
                exact ⟨ret_tupN HD.out, hw2⟩
            · have HD := Lib.hid (nx_last (s := s) (n := n) HO.out HR.out (by omega) (.inl (by omega)))
              have hd : delI a b f c m t = (0, 2) := by unfold delI; rw [if_pos HO.out, if_neg (fun h => g5 h.2)]
              rw [hd]
              simp only [tup2]
              clear hd
              go_wp2_with fail
              all_goals try (exfalso; omega)
              go_ret3
              exact ⟨ret_tupN HD.out, hw2⟩
        · have HD := Lib.hid (nx_range (s := s) (t := t) (n := n) HO.out (fun h => g3 ⟨h.2.2.2.2.1, h.2.2.2.2.2⟩))
          rw [inB_no g3]
          go_wp2_with fail
          go_ret3
          exact ⟨ret_tupN HD.out, hw1⟩
      · have HD := Lib.hid (nx_range (s := s) (t := t) (n := n) HO.out (fun h => g2 ⟨h.2.2.1, h.2.2.2.1⟩))
        rw [inB_no g2]
        go_wp2_with fail
        go_ret3
        exact ⟨ret_tupN HD.out, hw1⟩
    · have HD := Lib.hid (nx_range (s := s) (t := t) (n := n) HO.out (fun h => g1 ⟨h.1, h.2.1⟩))
      rw [inB_no g1]
      go_wp2_with fail
      go_ret3
      exact ⟨ret_tupN HD.out, hw1⟩
theorem rtime_any (n : Int) (w : World) : Calls Try.prog 60 #[.int .i64 n] w fun e w' => e = .returned (.bool (inB n 0 1073741824)) ∧ w = w' := by
  rcases Int.lt_or_le n 0 with h | h
  · have HD := Lib.hid (inB_no (n := n) (lo := 0) (hi := 1073741824) (by omega))
    go_enter Try.func60, Try.ntmps60
    go_wp2
    all_goals try (exfalso; omega)
    go_ret
    exact ⟨ret_bool HD.out.symm, rfl⟩
  · rcases Int.lt_or_le 1073741824 n with h' | h'
    · have HD := Lib.hid (inB_no (n := n) (lo := 0) (hi := 1073741824) (by omega))
      have hd : decide (n ≤ 1073741824) = false := decide_eq_false (by omega)
      go_enter Try.func60, Try.ntmps60
      go_wp2
      all_goals try (exfalso; omega)
      go_ret
      exact ⟨ret_bool HD.out.symm, rfl⟩
    · have HD := Lib.hid (inB_yes (n := n) (lo := 0) (hi := 1073741824) ⟨h, h'⟩)
      have hd : decide (n ≤ 1073741824) = true := decide_eq_true h'
      go_enter Try.func60, Try.ntmps60
      go_wp2
      all_goals try (exfalso; omega)
      go_ret
      exact ⟨ret_bool HD.out.symm, rfl⟩
set_option maxHeartbeats 2000000 in
set_option maxRecDepth 100000 in
theorem rNext_any (a b f c m s t n : Int) (w : World) :
    Calls Try.prog 48 #[.agg #[.int .i64 a, .int .i64 b, .int .i64 f, .int .i64 c, .int .i64 m], .int .i64 s, .int .i64 t, .int .i64 n] w fun e w' => e = .returned (tupN (nxI a b f c m s t n)) ∧ Below w.heap.size w w' := by
  cases hok : RP.ok ⟨a, b, f, c, m⟩
  · have HD := Lib.hid (nx_bad (s := s) (t := t) (n := n) hok)
    have HE := Lib.hid (show RP.e ⟨a, b, f, c, m⟩ = 2 by unfold RP.e; rw [if_neg (by rw [hok]; simp)])
    clear hok
    go_enter Try.func48, Try.ntmps48
    go_wp2_with fail
    refine (rCheck_any a b f c m _).mono ?_
    rintro e w1 ⟨rfl, hb⟩
    rw [HE.out]
    go_wp2_with fail
    go_ret3
    exact ⟨ret_tupN HD.out, ((Below.refl _ _).alloc (Nat.le_refl _) _).trans (hb.mono (by simp))⟩
  · have HE := Lib.hid (show RP.e ⟨a, b, f, c, m⟩ = 0 by unfold RP.e; rw [if_pos hok])
    have HO := Lib.hid hok
    have hbd := (RP.ok_iff _).1 hok
    simp only at hbd
    obtain ⟨a1, a2, b1, -, f1, -, c1, c2, m1, m2⟩ := hbd
    obtain ⟨d1, d2, -⟩ := dl_bd b1 f1 c1 (t.toNat - 1)
    clear hok b1 f1 c1
    go_enter Try.func48, Try.ntmps48
    go_wp2_with fail
    refine (rCheck_any a b f c m _).mono ?_
    rintro e w1 ⟨rfl, hb⟩
    rw [HE.out]
    have hbx : Box w1 w.heap.size a b f c m := (Box.new w a b f c m 27).below hb (by simp)
    have hw1 : Below w.heap.size w w1 := ((Below.refl _ _).alloc (Nat.le_refl _) _).trans (hb.mono (by simp))
    have hz1 := hb.size
    simp only [World.size_alloc] at hz1
    have hz2 : w.heap.size < w1.heap.size := by omega
    have HB := Lib.hid hbx
    clear hb
    obtain ⟨q0, q1, q2, q3, q4⟩ := hbx
    go_wp2_with fail
    refine (rtime_any _ _).mono ?_
    rintro e w2 ⟨rfl, rfl⟩
    by_cases g1 : 0 ≤ s ∧ s ≤ 1073741824
    · rw [inB_yes g1]
      go_wp2_with fail
      refine (rtime_any _ _).mono ?_
      rintro e w2 ⟨rfl, rfl⟩
      by_cases g2 : 0 ≤ n ∧ n ≤ 1073741824
      · rw [inB_yes g2]
        have hcase : (1 ≤ t ∧ t ≤ a ∧ decide (a < t) = false) ∨ (t < 1) ∨ (1 ≤ t ∧ a < t ∧ decide (a < t) = true) := by
          rcases Int.lt_or_le t 1 with h | h
          · exact .inr (.inl h)
          · rcases Int.lt_or_le a t with h' | h'
            · exact .inr (.inr ⟨h, h', decide_eq_true h'⟩)
            · exact .inl ⟨h, h', decide_eq_false (by omega)⟩
        rcases hcase with ⟨g3, g3', gd⟩ | g3 | ⟨g3, g3', gd⟩
        · have hr : 0 ≤ s ∧ s ≤ 1073741824 ∧ 0 ≤ n ∧ n ≤ 1073741824 ∧ 1 ≤ t ∧ t ≤ a := ⟨g1.1, g1.2, g2.1, g2.2, g3, g3'⟩
          have HR := Lib.hid hr
          obtain ⟨r1, r2, r3, r4, r5, r6⟩ := hr
          clear g1 g2 g3 g3'
          by_cases g4 : n < s
          · have HD := Lib.hid (nx_order HO.out HR.out g4)
            go_wp2_with fail
            all_goals try (exfalso; omega)
            go_ret3
            exact ⟨ret_tupN HD.out, hw1⟩
          · have HG := Lib.hid g4
            by_cases g5 : t < a
            · have g5' : (t == a) = false := beq_eq_false_iff_ne.2 (by omega)
              have hbd : ∀ W, Below w1.heap.size w1 W → Box W w.heap.size a b f c m := fun W hW => HB.out.below hW hz2
              have HBD := Lib.hid hbd
              have hdr : Below w1.heap.size w1 w1.drew := (Below.refl _ _).drew
              have HDR := Lib.hid hdr
              clear hbd hdr
              go_wp2_with fail
              all_goals try (exfalso; omega)
              go_region_held3 (fun w' => w'.cell? ⟨w.heap.size, 0, none⟩ = some (.int .i64 a) ∧ w'.cell? ⟨w.heap.size, 1, none⟩ = some (.int .i64 b) ∧ w'.cell? ⟨w.heap.size, 2, none⟩ = some (.int .i64 f) ∧ w'.cell? ⟨w.heap.size, 3, none⟩ = some (.int .i64 c) ∧ w'.cell? ⟨w.heap.size, 4, none⟩ = some (.int .i64 m))
                (first | go_keep | exact ⟨(HBD.out _ HB2.out).c0, (HBD.out _ HB2.out).c1, (HBD.out _ HB2.out).c2, (HBD.out _ HB2.out).c3, (HBD.out _ HB2.out).c4⟩)
                (first | (go_at_call 61; refine (rdelay_any a b f c m t _ HO.out r5 (by omega)).mono ?_; rintro e w2 ⟨rfl, hb2⟩; have HB2 := Lib.hid (HDR.out.trans (hb2.mono HDR.out.size))))
              obtain ⟨p0, p1, p2, p3, p4⟩ := HBD.out _ HB2.out
              have hw2 := hw1.trans (HB2.out.mono (Nat.le_of_lt hz2))
              have hz3 : w.heap.size < w2.heap.size := Nat.lt_of_lt_of_le hz2 HB2.out.size
              clear q0 q1 q2 q3 q4
              by_cases g6 : s + m < n + dl b f c (t.toNat - 1)
              · have HD := Lib.hid (nx_last HO.out HR.out (by have := HG.out; omega) (.inr g6))
                generalize dl b f c (t.toNat - 1) = d at *
                have e1 : IntKind.i64.wrap (n + d) = n + d := IntWalk.i64_in _ (by omega)
                have e2 : IntKind.i64.wrap (s + m) = s + m := IntWalk.i64_in _ (by omega)
                go_wp2_with fail
                all_goals try (exfalso; omega)
                go_ret3
                exact ⟨ret_tupN HD.out, hw2⟩
              · have HD := Lib.hid (nx_next HO.out HR.out (by have := HG.out; omega) (by omega))
                have HI := Lib.hid (rdelay_any a b f c m t w2 HO.out r5 (by omega))
                generalize dl b f c (t.toNat - 1) = d at *
                have e1 : IntKind.i64.wrap (n + d) = n + d := IntWalk.i64_in _ (by omega)
                have e2 : IntKind.i64.wrap (s + m) = s + m := IntWalk.i64_in _ (by omega)
                go_wp2_with fail
                all_goals try (exfalso; omega)
                refine HI.out.mono ?_
                rintro e w3 ⟨rfl, hb3⟩
                have hw3 := hw2.trans (hb3.mono hw2.size)
                go_wp2_with fail
                go_ret3
                exact ⟨ret_tupN HD.out, hw3⟩
            · have g5' : (t == a) = true := beq_iff_eq.2 (by omega)
              have HD := Lib.hid (nx_last (s := s) (n := n) HO.out HR.out (by have := HG.out; omega) (.inl (by omega)))
              go_wp2_with fail
              all_goals try (exfalso; omega)
              go_quiet (fail)
              have hlow := fun k => hw1.trans (below_drewN' w.heap.size w1 k)
              have HL := Lib.hid hlow
              clear hlow
              go_wp2_with fail
              go_ret3
              exact ⟨ret_tupN HD.out, HL.out _⟩
        · have HD := Lib.hid (nx_range (s := s) (t := t) (n := n) HO.out (fun h => by omega))
          go_wp2_with fail
          all_goals try (exfalso; omega)
          go_ret3
          exact ⟨ret_tupN HD.out, hw1⟩
        · have HD := Lib.hid (nx_range (s := s) (t := t) (n := n) HO.out (fun h => by omega))
          go_wp2_with fail
          all_goals try (exfalso; omega)
          go_ret3
          exact ⟨ret_tupN HD.out, hw1⟩
      · have HD := Lib.hid (nx_range (s := s) (t := t) (n := n) HO.out (fun h => g2 ⟨h.2.2.1, h.2.2.2.1⟩))
        rw [inB_no g2]
        go_wp2_with fail
        go_ret3
        exact ⟨ret_tupN HD.out, hw1⟩
    · have HD := Lib.hid (nx_range (s := s) (t := t) (n := n) HO.out (fun h => g1 ⟨h.1, h.2.1⟩))
      rw [inB_no g1]
      go_wp2_with fail
      go_ret3
      exact ⟨ret_tupN HD.out, hw1⟩
end Go.Proofs.Ytojghgeemdpmpaa.BO
