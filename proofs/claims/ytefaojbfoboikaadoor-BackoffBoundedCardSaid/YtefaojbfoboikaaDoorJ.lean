/- The reference's times. -/
import Derived.Test.YtefaojbfoboikaaDoorI
namespace Go.Proofs.YtefaojbfoboikaaDoor
open Go.RowKit
/-- The slice that the reference's loop holds. -/
def RT (w1 wr : World) (l : List Int) (v : Value) : Prop := wr.ownsRow w1.heap.size 3 1 v l.length (l.map (Value.int .i64)) ∧ Below w1.heap.size w1 wr
theorem RT.new (w1 : World) (s : Int) : RT w1 (w1.alloc (.cells #[.int .i64 s] 3)) [s] (.slice (some ⟨w1.heap.size, 0, none⟩) 1 1) :=
  ⟨⟨rfl, .inr ⟨w1.heap.size, 1, #[.int .i64 s], rfl, Nat.le_refl _, heap_alloc_new _ _, by simp [maxLen]⟩⟩, (Below.refl _ _).alloc (Nat.le_refl _) _⟩
theorem own_below {w w' : World} {base : Nat} {e : TypeId} {v : Value} {n : Nat} {xs : List Value} (h : w.ownsRow base e 1 v n xs) (hb : Below w.heap.size w w') : w'.ownsRow base e 1 v n xs := by
  refine ⟨h.1, ?_⟩
  rcases h.2 with h0 | ⟨g, cap, cur, hv, h1, hg, hr⟩
  · exact .inl h0
  · exact .inr ⟨g, cap, cur, hv, h1, (hb.block g (Array.getElem?_eq_some_iff.1 hg).1).trans hg, hr⟩
theorem own_base {w : World} {base base' : Nat} {e : TypeId} {v : Value} {n : Nat} {xs : List Value} (h : w.ownsRow base e 1 v n xs) (hb : base' ≤ base) : w.ownsRow base' e 1 v n xs := by
  refine ⟨h.1, ?_⟩
  rcases h.2 with h0 | ⟨g, cap, cur, hv, h1, hg, hr⟩
  · exact .inl h0
  · exact .inr ⟨g, cap, cur, hv, Nat.le_trans hb h1, hg, hr⟩
theorem RT.step {w1 w2 w3 : World} {l : List Int} {g cap : Nat} {y : Int} {v' : Value} {T : TypeId} (hl : 0 < l.length) (h : w2.ownsRow w1.heap.size 3 1 (.slice (some ⟨g, 0, none⟩) l.length cap) l.length (l.map (Value.int .i64)) ∧ Below w1.heap.size w1 w2)
    (ho : w3.ownsRow w1.heap.size 3 1 v' (l.length + 1) (l.map (Value.int .i64) ++ [.int .i64 y])) (hg : (w2.alloc (.cells #[.int .i64 y] T)).grownBy w3 (some g)) : RT w1 w3 (l ++ [y]) v' := by
  refine ⟨by simpa using ho, ?_⟩
  obtain ⟨g2, cap2, hv, h1, h2⟩ := own_form h.1 hl
  have e : g = g2 := by injection hv with a1 _ _; injection a1 with a1; injection a1 with a1
  subst e
  exact (h.2.alloc h.2.size _).grown hg (by simp; have := h.2.size; omega) (fun k hk => by have hk' : g = k := (by injection hk); omega)
set_option maxHeartbeats 4000000 in
set_option maxRecDepth 100000 in
theorem rTimes_any (a b f c m s : Int) (w : World) :
    Calls Tryd.prog 18 #[.agg #[.int .i64 a, .int .i64 b, .int .i64 f, .int .i64 c, .int .i64 m], .int .i64 s] w fun e w' => TimP w w' (timI a b f c m s) e := by
  obtain ⟨i0, hi, hz0, hzz1, hzz2⟩ := info_parts info3
  cases hok : RP.ok ⟨a, b, f, c, m⟩
  · have HD := Lib.hid (show timI a b f c m s = ([], 2) by unfold timI; rw [if_neg (by rw [hok]; simp)])
    have HE := Lib.hid (show RP.e ⟨a, b, f, c, m⟩ = 2 by unfold RP.e; rw [if_neg (by rw [hok]; simp)])
    clear hok
    go_enter Tryd.func18, Tryd.ntmps18
    go_wp2_with fail
    refine (rCheck_any a b f c m _).mono ?_
    rintro e w1 ⟨rfl, hb⟩
    rw [HE.out]
    go_wp2_with fail
    go_ret2
    exact TimP.none HD.out rfl (((Below.refl _ _).alloc (Nat.le_refl _) _).trans (hb.mono (by simp)))
  · have HE := Lib.hid (show RP.e ⟨a, b, f, c, m⟩ = 0 by unfold RP.e; rw [if_pos hok])
    have HO := Lib.hid hok
    have hbd := (RP.ok_iff _).1 hok
    simp only at hbd
    obtain ⟨a1, a2, b1, b2, f1, f2, c1, c2, m1, m2⟩ := hbd
    have HS := Lib.hid (And.intro (dl_bd b1 f1 c1) (tm_facts (s := s) b1 f1 c1 m1))
    clear hok b1 b2 f1 f2 c1
    go_enter Tryd.func18, Tryd.ntmps18
    go_wp2_with fail
    refine (rCheck_any a b f c m _).mono ?_
    rintro e w1 ⟨rfl, hb⟩
    rw [HE.out]
    have hz1 := hb.size
    simp only [World.size_alloc] at hz1
    have hbx : Box w1 w.heap.size a b f c m := (Box.new w a b f c m 23).below hb (by simp)
    have hw1 : Below w.heap.size w w1 := ((Below.refl _ _).alloc (Nat.le_refl _) _).trans (hb.mono (by simp))
    clear hb
    have hz2 : w.heap.size < w1.heap.size := by omega
    have HB := Lib.hid hbx
    clear hbx
    by_cases ht : 0 ≤ s ∧ s ≤ 1073741824
    · have HD := Lib.hid (show timI a b f c m s = ((tmS b f c s m (a.toNat - 1)).1, 0) by unfold timI; rw [if_pos HO.out, if_pos ht])
      have HI := Lib.hid (inB_yes (n := s) (lo := 0) (hi := 1073741824) (by omega))
      obtain ⟨t1, t2⟩ := ht
      go_wp2_with fail
      refine (rtime_any _ _).mono ?_
      rintro e w2 ⟨rfl, rfl⟩
      rw [HI.out]
      go_wp2_with fail
      go_loopw [7, 8, 9] (fun o x k wr => ∃ i : Nat, 1 ≤ i ∧ (i : Int) ≤ a ∧ k = .int .i64 i ∧ x = .int .i64 (tmS b f c s m (i - 1)).2.1 ∧ (tmS b f c s m (i - 1)).2.2 = true ∧ RT w1 wr (tmS b f c s m (i - 1)).1 o) (fun _ _ k _ => 20 - (Lib.intOf k).toNat)
      case atStart => exact ⟨1, Nat.le_refl _, a1, rfl, rfl, rfl, RT.new _ _⟩
      case round =>
        obtain ⟨i, hi1, hi2, rfl, rfl, hgo, hrt⟩ := hrel
        obtain ⟨q0, q1, q2, q3, q4⟩ := HB.out.below hrt.2 hz2
        obtain ⟨d1, d2, -⟩ := HS.out.1 (i - 1)
        obtain ⟨l1, l2, -, l4, l5⟩ := HS.out.2 (i - 1)
        have hstop := fun h => tm_stop (b := b) (f := f) (c := c) (s := s) (m := m) (k := i - 1) hgo h
        have hnext := fun h => tm_go (b := b) (f := f) (c := c) (s := s) (m := m) (k := i - 1) hgo h
        rw [show i - 1 + 1 = i by omega] at hstop hnext
        have HM := Lib.hid (And.intro hstop (And.intro hnext hrt))
        clear hstop hnext hrt hgo
        by_cases hia : (i : Int) < a
        · go_wp2_with fail
          refine (rdelay_any a b f c m i _ HO.out (by omega) (by omega)).mono ?_
          rintro e w2 ⟨rfl, hb2⟩
          rw [Int.toNat_natCast]
          have hx4 : w2.cell? ⟨w.heap.size, 4, none⟩ = some (.int .i64 m) := (hb2.cell (p := ⟨w.heap.size, 4, none⟩) (by have := HM.out.2.2.2.size; show w.heap.size < _; omega)).trans q4
          have hx0 : w2.cell? ⟨w.heap.size, 0, none⟩ = some (.int .i64 a) := (hb2.cell (p := ⟨w.heap.size, 0, none⟩) (by have := HM.out.2.2.2.size; show w.heap.size < _; omega)).trans q0
          obtain ⟨hstop, hnext, hown, hbel⟩ := HM.out
          have hsz := hbel.size
          have hbel2 := hbel.trans (hb2.mono hbel.size)
          have hown2 := own_below hown hb2
          clear q0 q1 q2 q3 q4 HM
          generalize dl b f c (i - 1) = d at *
          generalize hL : (tmS b f c s m (i - 1)).1 = l at *
          generalize (tmS b f c s m (i - 1)).2.1 = x at *
          clear hL
          have hsz2 := hb2.size
          by_cases hs : s + m < x + d
          · have HQ := Lib.hid (hstop hs)
            have HR := Lib.hid (And.intro hown2 hbel2)
            clear hstop hnext hown hbel hown2 hbel2 hb2
            go_wp2_with fail
            go_ret2
            have hd := tm_done (b := b) (f := f) (c := c) (s := s) (m := m) (k := i) (by rw [HQ.out]) (a.toNat - 1 - i)
            rw [show i + (a.toNat - 1 - i) = a.toNat - 1 by omega, HQ.out] at hd
            rw [HD.out, hd]
            exact ⟨_, rfl, own_base HR.out.1 hw1.size, hw1.trans (HR.out.2.mono hw1.size)⟩
          · have HQ := Lib.hid (hnext (by omega))
            have HR := Lib.hid (And.intro hown2 hbel2)
            clear hstop hnext hown hbel hown2 hbel2 hb2
            obtain ⟨g, cap, hv, -, -⟩ := own_form HR.out.1 l1
            subst hv
            go_wp2_with (at_builtin; go_loud (refine wpList_append_own_at _ rfl (.tmp 39) (.tmp 41) 32 rfl w1.heap.size 3 i0 (.int .i64 0) 1 8 Tryd.underlying32 hi hz0 hzz1 hzz2 rfl (by decide) (.slice (some ⟨g, 0, none⟩) l.length cap) l.length (l.map (Value.int .i64)) rfl (HR.out.1.alloc _) ⟨w2.heap.size, 0, none⟩ 1 1 [.int .i64 (x + d)] rfl rfl (cells_new_at rfl) (by intro u hu; simp at hu; subst hu; rfl) (by simp only [maxLen]; omega) (by omega) (by simp; omega) ?_); intro v' w3 hown1 hgr hiff hat; clear hiff hat; have HG := Lib.hid (And.intro hown1 hgr); clear hown1 hgr)
            go_roundw
            case rel => exact ⟨i + 1, by omega, by omega, by go_num, by rw [Nat.add_sub_cancel, HQ.out], by rw [Nat.add_sub_cancel, HQ.out], by rw [Nat.add_sub_cancel, HQ.out]; exact RT.step l1 HR.out HG.out.1 HG.out.2⟩
            case measure => simp [Lib.intOf]; omega
        · have HQ := Lib.hid (HD.out.trans (by rw [show a.toNat - 1 = i - 1 by omega]))
          go_wp2_with fail
          go_ret2
          rw [HQ.out]
          exact ⟨_, rfl, own_base HM.out.2.2.1 hw1.size, hw1.trans (HM.out.2.2.2.mono hw1.size)⟩
    · have HD := Lib.hid (show timI a b f c m s = ([], 2) by unfold timI; rw [if_pos HO.out, if_neg ht])
      have HI := Lib.hid (inB_no (n := s) (lo := 0) (hi := 1073741824) (by omega))
      go_wp2_with fail
      refine (rtime_any _ _).mono ?_
      rintro e w2 ⟨rfl, rfl⟩
      rw [HI.out]
      go_wp2_with fail
      go_ret2
      exact TimP.none HD.out rfl hw1
end Go.Proofs.YtefaojbfoboikaaDoor
