/- The reference's Delete, Return. -/
import Derived.Test.YtbofclohnmojmaaGreatDoorRD3
import Derived.Test.YtbofclohnmojmaaGreatDoorRD6
namespace Go.Proofs.YtbofclohnmojmaaGreatDoor
open Go.RowKit
open Go.Sort (grow)

def DqPostR (w : World) (B q : Nat) (A A' : Option Addr) (s : QS) (rc : ByteArray) (now : Int) (e : Ending) (w' : World) : Prop :=
  (clkE s.now now ≠ 0 ∧ e = .returned (.int .i64 (clkE s.now now)) ∧ RTo w B q A A' s w') ∨
  (clkE s.now now = 0 ∧ ∃ s1, AccR s now s1 ∧ e = .returned (.int .i64 (fndS s1.now s1.l rc).2) ∧ RTo w B q A A' (delS s1 rc) w')
def RqPostR (w : World) (B q : Nat) (A A' : Option Addr) (s : QS) (rc : ByteArray) (now d : Int) (e : Ending) (w' : World) : Prop :=
  (retE s.now now d ≠ 0 ∧ e = .returned (.int .i64 (retE s.now now d)) ∧ RTo w B q A A' s w') ∨
  (retE s.now now d = 0 ∧ ∃ s1, AccR s now s1 ∧ e = .returned (.int .i64 (fndS s1.now s1.l rc).2) ∧ RTo w B q A A' (retS s1 rc (now + d)) w')
theorem RQ.backed {w : World} {B q g c c' : Nat} {A' : Option Addr} {s : QS} (h : RQ w B q (some ⟨g, 0, none⟩) c A' c' s) {i : Nat} {x : En} (hx : s.l[i]? = some x) (v : Int) :
    RQ ((w.setCell ⟨g, i * 10 + 9, none⟩ (.bool false)).setCell ⟨g, i * 10 + 7, none⟩ (.int .i64 v)) B q (some ⟨g, 0, none⟩) c A' c' { s with l := s.l.modify i (En.back v) } ∧
    Chg (ff q (some ⟨g, 0, none⟩) A') w ((w.setCell ⟨g, i * 10 + 9, none⟩ (.bool false)).setCell ⟨g, i * 10 + 7, none⟩ (.int .i64 v)) := by
  have hi := (List.getElem?_eq_some_iff.1 hx).1
  have h2 := h.setE hx (j := 9) (by omega) (En.rset9 x false) rfl
  have h3 := h2.1.setE (i := i) (x := { x with held := false }) (by simp [hi]) (j := 7) (by omega) (En.rset7 _ v) rfl
  refine ⟨?_, (h2.2.trans h3.2 (fun _ _ h => h)).mono (fun k hk => .inr (.inl (by rw [hk]; rfl)))⟩
  have := h3.1
  simp only [List.set_set] at this
  rw [modify_set (En.back v) s.l i x hx]
  exact this
section
variable {w : World} {B q c c' : Nat} {A A' : Option Addr} {s : QS}
set_option maxHeartbeats 8000000 in
set_option maxRecDepth 20000 in
theorem rDelete_any (hB : B ≤ w.heap.size) (hQ : RQ w B q A c A' c' s) (hok : s.ok) (hid : s.idd) (rc : ByteArray) (now : Int) :
    Calls Tryz.prog 35 #[.pointer (some ⟨q, 0, none⟩), .string rc, .int .i64 now] w (DqPostR w B q A A' s rc now) := by
  have HQ := Lib.hid hQ
  have HK := Lib.hid hok
  have HI := Lib.hid hid
  have HBW := Lib.hid hB
  clear hQ hok hid hB
  go_enter Tryz.func35, Tryz.ntmps35
  go_wp2_with fail
  refine (raccept_any HBW.out HQ.out HK.out now).mono ?_
  rintro e w1 (⟨hc, rfl, hq1⟩ | ⟨hc, rfl, s1, hacc, A2, c2, A3, c3, hq1, hch, hfr⟩)
  · have d1 : (clkE s.now now != 0) = true := by simpa using hc
    have HC := Lib.hid hc
    have HQ1 := Lib.hid hq1
    clear hc hq1
    go_wp2_with fail
    go_ret
    exact .inl ⟨HC.out, rfl, HQ1.out⟩
  · have HC := Lib.hid hc
    have HAC := Lib.hid hacc
    have hk1 := hacc.ok HK.out ⟨(clk0 HC.out).1, (clk0 HC.out).2.1⟩
    have HK1 := Lib.hid hk1
    have HI1 := Lib.hid (hacc.idd HI.out)
    have hnw : s1.now = now := hacc.stay.1
    have HCH := Lib.hid hch
    have HFR := Lib.hid hfr
    have HQ1 := Lib.hid hq1
    have hz1 : w.heap.size ≤ w1.heap.size := hch.size
    have hll : s1.l.length ≤ 256 := by have := hk1.len; omega
    have HBW1 := Lib.hid (Nat.le_trans HBW.out hz1)
    have HFN : Hid (∀ n, n = s1.now → Calls Tryz.prog 61 #[.pointer (some ⟨q, 0, none⟩), .string rc, .int .i64 n] w1 fun e w' => e = .returned (tup2 (fndS s1.now s1.l rc)) ∧ Below w1.heap.size w1 w') := Lib.hid (fun n hn => by subst hn; exact rfind_any hq1 hk1 HI1.out rc)
    have HNW := Lib.hid hnw
    clear hc hacc hq1 hch hfr hk1 hnw
    go_wp2_with fail
    refine (HFN.out now HNW.out.symm).mono ?_
    rintro e w2 ⟨rfl, hb⟩
    have HQ2 := Lib.hid (HQ1.out.below hb)
    have HB2 := Lib.hid hb
    have hz2 : w1.heap.size ≤ w2.heap.size := hb.size
    clear hb
    simp only [tup2]
    by_cases hf : (fndS s1.now s1.l rc).2 = 0
    · obtain ⟨i, hil, hfe⟩ := fnd_ok hf
      have HFE := Lib.hid hfe
      rw [hfe]
      simp only []
      have HRM := Lib.hid (rremove_any HQ2.out (by omega) hil)
      have HBW2 := Lib.hid (Nat.le_trans HBW1.out hz2)
      clear hf hfe hil hll
      go_wp2_with fail
      refine HRM.out.mono ?_
      intro e w3 hrm
      obtain ⟨rfl, A6, c6, hq3, hc3, hA6⟩ := HQ2.out.removed HBW2.out hrm
      have HQ3 := Lib.hid hq3
      have HC3 := Lib.hid hc3
      have HA6 := Lib.hid hA6
      clear hrm hq3 hc3 hA6
      go_wp2_with fail
      go_ret
      refine .inr ⟨HC.out, s1, HAC.out, by rw [HFE.out]; rfl, ?_⟩
      have e2 : delS s1 rc = { s1 with l := s1.l.eraseIdx i } := by unfold delS; rw [HFE.out, if_pos rfl]; rfl
      rw [e2]
      exact RTo.trans (w1 := w1) HCH.out HFR.out ⟨_, _, _, _, HQ3.out, ((Chg.of_below HB2.out).trans HC3.out (fun _ _ h => h)).mono (fun k hk => .inl hk), fun k hk => by
        rcases hk with h | h | h
        · exact .inl (.inl h)
        · have := HA6.out k h
          right; omega
        · exact .inl (.inr (.inr h))⟩
    · have d1 : ((fndS s1.now s1.l rc).2 != 0) = true := by simpa using hf
      have HN := Lib.hid hf
      generalize hpr : fndS s1.now s1.l rc = pr at d1
      have HPR := Lib.hid hpr
      clear hf hpr
      go_wp2_with fail
      go_ret
      refine .inr ⟨HC.out, s1, HAC.out, by rw [HPR.out]; rfl, ?_⟩
      have e2 : delS s1 rc = s1 := by unfold delS; rw [if_neg HN.out]
      rw [e2]
      exact RTo.trans (w1 := w1) HCH.out HFR.out (HQ1.out.to HB2.out)
set_option maxHeartbeats 8000000 in
set_option maxRecDepth 20000 in
theorem rReturn_any (hB : B ≤ w.heap.size) (hQ : RQ w B q A c A' c' s) (hok : s.ok) (hid : s.idd) (rc : ByteArray) (now d : Int) :
    Calls Tryz.prog 36 #[.pointer (some ⟨q, 0, none⟩), .string rc, .int .i64 now, .int .i64 d] w (RqPostR w B q A A' s rc now d) := by
  have hv : 0 < s.v := by have := hok.v; omega
  have HQ := Lib.hid hQ
  have HK := Lib.hid hok
  have HI := Lib.hid hid
  have HBW := Lib.hid hB
  clear hQ hok hid hB
  go_enter Tryz.func36, Tryz.ntmps36
  go_wp2_with fail
  refine (rmade_any HQ.out hv).mono ?_
  rintro e wq ⟨rfl, hq⟩
  obtain rfl := hq.symm
  go_wp2_with fail
  refine (rtime_any d w).mono ?_
  rintro e wq ⟨rfl, hq⟩
  obtain rfl := hq.symm
  cases ht2 : timeB d with
  | false =>
    have HR := Lib.hid (show retE s.now now d = 2 by unfold retE; rw [if_pos (.inr ht2)])
    clear ht2
    go_wp2_with fail
    go_ret
    exact .inl ⟨by rw [HR.out]; decide, by rw [HR.out]; rfl, HQ.out.to (Below.refl _ _)⟩
  | true =>
    have HT2 := Lib.hid ht2
    have HRE := Lib.hid (show retE s.now now d = clkE s.now now by
      unfold retE
      cases ht1 : timeB now with
      | false => rw [if_pos (.inl rfl)]; unfold clkE; rw [if_pos ht1]
      | true => rw [if_neg (by rw [ht2]; decide)])
    clear ht2
    go_wp2_with fail
    refine (raccept_any HBW.out HQ.out HK.out now).mono ?_
    rintro e w1 (⟨hc, rfl, hq1⟩ | ⟨hc, rfl, s1, hacc, A2, c2, A3, c3, hq1, hch, hfr⟩)
    · have d1 : (clkE s.now now != 0) = true := by simpa using hc
      have HC := Lib.hid hc
      have HQ1 := Lib.hid hq1
      clear hc hq1
      go_wp2_with fail
      go_ret
      exact .inl ⟨by rw [HRE.out]; exact HC.out, by rw [HRE.out]; rfl, HQ1.out⟩
    · have HC := Lib.hid hc
      have HAC := Lib.hid hacc
      have hk1 := hacc.ok HK.out ⟨(clk0 HC.out).1, (clk0 HC.out).2.1⟩
      have HK1 := Lib.hid hk1
      have HI1 := Lib.hid (hacc.idd HI.out)
      have hnw : s1.now = now := hacc.stay.1
      have HCH := Lib.hid hch
      have HFR := Lib.hid hfr
      have HQ1 := Lib.hid hq1
      have hz1 : w.heap.size ≤ w1.heap.size := hch.size
      have hll : s1.l.length ≤ 256 := by have := hk1.len; omega
      have HBW1 := Lib.hid (Nat.le_trans HBW.out hz1)
      have HFN : Hid (∀ n, n = s1.now → Calls Tryz.prog 61 #[.pointer (some ⟨q, 0, none⟩), .string rc, .int .i64 n] w1 fun e w' => e = .returned (tup2 (fndS s1.now s1.l rc)) ∧ Below w1.heap.size w1 w') := Lib.hid (fun n hn => by subst hn; exact rfind_any hq1 hk1 HI1.out rc)
      have HNW := Lib.hid hnw
      clear hc hacc hq1 hch hfr hk1 hnw
      go_wp2_with fail
      refine (HFN.out now HNW.out.symm).mono ?_
      rintro e w2 ⟨rfl, hb⟩
      have HQ2 := Lib.hid (HQ1.out.below hb)
      have HB2 := Lib.hid hb
      have hz2 : w1.heap.size ≤ w2.heap.size := hb.size
      clear hb
      simp only [tup2]
      by_cases hf : (fndS s1.now s1.l rc).2 = 0
      · obtain ⟨i, hil, hfe⟩ := fnd_ok hf
        have HFE := Lib.hid hfe
        rw [hfe]
        simp only []
        obtain ⟨x, hx⟩ : ∃ x, s1.l[i]? = some x := ⟨_, List.getElem?_eq_getElem hil⟩
        obtain ⟨g, rfl, -, -, -⟩ := HQ2.out.row.item hx
        have q2 : w2.cell? ⟨q, 2, none⟩ = some (.slice (some ⟨g, 0, none⟩) s1.l.length c2) := HQ2.out.blk.cell 2
        have hii : (i : Int) < s1.l.length := by omega
        have hi0 : (0 : Int) ≤ i := by omega
        obtain ⟨e9, f9⟩ := HQ2.out.ecell hx (j := 9) (u := .bool x.held) rfl
        obtain ⟨e7, f7⟩ := HQ2.out.ecell hx (j := 7) (u := .int .i64 x.vis) rfl
        have hqg : q ≠ g := fun e => HQ2.out.ne.1 (by rw [e]; rfl)
        have hn2 := (clk0 HC.out)
        have HW1 := Lib.hid (w64 (x := now + d) (by have := (timeB_iff d).1 HT2.out; omega) (by have := (timeB_iff d).1 HT2.out; omega))
        have HM := Lib.hid (HQ2.out.backed hx (now + d))
        clear hf hfe hx hil hll hn2
        obtain ⟨wa1, wa2⟩ := HW1.out
        go_wp2_with fail
        go_ret
        refine .inr ⟨by rw [HRE.out]; exact HC.out, s1, HAC.out, by rw [HFE.out]; rfl, ?_⟩
        have e2 : retS s1 rc (now + d) = { s1 with l := s1.l.modify i (En.back (now + d)) } := by unfold retS; rw [HFE.out, if_pos rfl]; rfl
        rw [e2]
        exact RTo.trans (w1 := w1) HCH.out HFR.out ⟨_, _, _, _, HM.out.1, (Chg.of_below HB2.out).trans HM.out.2 (fun _ _ h => h), fun k hk => .inl hk⟩
      · have d1 : ((fndS s1.now s1.l rc).2 != 0) = true := by simpa using hf
        have HN := Lib.hid hf
        generalize hpr : fndS s1.now s1.l rc = pr at d1
        have HPR := Lib.hid hpr
        clear hf hpr
        go_wp2_with fail
        go_ret
        refine .inr ⟨by rw [HRE.out]; exact HC.out, s1, HAC.out, by rw [HPR.out]; rfl, ?_⟩
        have e2 : retS s1 rc (now + d) = s1 := by unfold retS; rw [if_neg HN.out]
        rw [e2]
        exact RTo.trans (w1 := w1) HCH.out HFR.out (HQ1.out.to HB2.out)
end
end Go.Proofs.YtbofclohnmojmaaGreatDoor
