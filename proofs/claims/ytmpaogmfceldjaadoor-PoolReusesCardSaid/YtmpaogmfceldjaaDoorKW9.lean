/- The program's Acquire: none is idle. -/
import Derived.Test.YtmpaogmfceldjaaDoorKW8
import Derived.RegionTactic
import Derived.Deep.RegionLaw
import Derived.Deep.CutRange
namespace Go.Proofs.YtmpaogmfceldjaaDoor
open Go.RowKit
open Go.Sort (grow)

theorem acq_full {s : PS} (now : Int) (h : wrm s.l = -1) (h1 : s.p.mx ≤ s.l.length) : acqG s now = (s, ⟨#[]⟩, 0, 17) := by
  unfold acqG
  rw [h, if_neg (by omega), if_pos h1]
theorem acq_long {s : PS} (now : Int) (h : wrm s.l = -1) (h1 : ¬ s.p.mx ≤ s.l.length) (h2 : 64 < (chB s.nm s.bt).size) : acqG s now = (s, ⟨#[]⟩, 0, 3) := by
  unfold acqG
  rw [h, if_neg (by omega), if_neg h1, if_pos h2]
theorem acq_boot {s : PS} (now : Int) (h : wrm s.l = -1) (h1 : ¬ s.p.mx ≤ s.l.length) (h2 : ¬ 64 < (chB s.nm s.bt).size) : acqG s now = (⟨s.nm, s.p, now, s.bt + 1, s.l ++ [⟨chB s.nm s.bt, 3, now + s.p.boot, 1⟩]⟩, chB s.nm s.bt, now + s.p.boot, 0) := by
  unfold acqG
  rw [h, if_neg (by omega), if_neg h1, if_neg h2]
theorem Child_at (nm : ByteArray) (hnm : idL nm = true) (n : Int) (h0 : 0 ≤ n) (h1 : n ≤ 1000000) (a : ByteArray) (b : Int) (he : chE nm n = (a, b)) (W : World) (hX : LaidW W) (d : Nat) (os : Array Obj) :
    Calls Tryd.prog 36 #[.string nm, .int .i64 n] (grow (redrawn W d) os) fun e w' => e = .returned (.tuple #[.string a, .int .i64 b]) ∧ ∃ p : Regrown, w' = grow (redrawn W p.d) p.os := by
  have := Child_any nm hnm n h0 h1 _ (hX.below (below_regrown W d os))
  rw [he] at this
  exact Calls.regrown_of this
theorem step_grow {w w1 : World} {B n : Nat} {v v' : Value} {xs ys : List Value} {p : Nat} {t : TypeId} {cs : Array Value} (hown : w.ownsRow B 9 1 v n xs) (hown' : w1.ownsRow B 9 1 v' (n + 1) ys) (hg : w.grownBy w1 v.ownBlock) (hp : Blk w p t cs) (hne : t ≠ 9) :
    (∃ A' c', v' = .slice A' (n + 1) c') ∧ Blk w1 p t cs := by
  obtain ⟨A', c', e⟩ := own_slice hown'
  refine ⟨⟨A', c', e⟩, ?_⟩
  exact (hg.block p hp.lt (fun e => by
    have := hp.off hown hne e.symm
    exact this rfl)).trans hp
theorem AcqCaps.chg {w0 w w' : World} {p bp bn bs ba : Nat} {now n : Int} {v : ByteArray} {S : Nat → Prop} (h : AcqCaps w0 w p bp bn bs ba now v n) (hc : Chg S w w') (hS : ∀ k, S k → k < w0.heap.size) (h0 : w0.heap.size ≤ bp) (h1 : w0.heap.size ≤ bn) : AcqCaps w0 w' p bp bn bs ba now v n :=
  ⟨hc.blk h.p_ (fun e => by have := hS _ e; omega), hc.blk h.n_ (fun e => by have := hS _ e; omega), hc.blk h.s_ (fun e => by have := hS _ e; have := h.hs; omega), hc.blk h.a_ (fun e => by have := hS _ e; have := h.ha; omega), h.hs, h.ha, h.hn, h.lo⟩
/-- The pool behind the append of an identifier: its map lacks the instance yet. -/
def BootMid (w wx : World) (B p m : Nat) (A : Option Addr) (s : PS) (id : ByteArray) : Prop :=
  ∃ A' c', Blk wx p 51 #[.string s.nm, .int .i64 s.p.mx, .int .i64 s.p.idle, .int .i64 s.p.us, .int .i64 s.p.boot, .int .i64 s.now, .int .i64 (s.bt + 1), .slice A' (s.l.length + 1) c', .map (some m)] ∧
    wx.ownsRow B 9 1 (.slice A' (s.l.length + 1) c') (s.l.length + 1) (svals (ids s.l) ++ [.string id]) ∧ Chg (fun k => k = p ∨ A.map (·.block) = some k) w wx ∧ (A'.map (·.block) = A.map (·.block) ∨ ∃ k, A'.map (·.block) = some k ∧ w.heap.size ≤ k)
theorem boot_mid {w w5 : World} {B p m c c' : Nat} {A A' : Option Addr} {s : PS} {id : ByteArray} {v' : Value} (hr : w.ownsRow B 9 1 (.slice A s.l.length c) s.l.length (svals (ids s.l)))
    (hb : Blk w p 51 #[.string s.nm, .int .i64 s.p.mx, .int .i64 s.p.idle, .int .i64 s.p.us, .int .i64 s.p.boot, .int .i64 s.now, .int .i64 (s.bt + 1), .slice A s.l.length c, .map (some m)])
    (hown : w5.ownsRow B 9 1 v' (s.l.length + 1) (svals (ids s.l) ++ [.string id])) (hg : (w.alloc (.cells #[.string id] 9)).drew.grownBy w5 (Value.slice A s.l.length c).ownBlock)
    (hblk : v'.ownBlock = (Value.slice A s.l.length c).ownBlock ∨ v'.ownBlock = some (w.alloc (.cells #[.string id] 9)).drew.heap.size) (hv : v' = .slice A' (s.l.length + 1) c') :
    BootMid w (w5.setCell ⟨p, 7, none⟩ (.slice A' (s.l.length + 1) c')) B p m A s id := by
  subst hv
  have hb5 := (step_grow (hr.drew.alloc _) hown hg ((hb.alloc _).drew) (by decide)).2
  have hpA : ∀ k, A'.map (·.block) = some k → k ≠ p := fun k hk e => by
    subst e
    exact hb5.off hown (by decide) (k := k) (by rw [own_eq]; exact hk) rfl
  refine ⟨A', c', hb5.set_ 7 _, ?_, ?_, ?_⟩
  · exact ((Chg.refl (fun k => k = p) w5).setCell (p := ⟨p, 7, none⟩) (fun _ => rfl) _).own hown (fun k hk e => hpA k (by rw [own_eq] at hk; exact hk) e)
  · refine (((Chg.refl _ w).alloc _).drew.grown hg (fun k hk _ => .inr (by rw [own_eq] at hk; exact hk))).setCell (p := ⟨p, 7, none⟩) (fun _ => .inl rfl) _
  · rcases hblk with h | h
    · left
      rw [own_eq, own_eq] at h
      exact h
    · right
      rw [own_eq] at h
      exact ⟨_, h, by show w.heap.size ≤ (w.alloc _).heap.size; simp⟩
set_option maxHeartbeats 8000000 in
set_option maxRecDepth 20000 in
theorem acqf_boot {w0 w : World} {B p m c : Nat} {A : Option Addr} {s : PS} (hP0 : PoolAt w0 B p m A c s) (hb0 : Below w0.heap.size w0 w) (hok : s.ok) (now : Int) (hnow : 0 ≤ now ∧ now ≤ 1073741824) (hX : LaidW w) (hbt : s.bt ≤ 1000000) {bp bn bs ba : Nat} (hcap : AcqCaps w0 w p bp bn bs ba now ⟨#[]⟩ 0) (hbp : w0.heap.size ≤ bp) (hbn : w0.heap.size ≤ bn) (hw : wrm s.l = -1) :
    Calls Tryd.prog 34 #[.pointer (some ⟨bp, 0, none⟩), .pointer (some ⟨bn, 0, none⟩), .pointer (some ⟨bs, 0, none⟩), .pointer (some ⟨ba, 0, none⟩)] w (AcqIn s (acqG s now) w0 B p m A bs ba) := by
  obtain ⟨i0, ih, iz0, iz1, iz2⟩ := info_parts info_str
  have hP := hP0.below hb0
  have qp : w.cell? ⟨bp, 0, none⟩ = some (.pointer (some ⟨p, 0, none⟩)) := hcap.p_.cell 0
  have HID := idle_any hP hok
  rw [hw, (idl_no (l := s.l) rfl).1, (idl_no (l := s.l) rfl).2] at HID
  have hbo := hok.boot
  have h32 := hok.len32
  have hpm := hP0.foot_lt m (.inr (.inl rfl))
  have hpp := hP0.foot_lt p (.inl rfl)
  have HH := Lib.hid HID
  have HP := Lib.hid hP
  have HP0 := Lib.hid hP0
  have HO := Lib.hid hok
  have HB0 := Lib.hid hb0
  have HCP := Lib.hid hcap
  have HX := Lib.hid hX
  have HW := Lib.hid hw
  have hz0 : w0.heap.size ≤ w.heap.size := hb0.size
  have hbtI : (s.bt : Int) ≤ 1000000 := by omega
  clear hP HID hP0 hok hb0 hcap hw hX hbt
  obtain ⟨hnow0, hnow1⟩ := hnow
  obtain ⟨hbo0, hbo1⟩ := hbo
  go_enter Tryd.func34, Tryd.ntmps34
  go_wp2_with fail
  refine HH.out.mono ?_
  rintro e w1 ⟨rfl, hb1⟩
  have hz1 := hb1.size
  have HCP1 := Lib.hid (HCP.out.on hb1)
  have HP1 := Lib.hid (HP.out.below hb1)
  have HB1 := Lib.hid (HB0.out.trans (hb1.mono hz0))
  have HX1 := Lib.hid (HX.out.below hb1)
  have qp1 : w1.cell? ⟨bp, 0, none⟩ = some (.pointer (some ⟨p, 0, none⟩)) := HCP1.out.p_.cell 0
  have q7 : w1.cell? ⟨p, 7, none⟩ = some (.slice A s.l.length c) := HP1.out.blk.cell 7
  have q1 : w1.cell? ⟨p, 1, none⟩ = some (.int .i64 s.p.mx) := HP1.out.blk.cell 1
  clear hb1 qp
  rcases decide_cases (s.p.mx ≤ (s.l.length : Int)) with ⟨hm, hmb⟩ | ⟨hm, hmb⟩
  · have HD := Lib.hid (acq_full now HW.out hm)
    clear hm
    go_wp2_with fail
    go_quiet (fail)
    have HT := Lib.hid (PoolTo.stay HP0.out (HB1.out.trans ((below_drewN' w1.heap.size w1 nq).mono HB1.out.size)))
    have HZ : Hid ((w1.drewN nq).cell? ⟨bs, 0, none⟩ = some (.string ⟨#[]⟩) ∧ (w1.drewN nq).cell? ⟨ba, 0, none⟩ = some (.int .i64 0)) := ⟨HCP1.out.s_.cell 0, HCP1.out.a_.cell 0⟩
    go_wp2_with fail
    go_ret
    exact ⟨by rw [HD.out]; rfl, by rw [HD.out]; exact HT.out, by rw [HD.out]; exact HZ.out⟩
  · have HM := Lib.hid hm
    clear hm
    go_wp2_with fail
    go_quiet (fail)
    have hb := below_drewN' w1.heap.size w1 nq
    have HCP2 := Lib.hid (HCP1.out.on hb)
    have HP2 := Lib.hid (HP1.out.below hb)
    have HB2 := Lib.hid (HB1.out.trans (hb.mono HB1.out.size))
    have HX2 := Lib.hid (HX1.out.below hb)
    clear hb qp1 q7 q1
    generalize w1.drewN nq = w2 at *
    have r1 := fun d os => cell_regrown (v := .pointer (some ⟨p, 0, none⟩)) (HCP2.out.p_.cell 0) d os
    have r2 := fun d os => cell_regrown (v := .string s.nm) (HP2.out.blk.cell 0) d os
    have r3 := fun d os => cell_regrown (v := .int .i64 s.bt) (HP2.out.blk.cell 6) d os
    go_wp2_with fail
    by_cases hc : 64 < (chB s.nm s.bt).size
    · have HD := Lib.hid (acq_long now HW.out (by have := HM.out; omega) hc)
      have HE := Lib.hid (show chE s.nm s.bt = (⟨#[]⟩, 3) from if_pos hc)
      clear hc
      refine wp_region_quiet_below (by kernel_rfl) (by kernel_rfl) ?_
      repeat (go_big_quiet_step ((go_at_call 36; go_must (exact Child_at s.nm HO.out.nm s.bt (by omega) hbtI ⟨#[]⟩ 3 HE.out w2 HX2.out _ _))))
      refine wpQuiet_nil ?_
      intro _ hw'
      obtain ⟨⟨dq, osq⟩, hw''⟩ := hw'
      subst hw''
      have hb := below_regrown w2 dq osq
      have HCP3 := Lib.hid (HCP2.out.on hb)
      have HP3 := Lib.hid (HP2.out.below hb)
      have HB3 := Lib.hid (HB2.out.trans (hb.mono HB2.out.size))
      clear hb r1 r2 r3
      generalize grow (redrawn w2 dq) osq = w3 at *
      have HT := Lib.hid (PoolTo.stay HP0.out HB3.out)
      have HZ : Hid (w3.cell? ⟨bs, 0, none⟩ = some (.string ⟨#[]⟩) ∧ w3.cell? ⟨ba, 0, none⟩ = some (.int .i64 0)) := ⟨HCP3.out.s_.cell 0, HCP3.out.a_.cell 0⟩
      go_wp2_with fail
      go_ret
      exact ⟨by rw [HD.out]; rfl, by rw [HD.out]; exact HT.out, by rw [HD.out]; exact HZ.out⟩
    · have HD := Lib.hid (acq_boot now HW.out (by have := HM.out; omega) hc)
      have HE := Lib.hid (show chE s.nm s.bt = (chB s.nm s.bt, 0) from if_neg hc)
      have HFR := Lib.hid HO.out.fresh
      have hcs : (chB s.nm s.bt).size ≤ 9223372036854775807 := by omega
      have HCS := Lib.hid hcs
      clear hc hcs
      generalize hid : chB s.nm s.bt = id at *
      clear hid
      refine wp_region_quiet_below (by kernel_rfl) (by kernel_rfl) ?_
      repeat (go_big_quiet_step ((go_at_call 36; go_must (exact Child_at s.nm HO.out.nm s.bt (by omega) hbtI id 0 HE.out w2 HX2.out _ _))))
      refine wpQuiet_nil ?_
      intro _ hw'
      obtain ⟨⟨dq, osq⟩, hw''⟩ := hw'
      subst hw''
      have hb := below_regrown w2 dq osq
      have HCP3 := Lib.hid (HCP2.out.on hb)
      have HP3 := Lib.hid (HP2.out.below hb)
      have HB3 := Lib.hid (HB2.out.trans (hb.mono HB2.out.size))
      clear hb r1 r2 r3
      generalize grow (redrawn w2 dq) osq = w3 at *
      have q6 : w3.cell? ⟨p, 6, none⟩ = some (.int .i64 s.bt) := HP3.out.blk.cell 6
      have f6 := HP3.out.blk.frozen 6
      have qp3 : w3.cell? ⟨bp, 0, none⟩ = some (.pointer (some ⟨p, 0, none⟩)) := HCP3.out.p_.cell 0
      have n0 := HCP3.out.p_.lt
      have n1 := HP3.out.blk.lt
      have hbpne : bp ≠ p := by omega
      go_wp2_with fail
      have hchg4 : Chg (fun k => k = p) w3 (w3.setCell ⟨p, 6, none⟩ (.int .i64 (s.bt + 1))) := (Chg.refl (fun k => k = p) w3).setCell (p := ⟨p, 6, none⟩) (fun _ => rfl) _
      have hrn := HP3.out.row_ne
      have HC4 := Lib.hid (((Chg.of_below (S := pf p m A) HB3.out).setCell (p := ⟨p, 6, none⟩) (fun _ => .inl rfl) (.int .i64 (s.bt + 1))))
      have HBK4 := Lib.hid (show Blk (w3.setCell ⟨p, 6, none⟩ (.int .i64 (s.bt + 1))) p 51 #[.string s.nm, .int .i64 s.p.mx, .int .i64 s.p.idle, .int .i64 s.p.us, .int .i64 s.p.boot, .int .i64 s.now, .int .i64 (s.bt + 1), .slice A s.l.length c, .map (some m)] from HP3.out.blk.set_ 6 _)
      have HRW4 := Lib.hid (hchg4.own HP3.out.row (fun k hk e => by subst e; rw [own_eq] at hk; exact hrn.1 hk))
      have HMP4 := Lib.hid (HP3.out.map.chg hchg4 (fun e => hrn.2.2 e.symm))
      have HCP4 := Lib.hid (HCP3.out.far (g := p) (j := 6) (.inr rfl) (.int .i64 (s.bt + 1)) hbpne (by omega))
      clear q6 f6 qp3 hchg4
      generalize w3.setCell ⟨p, 6, none⟩ (.int .i64 (s.bt + 1)) = w4 at *
      have q7 : w4.cell? ⟨p, 7, none⟩ = some (.slice A s.l.length c) := HBK4.out.cell 7
      have f7 := HBK4.out.frozen 7
      have qp4 : w4.cell? ⟨bp, 0, none⟩ = some (.pointer (some ⟨p, 0, none⟩)) := HCP4.out.p_.cell 0
      have n2 := HBK4.out.lt
      have n3 := HCP4.out.p_.lt
      have hz4 : w0.heap.size ≤ w4.heap.size := HC4.out.size
      have hilen : (svals (ids s.l)).length = s.l.length := by unfold svals ids; simp
      have HIL := Lib.hid hilen
      clear hilen
      have HR : Hid (Reads ((w4.drew).alloc (.cells #[.string id] 9)) (w4.heap.size + 1) 1 (some ⟨w4.heap.size, 0, none⟩) 1 [.string id]) := ⟨rfl, fun _ => ⟨_, _, rfl, by omega, fun j u hu => by have := cells_new_at (w := w4.drew) (cs := [.string id]) (e := 9) (g := w4.heap.size) rfl j u hu; rwa [Addr.add_lit] at this⟩⟩
      go_wp2_with fail
      go_cut [] from 70 to 79 (fun wx => BootMid w4 wx B p m A s id)
      case first =>
        go_region_law (refine step_append_any _ rfl (.tmp 74) (.tmp 76) 33 rfl B 9 i0 (.string ⟨#[]⟩) 1 16 Tryd.underlying33 ih iz0 iz1 iz2 rfl (by decide) (.slice A s.l.length c) s.l.length (svals (ids s.l)) (by simp [Act.eval]) (HRW4.out.drew.alloc _) (w4.heap.size + 1) (some ⟨w4.heap.size, 0, none⟩) 1 1 [.string id] (by simp [Act.eval]) HR.out (by intro u hu; simp at hu; subst hu; rfl) (by simp [maxLen]; omega) (by omega) (by have := hpp.1; simp; omega) ?_; intro v' w5 hown hgr hblk; obtain ⟨⟨A', c', hv⟩, hbk5⟩ := step_grow (HRW4.out.drew.alloc _) hown hgr ((HBK4.out.drew).alloc _) (by decide); have q75 : w5.cell? ⟨p, 7, none⟩ = some (.slice A s.l.length c) := hbk5.cell 7; have f75 := hbk5.frozen 7; have qp5 : w5.cell? ⟨bp, 0, none⟩ = some (.pointer (some ⟨p, 0, none⟩)) := (step_grow (HRW4.out.drew.alloc _) hown hgr ((HCP4.out.p_.drew).alloc _) (by decide)).2.cell 0; rw [hv])
        all_goals
          have HQ := boot_mid HRW4.out HBK4.out hown hgr hblk hv
          go_wp2_with fail
          go_meet
          exact HQ
      case rest =>
        obtain ⟨A', c', hbk5, hrw5, hc5, hA5⟩ := hcut
        have hrn0 := HP0.out.row_ne
        have hAlt : ∀ k, A.map (·.block) = some k → k < w0.heap.size := fun k hk => (HP0.out.foot_lt k (.inr (.inr hk))).2
        have HC5 := Lib.hid (HC4.out.trans hc5 (fun k _ hk => by
          rcases hk with rfl | hk
          · exact .inl rfl
          · exact .inr (.inr hk)))
        have HMP5 := Lib.hid (HMP4.out.chg hc5 (fun hk => by
          rcases hk with hk | hk
          · exact hrn0.2.2 hk.symm
          · exact hrn0.2.1 hk))
        have HCP5 := Lib.hid (HCP4.out.chg hc5 (fun k hk => by
          rcases hk with rfl | hk
          · exact hpp.2
          · exact hAlt k hk) hbp hbn)
        have HA5 := Lib.hid (show ∀ k, A'.map (·.block) = some k → A.map (·.block) = some k ∨ w4.heap.size ≤ k from fun k hk => by
          rcases hA5 with h | ⟨k', h, hk'⟩
          · exact .inl (by rw [← h]; exact hk)
          · right
            rw [h] at hk
            injection hk with hk
            omega)
        have HBK5 := Lib.hid hbk5
        have HRW5 := Lib.hid hrw5
        have HRN := Lib.hid hrn0
        have n5 := hbk5.lt
        have ns4 : bs < w4.heap.size := HCP4.out.s_.lt
        have na4 : ba < w4.heap.size := HCP4.out.a_.lt
        have HZ45 := Lib.hid hc5.size
        have HNS := Lib.hid (And.intro ns4 na4)
        clear hbk5 hrw5 hc5 hA5 hrn0 hAlt q7 f7 qp4 HR ns4 na4
        have q8 : wc.cell? ⟨p, 8, none⟩ = some (.map (some m)) := HBK5.out.cell 8
        have q4 : wc.cell? ⟨p, 4, none⟩ = some (.int .i64 s.p.boot) := HBK5.out.cell 4
        have qp5 : wc.cell? ⟨bp, 0, none⟩ = some (.pointer (some ⟨p, 0, none⟩)) := HCP5.out.p_.cell 0
        have qn5 : wc.cell? ⟨bn, 0, none⟩ = some (.int .i64 now) := HCP5.out.n_.cell 0
        go_wp2_with fail
        go_still_tail 14, (by kernel_rfl)
        change wpList _ _ _ _ _ wc.drew
        have hd : Below wc.heap.size wc wc.drew := below_drewN' wc.heap.size wc 1
        have HBK6 := Lib.hid (HBK5.out.on hd)
        have HRW6 := Lib.hid (own_below HRW5.out hd)
        have HMP6 := Lib.hid (HMP5.out.chg (S := fun _ => False) (Chg.of_below hd) (fun h => h))
        have HCP6 := Lib.hid (HCP5.out.on hd)
        have HC6 := Lib.hid (HC5.out.below hd)
        have hz56 : wc.heap.size = wc.drew.heap.size := rfl
        rw [hz56] at HZ45
        clear q8 q4 qp5 qn5 hd hz56
        generalize wc.drew = w6 at *
        have hnone : lk s.l id = none := by
          rcases fd_cases s.l id with ⟨_, h, _⟩ | ⟨k, x, _, h3, h4, _, _⟩
          · exact h
          · exact absurd h4 (HFR.out x (List.mem_of_getElem? h3))
        obtain ⟨W7, hrun, hM7, hg7⟩ := HMP6.out.put (s := id) (x := ⟨id, 3, now + s.p.boot, 1⟩) (l' := s.l ++ [⟨id, 3, now + s.p.boot, 1⟩]) HCS.out (fun t => lk_snoc (y := ⟨id, 3, now + s.p.boot, 1⟩) HFR.out t) (by rw [hnone]; simp) (by omega)
        simp only [Ins.val] at hrun
        have HPA := Lib.hid (show PoolAt W7 B p m A' c' ⟨s.nm, s.p, s.now, s.bt + 1, s.l ++ [⟨id, 3, now + s.p.boot, 1⟩]⟩ from by
          refine ⟨?_, ?_, hM7, hpp.1, hpm.1⟩
          · have := (hg7.block p HBK6.out.lt (fun e => HRN.out.2.2 (by injection e))).trans HBK6.out
            unfold Blk
            rw [this]
            simp [poolC]
          · have := HRW6.out.kept hg7 (.inr (fun e => HMP6.out.off HRW6.out (k := m) e rfl))
            simpa [ids, svals] using this)
        have HC7 := Lib.hid (HC6.out.grown hg7 (fun k hk _ => by injection hk with hk; exact .inr (.inl hk.symm)))
        have HCP7 := Lib.hid (HCP6.out.grown hg7 (by omega) (by omega) hpm.2)
        clear hM7 hg7 hnone
        have qp7 : W7.cell? ⟨bp, 0, none⟩ = some (.pointer (some ⟨p, 0, none⟩)) := HCP7.out.p_.cell 0
        have qn : W7.cell? ⟨bn, 0, none⟩ = some (.int .i64 now) := HCP7.out.n_.cell 0
        have q47 : W7.cell? ⟨p, 4, none⟩ = some (.int .i64 s.p.boot) := HPA.out.blk.cell 4
        have s1 : W7.cell? ⟨bs, 0, none⟩ = some (.string ⟨#[]⟩) := HCP7.out.s_.cell 0
        have a1 : W7.cell? ⟨ba, 0, none⟩ = some (.int .i64 0) := HCP7.out.a_.cell 0
        have s2 := HCP7.out.s_.frozen 0
        have a2 := HCP7.out.a_.frozen 0
        have d1 : bn ≠ bs := fun e => HCP7.out.n_.ne_ HCP7.out.s_ (by decide) e
        have d2 := HCP7.out.hn
        have d3 : bs ≠ ba := fun e => HCP7.out.s_.ne_ HCP7.out.a_ (by decide) e
        have d4 : bp ≠ bs := fun e => HCP7.out.p_.ne_ HCP7.out.s_ (by decide) e
        have d5 : bp ≠ ba := fun e => HCP7.out.p_.ne_ HCP7.out.a_ (by decide) e
        have d6 : p ≠ bs := by have := HCP7.out.hs; omega
        have d7 : p ≠ ba := by have := HCP7.out.ha; omega
        go_wp2_with fail
        rw [hrun]
        go_wp2_with fail
        go_region
        have HZ := Lib.hid (cell_two (u := .string id) (v := .int .i64 (now + s.p.boot)) s1 a1 d3)
        have HT := Lib.hid (PoolTo.store2 (bs := bs) (ba := ba) HPA.out HC7.out (fun k hk => by
          rcases hk with h | h | h
          · exact .inl (.inl h)
          · exact .inl (.inr (.inl h))
          · rcases HA5.out k h with h' | h'
            · exact .inl (.inr (.inr h'))
            · exact .inr (by omega)) HCP7.out.hs HCP7.out.ha (fun k hk => by
          have h2 := HCP7.out.hs
          have h3 := HCP7.out.ha
          have h4 := HNS.out
          rcases hk with h | h | h
          · omega
          · omega
          · rcases HA5.out k h with h' | h'
            · have := (HP0.out.foot_lt k (.inr (.inr h'))).2
              omega
            · omega) (.string id) (.int .i64 (now + s.p.boot)))
        go_wp2_with fail
        go_ret
        exact ⟨by rw [HD.out]; rfl, by rw [HD.out]; exact HT.out, by rw [HD.out]; exact HZ.out⟩
end Go.Proofs.YtmpaogmfceldjaaDoor
