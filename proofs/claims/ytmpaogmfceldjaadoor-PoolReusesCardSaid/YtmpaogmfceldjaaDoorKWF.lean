/- The reference's Acquire. -/
import Derived.Test.YtmpaogmfceldjaaDoorKWE
namespace Go.Proofs.YtmpaogmfceldjaaDoor
open Go.RowKit
open Go.Sort (grow)

theorem rChild_at (nm : ByteArray) (hnm : idL nm = true) (n : Int) (h0 : 0 ≤ n) (h1 : n ≤ 1000000) (a : ByteArray) (b : Int) (he : chE nm n = (a, b)) (W : World) (d : Nat) (os : Array Obj) :
    Calls Tryd.prog 39 #[.string nm, .int .i64 n] (grow (redrawn W d) os) fun e w' => e = .returned (.tuple #[.string a, .int .i64 b]) ∧ ∃ p : Regrown, w' = grow (redrawn W p.d) p.os := by
  have := rChild_any nm hnm n h0 h1 (grow (redrawn W d) os)
  rw [he] at this
  exact Calls.regrown_of this
def rAcqPost (s : PS) (now : Int) (w : World) (B p : Nat) (A : Option Addr) (e : Ending) (w' : World) : Prop := e = .returned (tup3 (acqS s now)) ∧ RPoolTo w B p A (acqS s now).1 w'
theorem rAcqPost.mk {s : PS} {now : Int} {w w' : World} {B p : Nat} {A : Option Addr} {e : Ending} {t : PS} {a : ByteArray} {b n : Int} (h : acqS s now = (t, a, b, n)) (he : e = .returned (.tuple #[.string a, .int .i64 b, .int .i64 n])) (hT : RPoolTo w B p A t w') : rAcqPost s now w B p A e w' := by
  unfold rAcqPost
  rw [h]
  exact ⟨he, hT⟩
/-- The append of a new instance. -/
theorem rboot_done {w0 w w5 : World} {B p c c' : Nat} {A A' : Option Addr} {s : PS} {now : Int} {bt : Nat} {x : Ins} {v' : Value} {l : List Ins} (hP : RPoolAt w B p A c ⟨s.nm, s.p, now, bt, l⟩) (hc : Chg (rpf p A) w0 w)
    (hown : w5.ownsRow B 56 4 v' (l.length + 1) (l.flatMap Ins.cells ++ x.cells)) (hg : (w.alloc (.cells x.cells.toArray 56)).drew.grownBy w5 (Value.slice A l.length c).ownBlock)
    (hblk : v'.ownBlock = (Value.slice A l.length c).ownBlock ∨ v'.ownBlock = some (w.alloc (.cells x.cells.toArray 56)).drew.heap.size) (hv : v' = .slice A' (l.length + 1) c') :
    RPoolTo w0 B p A ⟨s.nm, s.p, now, bt, l ++ [x]⟩ (w5.setCell ⟨p, 5, none⟩ (.slice A' (l.length + 1) c')) := by
  subst hv
  have hpn : ∀ k, (Value.slice A l.length c).ownBlock = some k → p ≠ k := fun k hk e => by subst e; exact hP.row_ne (by rw [own_eq] at hk; exact hk)
  have hb5 : Blk w5 p 61 (rpoolC ⟨s.nm, s.p, now, bt, l⟩ A c) := (hg.block p (by show p < (w.alloc _).heap.size; have := hP.blk.lt; simp; omega) (fun e => hpn p e.symm rfl)).trans ((hP.blk.alloc _).drew)
  have hpA : ∀ k, A'.map (·.block) = some k → k ≠ p := fun k hk e => by
    subst e
    exact hb5.off hown (by decide) (k := k) (by rw [own_eq]; exact hk) rfl
  refine ⟨A', c', ⟨?_, ?_, hP.hp⟩, ?_, fun k hk => ?_⟩
  · have h := hb5.set_ 5 (.slice A' (l.length + 1) c')
    unfold Blk at h ⊢
    rw [h]
    simp [rpoolC]
  · have h := ((Chg.refl (fun k => k = p) w5).setCell (p := ⟨p, 5, none⟩) (fun _ => rfl) (.slice A' (l.length + 1) c')).own hown (fun k hk e => hpA k (by rw [own_eq] at hk; exact hk) e)
    have := OwnL.push (x := x) h
    unfold OwnL at this
    rw [List.length_append] at this ⊢
    exact this
  · exact (((hc.alloc _).drew).grown hg (fun k hk _ => .inr (by rw [own_eq] at hk; exact hk))).setCell (p := ⟨p, 5, none⟩) (fun _ => .inl rfl) _
  · rcases hk with rfl | hk
    · exact .inl (.inl rfl)
    · rcases hblk with h | h
      · left; right
        rw [own_eq, own_eq] at h
        rw [← h]; exact hk
      · right
        rw [own_eq, hk] at h
        injection h with h
        rw [h]
        exact Nat.le_trans hc.size (by show w.heap.size ≤ (w.alloc _).heap.size; simp)
set_option maxHeartbeats 8000000 in
set_option maxRecDepth 20000 in
theorem rAcquire_any {w : World} {B p c : Nat} {A : Option Addr} {s : PS} (hP : RPoolAt w B p A c s) (hok : s.ok) (hbt : s.bt ≤ 1000000) (now : Int) :
    Calls Tryd.prog 12 #[.pointer (some ⟨p, 0, none⟩), .int .i64 now] w (rAcqPost s now w B p A) := by
  obtain ⟨i0, ih, iz0, iz1, iz2⟩ := info_parts info_ins
  have HY : rdy s now = 0 → acqS s now = acqG s now := fun h => by unfold acqS; rw [if_pos h]
  have HN : rdy s now ≠ 0 → acqS s now = (s, ⟨#[]⟩, 0, rdy s now) := fun h => by unfold acqS; rw [if_neg h]
  have HGG := Lib.hid (And.intro HY HN)
  have HR := Lib.hid (ready_any hP hok.mx.1 now)
  have HP := Lib.hid hP
  have HO := Lib.hid hok
  have h32 := hok.len32
  clear HY HN
  by_cases hr : rdy s now = 0
  · have HD := Lib.hid (HGG.out.1 hr)
    rw [hr] at HR
    have hnow := rdy_now hr
    have HWM := Lib.hid (warm_any hP h32)
    clear hr
    rcases wk_cases s.l s.l.length with ⟨hw, -⟩ | ⟨j, y, hw, -, hj, hy⟩
    · -- none is idle
      have HW : Hid (wrm s.l = -1) := hw
      rw [HW.out] at HWM
      have hbo := hok.boot
      have hbtI : (s.bt : Int) ≤ 1000000 := by omega
      have q5 : w.cell? ⟨p, 5, none⟩ = some (.slice A s.l.length c) := hP.blk.cell 5
      have q1 : w.cell? ⟨p, 1, none⟩ = some (.int .i64 s.p.mx) := hP.blk.cell 1
      clear hw hP hok hbt
      obtain ⟨hn0, hn1, -⟩ := hnow
      obtain ⟨hbo0, hbo1⟩ := hbo
      rcases decide_cases (s.p.mx ≤ (s.l.length : Int)) with ⟨hm, hmb⟩ | ⟨hm, hmb⟩
      · have HE := Lib.hid (HD.out.trans (acq_full now HW.out hm))
        clear hm
        go_enter Tryd.func12, Tryd.ntmps12
        go_wp2_with fail
        refine HR.out.mono ?_
        rintro e wq ⟨rfl, rfl⟩
        go_wp2_with fail
        refine HWM.out.mono ?_
        rintro e wq ⟨rfl, n0, rfl⟩
        go_wp2_with fail
        go_quiet (fail)
        have HT := Lib.hid (RPoolTo.stay HP.out ((below_drewN' w.heap.size w n0).trans (below_drewN' w.heap.size (w.drewN n0) nq)))
        go_wp2_with fail
        go_ret3
        exact rAcqPost.mk HE.out rfl HT.out
      · have HM := Lib.hid hm
        clear hm
        by_cases hc : 64 < (chB s.nm s.bt).size
        · have HE := Lib.hid (HD.out.trans (acq_long now HW.out (by have := HM.out; omega) hc))
          have HCE := Lib.hid (show chE s.nm s.bt = (⟨#[]⟩, 3) from if_pos hc)
          clear hc
          go_enter Tryd.func12, Tryd.ntmps12
          go_wp2_with fail
          refine HR.out.mono ?_
          rintro e wq ⟨rfl, rfl⟩
          go_wp2_with fail
          refine HWM.out.mono ?_
          rintro e wq ⟨rfl, n0, rfl⟩
          go_wp2_with fail
          go_quiet (fail)
          have hb := (below_drewN' w.heap.size w n0).trans (below_drewN' w.heap.size (w.drewN n0) nq)
          have HP2 := Lib.hid (HP.out.below hb)
          have HB2 := Lib.hid hb
          clear hb q5 q1
          generalize (w.drewN n0).drewN nq = w2 at *
          have r2 := fun d os => cell_regrown (v := .string s.nm) (HP2.out.blk.cell 0) d os
          have r3 := fun d os => cell_regrown (v := .int .i64 s.bt) (HP2.out.blk.cell 7) d os
          go_wp2_with fail
          refine wp_region_quiet_below (by kernel_rfl) (by kernel_rfl) ?_
          repeat (go_big_quiet_step ((go_at_call 39; go_must (exact rChild_at s.nm HO.out.nm s.bt (by omega) hbtI ⟨#[]⟩ 3 HCE.out w2 _ _))))
          refine wpQuiet_nil ?_
          intro _ hw'
          obtain ⟨⟨dq, osq⟩, hw''⟩ := hw'
          subst hw''
          have HT := Lib.hid (RPoolTo.stay HP.out (HB2.out.trans ((below_regrown w2 dq osq).mono HB2.out.size)))
          clear r2 r3
          generalize grow (redrawn w2 dq) osq = w3 at *
          go_wp2_with fail
          go_ret3
          exact rAcqPost.mk HE.out rfl HT.out
        · have HE := Lib.hid (HD.out.trans (acq_boot now HW.out (by have := HM.out; omega) hc))
          have HCE := Lib.hid (show chE s.nm s.bt = (chB s.nm s.bt, 0) from if_neg hc)
          clear hc
          generalize hid : chB s.nm s.bt = id at *
          clear hid
          go_enter Tryd.func12, Tryd.ntmps12
          go_wp2_with fail
          refine HR.out.mono ?_
          rintro e wq ⟨rfl, rfl⟩
          go_wp2_with fail
          refine HWM.out.mono ?_
          rintro e wq ⟨rfl, n0, rfl⟩
          go_wp2_with fail
          go_quiet (fail)
          have hb := (below_drewN' w.heap.size w n0).trans (below_drewN' w.heap.size (w.drewN n0) nq)
          have HP2 := Lib.hid (HP.out.below hb)
          have HB2 := Lib.hid hb
          clear hb q5 q1
          generalize (w.drewN n0).drewN nq = w2 at *
          have r2 := fun d os => cell_regrown (v := .string s.nm) (HP2.out.blk.cell 0) d os
          have r3 := fun d os => cell_regrown (v := .int .i64 s.bt) (HP2.out.blk.cell 7) d os
          go_wp2_with fail
          refine wp_region_quiet_below (by kernel_rfl) (by kernel_rfl) ?_
          repeat (go_big_quiet_step ((go_at_call 39; go_must (exact rChild_at s.nm HO.out.nm s.bt (by omega) hbtI id 0 HCE.out w2 _ _))))
          refine wpQuiet_nil ?_
          intro _ hw'
          obtain ⟨⟨dq, osq⟩, hw''⟩ := hw'
          subst hw''
          have hb := below_regrown w2 dq osq
          have hP3 := HP2.out.below hb
          have HB3 := Lib.hid (HB2.out.trans (hb.mono HB2.out.size))
          clear r2 r3 hb
          generalize grow (redrawn w2 dq) osq = w3 at *
          have q6 : w3.cell? ⟨p, 6, none⟩ = some (.int .i64 s.now) := hP3.blk.cell 6
          have f6 := hP3.blk.frozen 6
          have q7 : w3.cell? ⟨p, 7, none⟩ = some (.int .i64 s.bt) := hP3.blk.cell 7
          have f7 := hP3.blk.frozen 7
          obtain ⟨hP4, hc4⟩ := hP3.time now
          have hrn := hP4.row_ne
          have hc5 : Chg (fun k => k = p) (w3.setCell ⟨p, 6, none⟩ (.int .i64 now)) ((w3.setCell ⟨p, 6, none⟩ (.int .i64 now)).setCell ⟨p, 7, none⟩ (.int .i64 (s.bt + 1))) := (Chg.refl (fun k => k = p) _).setCell (p := ⟨p, 7, none⟩) (fun _ => rfl) _
          have HP5 := Lib.hid (show RPoolAt ((w3.setCell ⟨p, 6, none⟩ (.int .i64 now)).setCell ⟨p, 7, none⟩ (.int .i64 (s.bt + 1))) B p A c ⟨s.nm, s.p, now, s.bt + 1, s.l⟩ from ⟨hP4.blk.set_ 7 _, hc5.own hP4.row (fun k hk e => by subst e; rw [own_eq] at hk; exact hrn hk), hP4.hp⟩)
          have HC5 := Lib.hid (((Chg.of_below (S := rpf p A) HB3.out).trans hc4 (fun _ _ h => h)).trans hc5 (fun _ _ h => .inl h))
          clear hP3 hP4 hc4 hc5 hrn
          go_wp2_with fail
          clear q6 f6 q7 f7
          generalize (w3.setCell ⟨p, 6, none⟩ (.int .i64 now)).setCell ⟨p, 7, none⟩ (.int .i64 (s.bt + 1)) = w4 at *
          have q5 : w4.cell? ⟨p, 5, none⟩ = some (.slice A s.l.length c) := HP5.out.blk.cell 5
          have f5 := HP5.out.blk.frozen 5
          have q4 : w4.cell? ⟨p, 4, none⟩ = some (.int .i64 s.p.boot) := HP5.out.blk.cell 4
          have hpl := HP5.out.blk.lt
          have hpB := HP5.out.hp
          obtain ⟨x, hx⟩ : ∃ x : Ins, x = ⟨id, 3, now + s.p.boot, 1⟩ := ⟨_, rfl⟩
          have HR4 : Hid (Reads ((w4.drew).alloc (.cells #[.string id, .int .i64 3, .int .i64 (now + s.p.boot), .int .i64 1] 56)) (w4.heap.size + 1) 4 (some ⟨w4.heap.size, 0, none⟩) 1 (⟨id, 3, now + s.p.boot, 1⟩ : Ins).cells) := ⟨rfl, fun _ => ⟨_, _, rfl, by omega, fun j u hu => by have := cells_new_at (w := w4.drew) (cs := (⟨id, 3, now + s.p.boot, 1⟩ : Ins).cells) (e := 56) (g := w4.heap.size) rfl j u hu; rwa [Addr.add_lit] at this⟩⟩
          clear hx
          have hwr : IntKind.i64.wrap (now + s.p.boot) = now + s.p.boot := IntWalk.i64_in _ (by omega)
          go_region_law (refine step_append_any _ rfl (.tmp 106) (.tmp 116) 45 rfl B 56 i0 (.agg #[.string ⟨#[]⟩, .int .i64 0, .int .i64 0, .int .i64 0]) 4 40 Tryd.underlying45 ih iz0 iz1 iz2 rfl (by decide) (.slice A s.l.length c) s.l.length (s.l.flatMap Ins.cells) (by simp [Act.eval]) (HP5.out.row.drew.alloc _) (w4.heap.size + 1) (some ⟨w4.heap.size, 0, none⟩) 1 1 (⟨id, 3, now + s.p.boot, 1⟩ : Ins).cells (by simp [Act.eval]) HR4.out (Ins.one _) (by simp [maxLen]; omega) (by omega) (by simp; omega) ?_; intro v' w5 hown hgr hblk; obtain ⟨A', c', hv⟩ := own_slice hown; have hbk5 : Blk w5 p 61 (rpoolC ⟨s.nm, s.p, now, s.bt + 1, s.l⟩ A c) := (hgr.block p (by show p < (w4.alloc _).heap.size; simp; omega) (fun e => HP5.out.row_ne (by rw [own_eq] at e; exact e.symm))).trans ((HP5.out.blk.alloc _).drew); have q55 : w5.cell? ⟨p, 5, none⟩ = some (.slice A s.l.length c) := hbk5.cell 5; have f55 := hbk5.frozen 5; have q45 : w5.cell? ⟨p, 4, none⟩ = some (.int .i64 s.p.boot) := hbk5.cell 4; rw [hv])
          all_goals
            have HQ := Lib.hid (rboot_done (x := ⟨id, 3, now + s.p.boot, 1⟩) HP5.out HC5.out hown hgr hblk hv)
            have q46 : (w5.setCell ⟨p, 5, none⟩ (.slice A' (s.l.length + 1) c')).cell? ⟨p, 4, none⟩ = some (.int .i64 s.p.boot) := (hbk5.set_ 5 (.slice A' (s.l.length + 1) c')).cell 4
            clear hown hgr hblk hv hbk5 q55 f55 q45 q5 f5 q4
            generalize w5.setCell ⟨p, 5, none⟩ (.slice A' (s.l.length + 1) c') = w6 at *
            go_wp2_with fail
            go_quiet (fail)
            go_wp2_with fail
            go_ret3
            exact rAcqPost.mk HE.out rfl (HQ.out.below (below_drewN' w6.heap.size w6 _))
    · have HW : Hid (wrm s.l = j) := hw
      rw [HW.out] at HWM
      have HE := Lib.hid (HD.out.trans (acq_warm now HW.out hj))
      have hyo := hok.els y (List.mem_of_getElem? hj)
      have u1 := hyo.u0
      have u2 := hyo.u2 hy
      have u3 := hok.us.2
      have hus : y.uses ≤ 1073741824 := by omega
      have hjl := (List.getElem?_eq_some_iff.1 hj).1
      have hjI : (j : Int) < s.l.length := by omega
      obtain ⟨g, rfl, hg, hgp, hcap⟩ := hP.slot (by omega)
      have HJ := Lib.hid hj
      clear hw hP hok hbt hnow hyo u2 u3 hy hj
      go_enter Tryd.func12, Tryd.ntmps12
      go_wp2_with fail
      refine HR.out.mono ?_
      rintro e wq ⟨rfl, rfl⟩
      go_wp2_with fail
      refine HWM.out.mono ?_
      rintro e wq ⟨rfl, n0, rfl⟩
      have hb := below_drewN' w.heap.size w n0
      have hP2 := HP.out.below hb
      have HB2 := Lib.hid hb
      clear hb
      generalize w.drewN n0 = w2 at *
      have q6 : w2.cell? ⟨p, 6, none⟩ = some (.int .i64 s.now) := hP2.blk.cell 6
      have f6 := hP2.blk.frozen 6
      have q5 : w2.cell? ⟨p, 5, none⟩ = some (.slice (some ⟨g, 0, none⟩) s.l.length c) := hP2.blk.cell 5
      obtain ⟨⟨-, e1, e2, -⟩, g1, g2, -⟩ := hP2.elem HJ.out
      obtain ⟨hP3, hc3⟩ := hP2.time now
      obtain ⟨hP4, hc4⟩ := hP3.setel (k := j) hjl (j := 1) (u := .int .i64 3) (f := fun x => ⟨x.id, 3, x.since, x.uses⟩) (by omega) (fun _ => rfl)
      obtain ⟨hP5, hc5⟩ := hP4.setel (k := j) (by show j < (s.l.modify j _).length; rw [List.length_modify]; exact hjl) (j := 2) (u := .int .i64 now) (f := fun x => ⟨x.id, x.st, now, x.uses⟩) (by omega) (fun _ => rfl)
      have HP5 := Lib.hid hP5
      have HC5 := Lib.hid ((((Chg.of_below (S := rpf p (some ⟨g, 0, none⟩)) HB2.out).trans hc3 (fun _ _ h => h)).trans hc4 (fun _ _ h => h)).trans hc5 (fun _ _ h => h))
      clear hP2 hP3 hP4 hP5 hc3 hc4 hc5
      go_wp2_with fail
      clear q6 f6 q5 e1 e2 g1 g2
      generalize ((w2.setCell ⟨p, 6, none⟩ (.int .i64 now)).setCell ⟨g, j * 4 + 1, none⟩ (.int .i64 3)).setCell ⟨g, j * 4 + 2, none⟩ (.int .i64 now) = w5 at *
      have hel : ((s.l.modify j fun x => ⟨x.id, 3, x.since, x.uses⟩).modify j fun x => ⟨x.id, x.st, now, x.uses⟩)[j]? = some ⟨y.id, 3, now, y.uses⟩ := by
        rw [List.getElem?_modify, List.getElem?_modify, HJ.out]; simp
      obtain ⟨⟨-, -, -, e3⟩, -, -, g3⟩ := HP5.out.elem (x := ⟨y.id, 3, now, y.uses⟩) hel
      have q5 : w5.cell? ⟨p, 5, none⟩ = some (.slice (some ⟨g, 0, none⟩) s.l.length c) := by have := HP5.out.blk.cell 5; simpa [rpoolC, lst, at_] using this
      have HEL := Lib.hid hel
      clear hel
      have hpl := HP5.out.blk.lt
      go_region
      obtain ⟨hP6, hc6⟩ := HP5.out.setel (k := j) (by show j < ((s.l.modify j _).modify j _).length; rw [List.length_modify, List.length_modify]; exact hjl) (j := 3) (u := .int .i64 (y.uses + 1)) (f := fun x => ⟨x.id, x.st, x.since, y.uses + 1⟩) (by omega) (fun _ => rfl)
      have HQ := Lib.hid (show RPoolAt (w5.setCell ⟨g, j * 4 + 3, none⟩ (.int .i64 (y.uses + 1))).drew B p (some ⟨g, 0, none⟩) c ⟨s.nm, s.p, now, s.bt, s.l.modify j (tak now)⟩ from by
        have e : ((s.l.modify j fun x => ⟨x.id, 3, x.since, x.uses⟩).modify j (fun x => ⟨x.id, x.st, now, x.uses⟩)).modify j (fun x => ⟨x.id, x.st, x.since, y.uses + 1⟩) = s.l.modify j (tak now) := by
          apply List.ext_getElem?
          intro i
          simp only [List.getElem?_modify]
          by_cases hi : j = i
          · subst hi; rw [HJ.out]; simp [tak]
          · simp [hi]
        have hh : RPoolAt (w5.setCell ⟨g, j * 4 + 3, none⟩ (.int .i64 (y.uses + 1))) B p (some ⟨g, 0, none⟩) c ⟨s.nm, s.p, now, s.bt, ((s.l.modify j fun x => ⟨x.id, 3, x.since, x.uses⟩).modify j (fun x => ⟨x.id, x.st, now, x.uses⟩)).modify j (fun x => ⟨x.id, x.st, x.since, y.uses + 1⟩)⟩ := hP6
        rw [e] at hh
        exact hh.below (below_drewN' _ _ 1))
      have HC6 := Lib.hid ((HC5.out.trans hc6 (fun _ _ h => h)).drew)
      clear hP6 hc6 e3 g3 q5
      generalize (w5.setCell ⟨g, j * 4 + 3, none⟩ (.int .i64 (y.uses + 1))).drew = w6 at *
      have q5 : w6.cell? ⟨p, 5, none⟩ = some (.slice (some ⟨g, 0, none⟩) s.l.length c) := by have := HQ.out.blk.cell 5; simpa [rpoolC] using this
      obtain ⟨⟨e0, -, -, -⟩, -⟩ := HQ.out.elem (k := j) (x := tak now y) (by show (s.l.modify j (tak now))[j]? = _; rw [List.getElem?_modify, HJ.out]; simp)
      simp only [tak] at e0
      go_wp2_with fail
      go_ret3
      exact rAcqPost.mk HE.out rfl (RPoolTo.same HQ.out HC6.out)
  · have HD := Lib.hid (HGG.out.2 hr)
    have hne : (rdy s now == 0) = false := beq_eq_false_iff_ne.2 hr
    have hne2 : (rdy s now != 0) = true := bne_iff_ne.2 hr
    clear hP hok hr
    generalize rdy s now = rr at *
    go_enter Tryd.func12, Tryd.ntmps12
    go_wp2_with fail
    refine HR.out.mono ?_
    rintro e wq ⟨rfl, rfl⟩
    go_wp2_with fail
    go_ret3
    exact rAcqPost.mk HD.out rfl (RPoolTo.stay HP.out (Below.refl _ _))
end Go.Proofs.YtmpaogmfceldjaaDoor
