/- The reference's Crash and Release. -/
import Derived.Test.YtmpaogmfceldjaaDoorKWD
namespace Go.Proofs.YtmpaogmfceldjaaDoor
open Go.RowKit
open Go.Sort (grow)

/-- The cells of an element. -/
theorem RPoolAt.elem {w : World} {B p c g : Nat} {s : PS} (h : RPoolAt w B p (some ⟨g, 0, none⟩) c s) {k : Nat} {x : Ins} (hk : s.l[k]? = some x) :
    (w.cell? ⟨g, k * 4, none⟩ = some (.string x.id) ∧ w.cell? ⟨g, k * 4 + 1, none⟩ = some (.int .i64 x.st) ∧ w.cell? ⟨g, k * 4 + 2, none⟩ = some (.int .i64 x.since) ∧ w.cell? ⟨g, k * 4 + 3, none⟩ = some (.int .i64 x.uses)) ∧ (w.frozen? ⟨g, k * 4 + 1, none⟩ = false ∧ w.frozen? ⟨g, k * 4 + 2, none⟩ = false ∧ w.frozen? ⟨g, k * 4 + 3, none⟩ = false) := by
  obtain ⟨g', cap, e, _, _, hx⟩ := h.list.at_ (by have := (List.getElem?_eq_some_iff.1 hk).1; omega)
  injection e with e _ _
  injection e with e
  injection e with e
  subst e
  exact ⟨hx k x hk, h.row.frozenAt _, h.row.frozenAt _, h.row.frozenAt _⟩
theorem at_fix {s : PS} {l : List Ins} (n : Int) : lst (at_ s n) l = ⟨s.nm, s.p, n, s.bt, l⟩ := rfl
set_option maxHeartbeats 4000000 in
set_option maxRecDepth 20000 in
theorem rCrash_any {w : World} {B p c : Nat} {A : Option Addr} {s : PS} (hP : RPoolAt w B p A c s) (hok : s.ok) (id : ByteArray) (now : Int) :
    Calls Tryd.prog 19 #[.pointer (some ⟨p, 0, none⟩), .string id, .int .i64 now] w fun e w' => e = .returned (.int .i64 (craS s id now).2) ∧ RPoolTo w B p A (craS s id now).1 w' := by
  have HY : rdy s now = 0 → craS s id now = craG s id now := fun h => by unfold craS; rw [if_pos h]
  have HN : rdy s now ≠ 0 → craS s id now = (s, rdy s now) := fun h => by unfold craS; rw [if_neg h]
  have HGG := Lib.hid (And.intro HY HN)
  have HR := Lib.hid (ready_any hP hok.mx.1 now)
  have HP := Lib.hid hP
  have h32 := hok.len32
  clear HY HN
  by_cases hr : rdy s now = 0
  · have HD := Lib.hid (HGG.out.1 hr)
    rw [hr] at HR
    have HRD := Lib.hid hr
    have HF := Lib.hid (find_any hP h32 id)
    clear hr
    rcases fd_cases s.l id with ⟨hf1, hf2, -⟩ | ⟨k, x, hf1, hf2, hf3, hf4, -⟩
    · have HC := Lib.hid (HD.out.trans (cra_none now hf2))
      rw [hf1] at HF
      clear hf1 hf2 hP hok
      go_enter Tryd.func19, Tryd.ntmps19
      go_wp2_with fail
      refine HR.out.mono ?_
      rintro e wq ⟨rfl, rfl⟩
      go_wp2_with fail
      refine HF.out.mono ?_
      rintro e wq ⟨rfl, rfl⟩
      go_wp2_with fail
      go_ret
      exact ⟨by rw [HC.out]; rfl, by rw [HC.out]; exact RPoolTo.stay HP.out (Below.refl _ _)⟩
    · subst hf3
      have HC := Lib.hid (HD.out.trans (cra_some now hf4 hf1))
      have hkl := (List.getElem?_eq_some_iff.1 hf2).1
      rw [hf1] at HF
      have hT := hP.time now
      have HT := Lib.hid hT
      have HRM := Lib.hid (remove_any (k := k) hT.1 h32 hkl)
      have q6 : w.cell? ⟨p, 6, none⟩ = some (.int .i64 s.now) := hP.blk.cell 6
      have f6 := hP.blk.frozen 6
      clear hf1 hf2 hf4 hP hok hT
      go_enter Tryd.func19, Tryd.ntmps19
      go_wp2_with fail
      refine HR.out.mono ?_
      rintro e wq ⟨rfl, rfl⟩
      go_wp2_with fail
      refine HF.out.mono ?_
      rintro e wq ⟨rfl, rfl⟩
      go_wp2_with fail
      refine HRM.out.mono ?_
      rintro e W1 ⟨rfl, hT1⟩
      have HT1 := Lib.hid (RPoolTo.before HT.out.2 hT1)
      clear hT1
      go_wp2_with fail
      go_ret
      exact ⟨by rw [HC.out]; rfl, by rw [HC.out]; exact HT1.out⟩
  · have HD := Lib.hid (HGG.out.2 hr)
    have hne : (rdy s now == 0) = false := beq_eq_false_iff_ne.2 hr
    have hne2 : (rdy s now != 0) = true := bne_iff_ne.2 hr
    clear hP hok hr
    generalize rdy s now = rr at *
    go_enter Tryd.func19, Tryd.ntmps19
    go_wp2_with fail
    refine HR.out.mono ?_
    rintro e wq ⟨rfl, rfl⟩
    go_wp2_with fail
    go_ret
    exact ⟨by rw [HD.out]; rfl, by rw [HD.out]; exact RPoolTo.stay HP.out (Below.refl _ _)⟩
theorem st_ne {s : PS} {x : Ins} (h : InsOk s x) : (x.st ≠ 3 ↔ x.st = 2) := by rcases h.st with e | e <;> omega
set_option maxHeartbeats 8000000 in
set_option maxRecDepth 20000 in
theorem rRelease_any {w : World} {B p c : Nat} {A : Option Addr} {s : PS} (hP : RPoolAt w B p A c s) (hok : s.ok) (id : ByteArray) (now : Int) :
    Calls Tryd.prog 14 #[.pointer (some ⟨p, 0, none⟩), .string id, .int .i64 now] w fun e w' => e = .returned (.int .i64 (relS s id now).2) ∧ RPoolTo w B p A (relS s id now).1 w' := by
  have HY : rdy s now = 0 → relS s id now = relG s id now := fun h => by unfold relS; rw [if_pos h]
  have HN : rdy s now ≠ 0 → relS s id now = (s, rdy s now) := fun h => by unfold relS; rw [if_neg h]
  have HGG := Lib.hid (And.intro HY HN)
  have HR := Lib.hid (ready_any hP hok.mx.1 now)
  have HP := Lib.hid hP
  have h32 := hok.len32
  clear HY HN
  by_cases hr : rdy s now = 0
  · have HD := Lib.hid (HGG.out.1 hr)
    rw [hr] at HR
    have HF := Lib.hid (find_any hP h32 id)
    clear hr
    rcases fd_cases s.l id with ⟨hf1, hf2, -⟩ | ⟨k, x, hf1, hf2, hf3, hf4, -⟩
    · have HC := Lib.hid (HD.out.trans (rel_none now hf2))
      rw [hf1] at HF
      clear hf1 hf2 hP hok
      go_enter Tryd.func14, Tryd.ntmps14
      go_wp2_with fail
      refine HR.out.mono ?_
      rintro e wq ⟨rfl, rfl⟩
      go_wp2_with fail
      refine HF.out.mono ?_
      rintro e wq ⟨rfl, rfl⟩
      go_wp2_with fail
      go_ret
      exact ⟨by rw [HC.out]; rfl, by rw [HC.out]; exact RPoolTo.stay HP.out (Below.refl _ _)⟩
    · subst hf3
      have HC := Lib.hid (HD.out.trans (rel_some now hf4 hf1))
      have hkl := (List.getElem?_eq_some_iff.1 hf2).1
      have hklI : (k : Int) < s.l.length := by omega
      rw [hf1] at HF
      have hxo := hok.els x (List.mem_of_getElem? hf2)
      have hst := st_ne hxo
      obtain ⟨g, rfl, hg, hgp, hcap⟩ := hP.slot (by omega)
      obtain ⟨⟨-, e1, e2, e3⟩, -⟩ := hP.elem hf2
      have q5 : w.cell? ⟨p, 5, none⟩ = some (.slice (some ⟨g, 0, none⟩) s.l.length c) := hP.blk.cell 5
      have HK := Lib.hid hf2
      have HST := Lib.hid hst
      clear hf1 hf2 hf4 hok hxo hst
      rcases beqs x.st 3 with ⟨hq, hs⟩ | ⟨hq, hs⟩
      · have h2 : x.st ≠ 2 := by omega
        have hq' : (x.st != 3) = false := by rw [hs]; rfl
        rcases decide_cases (now < x.since) with ⟨hd, hdb⟩ | ⟨hd, hdb⟩
        · have HE := Lib.hid (HC.out.trans (rel_2 k h2 hd))
          clear h2 hs hP hd
          go_enter Tryd.func14, Tryd.ntmps14
          go_wp2_with fail
          refine HR.out.mono ?_
          rintro e wq ⟨rfl, rfl⟩
          go_wp2_with fail
          refine HF.out.mono ?_
          rintro e wq ⟨rfl, rfl⟩
          go_wp2_with fail
          go_ret
          exact ⟨by rw [HE.out]; rfl, by rw [HE.out]; exact RPoolTo.stay HP.out (Below.refl _ _)⟩
        · have hT := hP.time now
          have HT := Lib.hid hT
          have q6 : w.cell? ⟨p, 6, none⟩ = some (.int .i64 s.now) := hP.blk.cell 6
          have f6 := hP.blk.frozen 6
          rcases decide_cases (s.p.us ≤ x.uses) with ⟨hu, hub⟩ | ⟨hu, hub⟩
          · have HE := Lib.hid (HC.out.trans (rel_3 k h2 hd hu))
            clear h2 hs hP hd hu hT
            go_enter Tryd.func14, Tryd.ntmps14
            go_wp2_with fail
            refine HR.out.mono ?_
            rintro e wq ⟨rfl, rfl⟩
            go_wp2_with fail
            refine HF.out.mono ?_
            rintro e wq ⟨rfl, rfl⟩
            go_wp2_with fail
            clear q5 q6 f6 e1 e2 e3
            generalize w.setCell ⟨p, 6, none⟩ (.int .i64 now) = W at *
            obtain ⟨⟨-, -, -, e3⟩, -⟩ := HT.out.1.elem HK.out
            have q5 : W.cell? ⟨p, 5, none⟩ = some (.slice (some ⟨g, 0, none⟩) s.l.length c) := HT.out.1.blk.cell 5
            have q3 : W.cell? ⟨p, 3, none⟩ = some (.int .i64 s.p.us) := HT.out.1.blk.cell 3
            go_quiet (fail)
            have hb := below_drewN' W.heap.size W nq
            have HRM := Lib.hid (remove_any (k := k) (HT.out.1.below hb) h32 hkl)
            have HC2 := Lib.hid (HT.out.2.below hb)
            clear hb e3 q5 q3
            generalize W.drewN nq = W2 at *
            go_wp2_with fail
            refine HRM.out.mono ?_
            rintro e W1 ⟨rfl, hT1⟩
            have HT1 := Lib.hid (RPoolTo.before HC2.out hT1)
            clear hT1
            go_wp2_with fail
            go_ret
            exact ⟨by rw [HE.out]; rfl, by rw [HE.out]; exact HT1.out⟩
          · have HE := Lib.hid (HC.out.trans (rel_4 k h2 hd hu))
            clear h2 hs hP hd hu hT
            go_enter Tryd.func14, Tryd.ntmps14
            go_wp2_with fail
            refine HR.out.mono ?_
            rintro e wq ⟨rfl, rfl⟩
            go_wp2_with fail
            refine HF.out.mono ?_
            rintro e wq ⟨rfl, rfl⟩
            go_wp2_with fail
            clear q5 q6 f6 e1 e2 e3
            generalize w.setCell ⟨p, 6, none⟩ (.int .i64 now) = W at *
            obtain ⟨⟨-, -, -, e3⟩, -⟩ := HT.out.1.elem HK.out
            have q5 : W.cell? ⟨p, 5, none⟩ = some (.slice (some ⟨g, 0, none⟩) s.l.length c) := HT.out.1.blk.cell 5
            have q3 : W.cell? ⟨p, 3, none⟩ = some (.int .i64 s.p.us) := HT.out.1.blk.cell 3
            go_quiet (fail)
            have hb := below_drewN' W.heap.size W nq
            have hP2 := HT.out.1.below hb
            have HC2 := Lib.hid (HT.out.2.below hb)
            clear hb e3 q5 q3
            generalize W.drewN nq = W2 at *
            have q5 : W2.cell? ⟨p, 5, none⟩ = some (.slice (some ⟨g, 0, none⟩) s.l.length c) := hP2.blk.cell 5
            obtain ⟨⟨-, e1, e2, -⟩, f1, f2, -⟩ := hP2.elem HK.out
            obtain ⟨hP3, hc3⟩ := hP2.setel (k := k) hkl (j := 1) (u := .int .i64 2) (f := fun x => ⟨x.id, 2, x.since, x.uses⟩) (by omega) (fun _ => rfl)
            obtain ⟨hP4, hc4⟩ := hP3.setel (k := k) (by show k < (s.l.modify k _).length; rw [List.length_modify]; exact hkl) (j := 2) (u := .int .i64 now) (f := fun x => ⟨x.id, x.st, now, x.uses⟩) (by omega) (fun _ => rfl)
            have HQ := Lib.hid (show RPoolTo w B p (some ⟨g, 0, none⟩) ⟨s.nm, s.p, now, s.bt, s.l.modify k (bck now)⟩ ((W2.setCell ⟨g, k * 4 + 1, none⟩ (.int .i64 2)).setCell ⟨g, k * 4 + 2, none⟩ (.int .i64 now)) from by
              have e : (s.l.modify k fun x => ⟨x.id, 2, x.since, x.uses⟩).modify k (fun x => ⟨x.id, x.st, now, x.uses⟩) = s.l.modify k (bck now) := by
                rw [List.modify_modify_eq]; rfl
              have hh : RPoolAt _ B p (some ⟨g, 0, none⟩) c ⟨s.nm, s.p, now, s.bt, (s.l.modify k fun x => ⟨x.id, 2, x.since, x.uses⟩).modify k (fun x => ⟨x.id, x.st, now, x.uses⟩)⟩ := hP4
              rw [e] at hh
              exact RPoolTo.same hh ((HC2.out.trans hc3 (fun _ _ h => h)).trans hc4 (fun _ _ h => h)))
            clear hP2 hP3 hP4 hc3 hc4
            go_wp2_with fail
            go_ret
            exact ⟨by rw [HE.out]; rfl, by rw [HE.out]; exact HQ.out⟩
      · have h2 := HST.out.1 hs
        have hq' : (x.st != 3) = true := bne_iff_ne.2 hs
        have HE := Lib.hid (HC.out.trans (rel_1 k now h2))
        clear h2 hs hP
        go_enter Tryd.func14, Tryd.ntmps14
        go_wp2_with fail
        refine HR.out.mono ?_
        rintro e wq ⟨rfl, rfl⟩
        go_wp2_with fail
        refine HF.out.mono ?_
        rintro e wq ⟨rfl, rfl⟩
        go_wp2_with fail
        go_ret
        exact ⟨by rw [HE.out]; rfl, by rw [HE.out]; exact RPoolTo.stay HP.out (Below.refl _ _)⟩
  · have HD := Lib.hid (HGG.out.2 hr)
    have hne : (rdy s now == 0) = false := beq_eq_false_iff_ne.2 hr
    have hne2 : (rdy s now != 0) = true := bne_iff_ne.2 hr
    clear hP hok hr
    generalize rdy s now = rr at *
    go_enter Tryd.func14, Tryd.ntmps14
    go_wp2_with fail
    refine HR.out.mono ?_
    rintro e wq ⟨rfl, rfl⟩
    go_wp2_with fail
    go_ret
    exact ⟨by rw [HD.out]; rfl, by rw [HD.out]; exact RPoolTo.stay HP.out (Below.refl _ _)⟩
end Go.Proofs.YtmpaogmfceldjaaDoor
