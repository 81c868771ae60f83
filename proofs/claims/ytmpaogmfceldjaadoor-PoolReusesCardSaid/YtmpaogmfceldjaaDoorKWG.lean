/- The reference's Expire. -/
import Derived.Test.YtmpaogmfceldjaaDoorKWF
namespace Go.Proofs.YtmpaogmfceldjaaDoor
open Go.RowKit
open Go.Sort (grow)

def rExpPost (s : PS) (now : Int) (w : World) (B p : Nat) (A : Option Addr) (e : Ending) (w' : World) : Prop := ∃ v, e = .returned v ∧ OwnS w' w.heap.size v (expS s now).2 ∧ RPoolTo w B p A (expS s now).1 w'
def kept (p : PP) (now : Int) (l : List Ins) : List Ins := l.filter fun x => !old p now x
theorem kept_yes {p : PP} {now : Int} {l : List Ins} {k : Nat} {x : Ins} (h : l[k]? = some x) (hx : old p now x = false) : kept p now (l.take (k + 1)) = kept p now (l.take k) ++ [x] := by
  unfold kept
  rw [take_snoc' h, List.filter_append]
  simp [hx]
theorem kept_no {p : PP} {now : Int} {l : List Ins} {k : Nat} {x : Ins} (h : l[k]? = some x) (hx : old p now x = true) : kept p now (l.take (k + 1)) = kept p now (l.take k) := by
  unfold kept
  rw [take_snoc' h, List.filter_append]
  simp [hx]
/-- What the loop keeps. -/
structure rExpRel (w wr : World) (B p c : Nat) (A : Option Addr) (s : PS) (now : Int) (k : Nat) (v u : Value) (O : List ByteArray) (R : List Ins) : Prop where
  pool : RPoolAt wr B p A c (at_ s now)
  chg : Chg (rpf p A) w wr
  out : OwnS wr w.heap.size v O
  rest : OwnL wr w.heap.size u R
  eo : O = oids s.p now (s.l.take k)
  er : R = kept s.p now (s.l.take k)
theorem rExpRel.on {w wr w' : World} {B p c : Nat} {A : Option Addr} {s : PS} {now : Int} {k : Nat} {v u : Value} {O : List ByteArray} {R : List Ins} (h : rExpRel w wr B p c A s now k v u O R) (hb : Below wr.heap.size wr w') : rExpRel w w' B p c A s now k v u O R :=
  ⟨h.pool.below hb, h.chg.below hb, h.out.on hb, h.rest.on hb, h.eo, h.er⟩
/-- Behind an append to what goes. -/
theorem rExpRel.gone {w W wn : World} {B p c : Nat} {A : Option Addr} {s : PS} {now : Int} {k : Nat} {v v' u : Value} {O : List ByteArray} {R : List Ins} {x : Ins} (h : rExpRel w W B p c A s now k v u O R) (hfl : ∀ q, rpf p A q → q < w.heap.size) (hk : s.l[k]? = some x) (hx : old s.p now x = true)
    (hown : wn.ownsRow w.heap.size 9 1 v' (O.length + 1) (svals O ++ [.string x.id])) (hg : (W.alloc (.cells [.string x.id].toArray 9)).grownBy wn v.ownBlock) : rExpRel w wn B p c A s now (k + 1) v' u (O ++ [x.id]) R := by
  have ho := h.out.alloc (.cells [.string x.id].toArray 9)
  have hge : ∀ q, v.ownBlock = some q → w.heap.size ≤ q := fun q hq => (own_lt ho hq).1
  have hc : Chg (fun q => v.ownBlock = some q) W wn := ((Chg.refl _ W).alloc _).grown hg (fun q hq _ => hq)
  refine ⟨h.pool.chg hc (fun q hq e => by have := hfl q hq; have := hge q e; omega), h.chg.trans hc (fun q hq e => by have := hge q e; omega), OwnS.push hown, hc.own h.rest (fun q hq e => ?_), ?_, ?_⟩
  · obtain ⟨cs, hb⟩ := own_blk h.out e
    exact hb.off h.rest (by decide) hq rfl
  · rw [oids_yes hk hx, h.eo]
  · rw [kept_no hk hx, h.er]
theorem rExpRel.stays {w W wn : World} {B p c : Nat} {A : Option Addr} {s : PS} {now : Int} {k : Nat} {v u u' : Value} {O : List ByteArray} {R : List Ins} {x : Ins} (h : rExpRel w W B p c A s now k v u O R) (hfl : ∀ q, rpf p A q → q < w.heap.size) (hk : s.l[k]? = some x) (hx : old s.p now x = false)
    (hown : wn.ownsRow w.heap.size 56 4 u' (R.length + 1) (R.flatMap Ins.cells ++ x.cells)) (hg : (W.alloc (.cells x.cells.toArray 56)).grownBy wn u.ownBlock) : rExpRel w wn B p c A s now (k + 1) v u' O (R ++ [x]) := by
  have ho := h.rest.alloc (.cells x.cells.toArray 56)
  have hge : ∀ q, u.ownBlock = some q → w.heap.size ≤ q := fun q hq => (own_lt ho hq).1
  have hc : Chg (fun q => u.ownBlock = some q) W wn := ((Chg.refl _ W).alloc _).grown hg (fun q hq _ => hq)
  refine ⟨h.pool.chg hc (fun q hq e => by have := hfl q hq; have := hge q e; omega), h.chg.trans hc (fun q hq e => by have := hge q e; omega), hc.own h.out (fun q hq e => ?_), OwnL.push hown, ?_, ?_⟩
  · obtain ⟨cs, hb⟩ := own_blk h.rest e
    exact hb.off h.out (by decide) hq rfl
  · rw [oids_no hk hx, h.eo]
  · rw [kept_yes hk hx, h.er]
theorem OwnL.empty {w : World} {base g : Nat} (hg : g = w.heap.size) (hb : base ≤ w.heap.size) : OwnL (w.alloc (.cells #[] 56)) base (.slice (some ⟨g, 0, none⟩) 0 0) [] := by
  subst hg
  exact ⟨rfl, .inr ⟨w.heap.size, 0, #[], rfl, hb, heap_alloc_new _ _, by simp [maxLen]⟩⟩
theorem rexp_done {w W : World} {B p c : Nat} {A : Option Addr} {s : PS} {now : Int} {v u : Value} {O : List ByteArray} {R : List Ins} (h : rExpRel w W B p c A s now s.l.length v u O R) (hs : expS s now = expG s now) {pr : Option Addr} {cr : Nat} (hu : u = .slice pr R.length cr) (hB : B ≤ w.heap.size) : ∃ S', S' = W.setCell ⟨p, 5, none⟩ u ∧ OwnS S' w.heap.size v (expS s now).2 ∧ RPoolTo w B p A (expS s now).1 S' := by
  have he : O = oids s.p now s.l := by have := h.eo; rw [List.take_length] at this; exact this
  have hr : R = kept s.p now s.l := by have := h.er; rw [List.take_length] at this; exact this
  have hpw : p < W.heap.size := h.pool.blk.lt
  have hc : Chg (fun k => k = p) W (W.setCell ⟨p, 5, none⟩ u) := (Chg.refl (fun k => k = p) W).setCell (p := ⟨p, 5, none⟩) (fun _ => rfl) u
  have hno : ∀ k, v.ownBlock = some k → k ≠ p := fun k hk e => by subst e; exact h.pool.blk.off h.out (by decide) hk rfl
  have hnr : ∀ k, u.ownBlock = some k → k ≠ p := fun k hk e => by subst e; exact h.pool.blk.off h.rest (by decide) hk rfl
  refine ⟨_, rfl, ?_, ?_⟩
  · rw [hs]
    show OwnS _ _ v (oids s.p now s.l)
    rw [← he]
    exact hc.own h.out hno
  · rw [hs]
    show RPoolTo w B p A ⟨s.nm, s.p, now, s.bt, kept s.p now s.l⟩ _
    rw [← hr]
    subst hu
    refine ⟨pr, cr, ⟨?_, own_base (hc.own h.rest hnr) hB, h.pool.hp⟩, h.chg.trans hc (fun k _ e => .inl e), fun k hk => ?_⟩
    · have hh := h.pool.blk.set_ 5 (.slice pr R.length cr)
      unfold Blk at hh ⊢
      rw [hh]
      simp [rpoolC, at_]
    · rcases hk with rfl | hk
      · exact .inl (.inl rfl)
      · exact .inr (own_lt h.rest (by rw [own_eq]; exact hk)).1
set_option maxHeartbeats 8000000 in
set_option maxRecDepth 20000 in
theorem rExpire_any {w : World} {B p c : Nat} {A : Option Addr} {s : PS} (hP : RPoolAt w B p A c s) (hok : s.ok) (now : Int) :
    Calls Tryd.prog 17 #[.pointer (some ⟨p, 0, none⟩), .int .i64 now] w (rExpPost s now w B p A) := by
  obtain ⟨i0, ih, iz0, iz1, iz2⟩ := info_parts info_str
  obtain ⟨i1, jh, jz0, jz1, jz2⟩ := info_parts info_ins
  have HY : rdy s now = 0 → expS s now = expG s now := fun h => by unfold expS; rw [if_pos h]
  have HN : rdy s now ≠ 0 → expS s now = (s, []) := fun h => by unfold expS; rw [if_neg h]
  have HGG := Lib.hid (And.intro HY HN)
  have hb1 : Below w.heap.size w (w.alloc (.cells #[] 9)) := (Below.refl _ _).alloc (Nat.le_refl _) _
  have hP1 := hP.below hb1
  have HR := Lib.hid (ready_any hP1 hok.mx.1 now)
  have HP := Lib.hid hP
  have HO := Lib.hid hok
  have h32 := hok.len32
  have HB1 := Lib.hid hb1
  have HOW := Lib.hid (OwnS.empty (w := w) rfl (Nat.le_refl _))
  clear HY HN hb1
  by_cases hr : rdy s now = 0
  · have HD := Lib.hid (HGG.out.1 hr)
    rw [hr] at HR
    obtain ⟨hn0, hn1, -⟩ := rdy_now hr
    have hid := hok.idle
    have hfl : ∀ k, rpf p A k → k < w.heap.size := fun k hk => (hP.foot_lt k hk).2
    have HFL := Lib.hid hfl
    have q6 : w.cell? ⟨p, 6, none⟩ = some (.int .i64 s.now) := hP.blk.cell 6
    have f6 := hP.blk.frozen 6
    have hpl := hP.blk.lt
    have hpB := hP.hp
    obtain ⟨hT, hcT⟩ := hP.time now
    have hbT : Below (w.setCell ⟨p, 6, none⟩ (.int .i64 now)).heap.size (w.setCell ⟨p, 6, none⟩ (.int .i64 now)) (((w.setCell ⟨p, 6, none⟩ (.int .i64 now)).alloc (.cells #[] 9)).alloc (.cells #[] 56)) := ((Below.refl _ _).alloc (Nat.le_refl _) _).alloc (by simp) _
    have hzT : (w.setCell ⟨p, 6, none⟩ (.int .i64 now)).heap.size = w.heap.size := by simp [World.setCell]
    have HREL := Lib.hid (show rExpRel w (((w.setCell ⟨p, 6, none⟩ (.int .i64 now)).alloc (.cells #[] 9)).alloc (.cells #[] 56)) B p c A s now 0 (.slice (some ⟨w.heap.size, 0, none⟩) 0 0) (.slice (some ⟨w.heap.size + 1, 0, none⟩) 0 0) [] [] from
      ⟨hT.below hbT, hcT.below hbT, (OwnS.empty (w := w.setCell ⟨p, 6, none⟩ (.int .i64 now)) hzT.symm (by omega)).on ((Below.refl _ _).alloc (Nat.le_refl _) _), OwnL.empty (by simp [World.setCell]) (by simp [World.setCell]), rfl, rfl⟩)
    clear hr hP hok hP1 hT hcT hbT hzT hfl
    go_enter Tryd.func17, Tryd.ntmps17
    go_wp2_with fail
    refine HR.out.mono ?_
    rintro e wq ⟨rfl, rfl⟩
    go_wp2_with fail
    generalize ((w.setCell ⟨p, 6, none⟩ (.int .i64 now)).alloc (.cells #[] 9)).alloc (.cells #[] 56) = W0 at *
    go_loopw [5, 6, 7] (fun v u i wr => ∃ (k : Nat) (O : List ByteArray) (R : List Ins), k ≤ s.l.length ∧ i = .int .i64 k ∧ rExpRel w wr B p c A s now k v u O R) (fun _ _ i _ => s.l.length - (intOf i).toNat)
    case atStart => exact ⟨0, [], [], Nat.zero_le _, rfl, HREL.out⟩
    case round =>
      obtain ⟨k, O, R, hk, rfl, hrel⟩ := hrel
      obtain ⟨v, rfl⟩ : ∃ v : Value, v = u5 := ⟨_, rfl⟩
      obtain ⟨u, rfl⟩ : ∃ u : Value, u = u6 := ⟨_, rfl⟩
      have hz : w.heap.size ≤ wr.heap.size := hrel.chg.size
      have hOl : O.length ≤ 32 := by
        rw [hrel.eo]
        have := oids_len s.p now (s.l.take k)
        rw [len_take hk] at this
        omega
      have hRl : R.length ≤ 32 := by
        rw [hrel.er]
        have : (kept s.p now (s.l.take k)).length ≤ (s.l.take k).length := List.length_filter_le _ _
        rw [len_take hk] at this
        omega
      have HQ := Lib.hid hrel
      have q5 : wr.cell? ⟨p, 5, none⟩ = some (.slice A s.l.length c) := hrel.pool.blk.cell 5
      clear hrel
      by_cases hlt : k < s.l.length
      · obtain ⟨g, rfl, hg, -, -⟩ := HQ.out.pool.slot (by show 0 < s.l.length; omega)
        obtain ⟨⟨e0, e1, e2, e3⟩, -⟩ := HQ.out.pool.elem (k := k) (x := s.l[k]) (List.getElem?_eq_getElem hlt)
        have q2 : wr.cell? ⟨p, 2, none⟩ = some (.int .i64 s.p.idle) := HQ.out.pool.blk.cell 2
        have HK := Lib.hid (List.getElem?_eq_getElem hlt)
        have hxo := HO.out.els s.l[k] (List.getElem_mem hlt)
        have hx0 := hxo.s0
        have hx1 := hxo.s1
        generalize s.l[k] = x at *
        clear hxo
        have hkI : (k : Int) < s.l.length := by omega
        have hsub : IntKind.i64.wrap (now - x.since) = now - x.since := IntWalk.i64_in _ (by omega)
        have HOLD : Hid (old s.p now x = (decide (x.st = 2) && decide (s.p.idle ≤ now - x.since))) := rfl
        have hwn : ∀ n, Below wr.heap.size wr (wr.drewN n) := fun n => below_drewN' wr.heap.size wr n
        have HWN := Lib.hid hwn
        clear hwn
        rcases beqs x.st 2 with ⟨hq, hs⟩ | ⟨hq, hs⟩
        · rcases decide_cases (s.p.idle ≤ now - x.since) with ⟨hd, hdb⟩ | ⟨hd, hdb⟩
          · have HH := Lib.hid (HOLD.out.trans (by rw [decide_eq_true hs, decide_eq_true hd] <;> rfl))
            clear hs hd
            go_wp2_with fail
            go_quiet (fail)
            have HQ3 := Lib.hid (HQ.out.on (HWN.out nq))
            have e03 : (wr.drewN nq).cell? ⟨g, k * 4, none⟩ = some (.string x.id) := e0
            have q53 : (wr.drewN nq).cell? ⟨p, 5, none⟩ = some (.slice (some ⟨g, 0, none⟩) s.l.length c) := q5
            have hz3 : w.heap.size ≤ (wr.drewN nq).heap.size := hz
            clear e0 e1 e2 e3 q5 q2 hz
            generalize wr.drewN nq = W3 at *
            have HO3 := Lib.hid HQ3.out.out
            obtain ⟨pv, cv, rfl⟩ := own_slice HQ3.out.out
            go_wp2_with (at_builtin; go_loud (refine wpList_append_own _ rfl (.tmp 55) (.tmp 64) 33 rfl w.heap.size 9 i0 (.string ⟨#[]⟩) 1 16 Tryd.underlying33 ih iz0 iz1 iz2 rfl (by decide) _ O.length (svals O) rfl (HO3.out.alloc _) ⟨W3.heap.size, 0, none⟩ 1 1 ([.string x.id]) rfl rfl (cells_new_at rfl) (by intro u hu; simp at hu; subst hu; rfl) (by simp only [maxLen]; omega) (by omega) (by simp; omega) ?_); intro v' wn hown1 hgr hiff; clear hiff; have HG := Lib.hid (And.intro hown1 hgr); clear hown1 hgr)
            have HQ4 := Lib.hid (HQ3.out.gone HFL.out HK.out HH.out HG.out.1 HG.out.2)
            clear HG
            go_roundw
            case rel => exact ⟨k + 1, O ++ [x.id], R, by omega, by go_num, HQ4.out⟩
            case measure => simp [intOf]; omega
          · have HH := Lib.hid (HOLD.out.trans (by rw [decide_eq_false hd, Bool.and_false]))
            clear hs hd
            go_wp2_with fail
            go_quiet (fail)
            have HQ3 := Lib.hid (HQ.out.on (HWN.out nq))
            have e03 : (wr.drewN nq).cell? ⟨g, k * 4, none⟩ = some (.string x.id) := e0
            have e13 : (wr.drewN nq).cell? ⟨g, k * 4 + 1, none⟩ = some (.int .i64 x.st) := e1
            have e23 : (wr.drewN nq).cell? ⟨g, k * 4 + 2, none⟩ = some (.int .i64 x.since) := e2
            have e33 : (wr.drewN nq).cell? ⟨g, k * 4 + 3, none⟩ = some (.int .i64 x.uses) := e3
            have q53 : (wr.drewN nq).cell? ⟨p, 5, none⟩ = some (.slice (some ⟨g, 0, none⟩) s.l.length c) := q5
            have hz3 : w.heap.size ≤ (wr.drewN nq).heap.size := hz
            clear e0 e1 e2 e3 q5 q2 hz
            generalize wr.drewN nq = W3 at *
            have HR4 := Lib.hid HQ3.out.rest
            obtain ⟨pr, cr, rfl⟩ := own_slice HQ3.out.rest
            go_wp2_with (at_builtin; go_loud (refine wpList_append_own _ rfl (.tmp 66) (.tmp 74) 45 rfl w.heap.size 56 i1 (.agg #[.string ⟨#[]⟩, .int .i64 0, .int .i64 0, .int .i64 0]) 4 40 Tryd.underlying45 jh jz0 jz1 jz2 rfl (by decide) _ R.length (R.flatMap Ins.cells) rfl (HR4.out.alloc _) ⟨W3.heap.size, 0, none⟩ 1 1 (x.cells) rfl rfl (cells_new_at rfl) (Ins.one x) (by simp only [maxLen]; omega) (by omega) (by simp; omega) ?_); intro v' wn hown1 hgr hiff; clear hiff; have HG := Lib.hid (And.intro hown1 hgr); clear hown1 hgr)
            have HQ4 := Lib.hid (HQ3.out.stays HFL.out HK.out HH.out HG.out.1 HG.out.2)
            clear HG
            go_roundw
            case rel => exact ⟨k + 1, O, R ++ [x], by omega, by go_num, HQ4.out⟩
            case measure => simp [intOf]; omega
        · have HH := Lib.hid (HOLD.out.trans (by rw [decide_eq_false hs, Bool.false_and]))
          clear hs
          go_wp2_with fail
          go_quiet (fail)
          have HQ3 := Lib.hid (HQ.out.on (HWN.out nq))
          have e03 : (wr.drewN nq).cell? ⟨g, k * 4, none⟩ = some (.string x.id) := e0
          have e13 : (wr.drewN nq).cell? ⟨g, k * 4 + 1, none⟩ = some (.int .i64 x.st) := e1
          have e23 : (wr.drewN nq).cell? ⟨g, k * 4 + 2, none⟩ = some (.int .i64 x.since) := e2
          have e33 : (wr.drewN nq).cell? ⟨g, k * 4 + 3, none⟩ = some (.int .i64 x.uses) := e3
          have q53 : (wr.drewN nq).cell? ⟨p, 5, none⟩ = some (.slice (some ⟨g, 0, none⟩) s.l.length c) := q5
          have hz3 : w.heap.size ≤ (wr.drewN nq).heap.size := hz
          clear e0 e1 e2 e3 q5 q2 hz
          generalize wr.drewN nq = W3 at *
          have HR4 := Lib.hid HQ3.out.rest
          obtain ⟨pr, cr, rfl⟩ := own_slice HQ3.out.rest
          go_wp2_with (at_builtin; go_loud (refine wpList_append_own _ rfl (.tmp 66) (.tmp 74) 45 rfl w.heap.size 56 i1 (.agg #[.string ⟨#[]⟩, .int .i64 0, .int .i64 0, .int .i64 0]) 4 40 Tryd.underlying45 jh jz0 jz1 jz2 rfl (by decide) _ R.length (R.flatMap Ins.cells) rfl (HR4.out.alloc _) ⟨W3.heap.size, 0, none⟩ 1 1 (x.cells) rfl rfl (cells_new_at rfl) (Ins.one x) (by simp only [maxLen]; omega) (by omega) (by simp; omega) ?_); intro v' wn hown1 hgr hiff; clear hiff; have HG := Lib.hid (And.intro hown1 hgr); clear hown1 hgr)
          have HQ4 := Lib.hid (HQ3.out.stays HFL.out HK.out HH.out HG.out.1 HG.out.2)
          clear HG
          go_roundw
          case rel => exact ⟨k + 1, O, R ++ [x], by omega, by go_num, HQ4.out⟩
          case measure => simp [intOf]; omega
      · obtain rfl : k = s.l.length := by omega
        have f5 := HQ.out.pool.blk.frozen 5
        obtain ⟨pr, cr, rfl⟩ := own_slice HQ.out.rest
        obtain ⟨S', hS, h1, h2⟩ := rexp_done HQ.out HD.out rfl (by omega)
        have HS := Lib.hid (And.intro h1 h2)
        subst hS
        clear h1 h2
        go_wp2_with fail
        go_ret
        exact ⟨_, rfl, HS.out.1, HS.out.2⟩
  · have HD := Lib.hid (HGG.out.2 hr)
    have hne : (rdy s now == 0) = false := beq_eq_false_iff_ne.2 hr
    have hne2 : (rdy s now != 0) = true := bne_iff_ne.2 hr
    clear hP hok hr hP1
    generalize rdy s now = rr at *
    go_enter Tryd.func17, Tryd.ntmps17
    go_wp2_with fail
    refine HR.out.mono ?_
    rintro e wq ⟨rfl, rfl⟩
    go_wp2_with fail
    go_ret
    exact ⟨_, rfl, by rw [HD.out]; exact HOW.out, by rw [HD.out]; exact RPoolTo.stay HP.out HB1.out⟩
end Go.Proofs.YtmpaogmfceldjaaDoor
