/- The program's Expire. -/
import Derived.Test.YtmpaogmfceldjaaDoorKWA
namespace Go.Proofs.YtmpaogmfceldjaaDoor
open Go.RowKit
open Go.Sort (grow)

def oids (p : PP) (now : Int) (l : List Ins) : List ByteArray := (l.filter (old p now)).map Ins.id
theorem oids_yes {p : PP} {now : Int} {l : List Ins} {k : Nat} {x : Ins} (h : l[k]? = some x) (hx : old p now x = true) : oids p now (l.take (k + 1)) = oids p now (l.take k) ++ [x.id] := by
  unfold oids
  rw [take_snoc' h, List.filter_append, List.map_append]
  simp [hx]
theorem oids_no {p : PP} {now : Int} {l : List Ins} {k : Nat} {x : Ins} (h : l[k]? = some x) (hx : old p now x = false) : oids p now (l.take (k + 1)) = oids p now (l.take k) := by
  unfold oids
  rw [take_snoc' h, List.filter_append, List.map_append]
  simp [hx]
theorem oids_len (p : PP) (now : Int) (l : List Ins) : (oids p now l).length ≤ l.length := by unfold oids; rw [List.length_map]; exact List.length_filter_le _ _
/-- The instances of a list go. -/
def dall (l : List Ins) (is : List ByteArray) : List Ins := l.filter fun x => !is.any fun i => eqS x.id i
theorem dall_nil (l : List Ins) : dall l [] = l := by unfold dall; simp
theorem dall_snoc (l : List Ins) (is : List ByteArray) (i : ByteArray) : dall l (is ++ [i]) = drp (dall l is) i := by
  unfold dall drp
  rw [List.filter_filter]
  congr 1
  funext x
  rw [List.any_append]
  simp [Bool.and_comm]
theorem dall_oids {p : PP} {now : Int} {l : List Ins} (hn : (l.map Ins.id).Nodup) : dall l (oids p now l) = l.filter fun x => !old p now x := by
  unfold dall
  apply List.filter_congr
  intro x hx
  congr 1
  rw [Bool.eq_iff_iff, List.any_eq_true]
  constructor
  · rintro ⟨i, hi, e⟩
    obtain ⟨y, hy, rfl⟩ := List.mem_map.1 hi
    obtain ⟨hy1, hy2⟩ := List.mem_filter.1 hy
    have e' := eqS_iff.1 e
    obtain ⟨a, ha⟩ := List.getElem?_of_mem hx
    obtain ⟨b, hb⟩ := List.getElem?_of_mem hy1
    obtain rfl := ids_ne hn ha hb e'
    rw [ha] at hb
    injection hb with hb
    rw [hb]; exact hy2
  · intro h
    exact ⟨x.id, List.mem_map.2 ⟨x, List.mem_filter.2 ⟨hx, h⟩, rfl⟩, eqS_self _⟩
/-- The next one to go is there yet. -/
theorem dall_has {p : PP} {now : Int} {l : List Ins} (hn : (l.map Ins.id).Nodup) {k : Nat} {i : ByteArray} (h : (oids p now l)[k]? = some i) : ∃ (j : Nat) (x : Ins), (dall l ((oids p now l).take k))[j]? = some x ∧ x.id = i := by
  have hm := List.mem_of_getElem? h
  obtain ⟨x, hx, rfl⟩ := List.mem_map.1 hm
  have hxl := (List.mem_filter.1 hx).1
  have hnd : (oids p now l).Nodup := List.Sublist.nodup (List.Sublist.map _ List.filter_sublist) hn
  have : x ∈ dall l ((oids p now l).take k) := by
    unfold dall
    refine List.mem_filter.2 ⟨hxl, ?_⟩
    rw [Bool.not_eq_true', List.any_eq_false]
    intro y hy e
    obtain ⟨a, ha⟩ := List.getElem?_of_mem hy
    rw [List.getElem?_take] at ha
    split at ha
    · rename_i hak
      have e' := eqS_iff.1 e
      rw [← e'] at ha
      have := (List.getElem?_inj (List.getElem?_eq_some_iff.1 ha).1 hnd).1 (ha.trans h.symm)
      omega
    · cases ha
  obtain ⟨j, hj⟩ := List.getElem?_of_mem this
  exact ⟨j, x, hj, rfl⟩
theorem rdy_self {s : PS} (h : s.ok) : rdy s s.now = 0 := by
  have hn := h.now
  unfold rdy
  rw [inB_yes ⟨hn.1, hn.2⟩, if_pos rfl, if_neg (by omega)]
theorem dall_ok {s : PS} (h : s.ok) (is : List ByteArray) : (lst s (dall s.l is)).ok := h.sub (rdy_self h) List.filter_sublist
/-- What Expire leaves in its variable. -/
def ExpX (w0 : World) (bo : Nat) (out : List ByteArray) (w' : World) : Prop := ∃ v, w'.cell? ⟨bo, 0, none⟩ = some v ∧ OwnS w' w0.heap.size v out
def ExpIn (s : PS) (now : Int) (w0 : World) (B p m : Nat) (A : Option Addr) (bo : Nat) (e : Ending) (w' : World) : Prop := e = .returned (.int .i64 0) ∧ PoolTo w0 B p m A (at_ (expG s now).1 s.now) w' ∧ ExpX w0 bo (expG s now).2 w'
theorem enters_exp (args : Array Value) (w : World) : Sem.run Tryd.prog (callFunc 44 args) w = .ok (.enter 44 args) w := enters_of Tryd.func44 (by kernel_rfl) rfl args w
/-- What the first loop keeps. -/
structure ExpRel (w wr : World) (bo : Nat) (s : PS) (now : Int) (k : Nat) (v : Value) (L : List ByteArray) : Prop where
  chg : Chg (fun i => i = bo) w wr
  blk : Blk wr bo 33 #[v]
  own : OwnS wr w.heap.size v L
  eq : L = oids s.p now (s.l.take k)
theorem own_grown_chg {w w1 : World} {S : Nat → Prop} {base : Nat} (hc : Chg S w w1) {w2 : World} {e : TypeId} {sz n : Nat} {v : Value} {xs : List Value} (ho : w1.ownsRow base e sz v n xs) (hb : w.heap.size ≤ base) (hg : w1.grownBy w2 v.ownBlock) : Chg S w w2 :=
  hc.grown hg (fun k hk hlt => by have := (own_lt ho hk).1; omega)
set_option maxHeartbeats 8000000 in
set_option maxRecDepth 20000 in
theorem expf_any {w0 w : World} {B p m c : Nat} {A : Option Addr} {s : PS} (hP0 : PoolAt w0 B p m A c s) (hb0 : Below w0.heap.size w0 w) (hok : s.ok) (now : Int) (hnow : 0 ≤ now ∧ now ≤ 1073741824) {bp bn bo : Nat} (hbp : Blk w bp 25 #[.pointer (some ⟨p, 0, none⟩)]) (hbn : Blk w bn 3 #[.int .i64 now]) (hbo : Blk w bo 33 #[.slice none 0 0]) (hlo : w0.heap.size ≤ bo) (hlp : w0.heap.size ≤ bp) :
    Calls Tryd.prog 44 #[.pointer (some ⟨bp, 0, none⟩), .pointer (some ⟨bn, 0, none⟩), .pointer (some ⟨bo, 0, none⟩)] w (ExpIn s now w0 B p m A bo) := by
  obtain ⟨i0, ih, iz0, iz1, iz2⟩ := info_parts info_str
  have hP := hP0.below hb0
  have h32 := hok.len32
  have hid := hok.idle
  have hpm := hP0.foot_lt m (.inr (.inl rfl))
  have hpp := hP0.foot_lt p (.inl rfl)
  have hbl : bo < w.heap.size := hbo.lt
  have hpo : bp ≠ bo := hbp.ne_ hbo (by decide)
  have hno : bn ≠ bo := hbn.ne_ hbo (by decide)
  have qp : w.cell? ⟨bp, 0, none⟩ = some (.pointer (some ⟨p, 0, none⟩)) := hbp.cell 0
  have q7 : w.cell? ⟨p, 7, none⟩ = some (.slice A s.l.length c) := hP.blk.cell 7
  have HP := Lib.hid hP
  have HP0 := Lib.hid hP0
  have HO := Lib.hid hok
  have HB0 := Lib.hid hb0
  have HBP := Lib.hid (And.intro hbp (And.intro hbn hbo))
  have hz0 : w0.heap.size ≤ w.heap.size := hb0.size
  obtain ⟨hn0, hn1⟩ := hnow
  clear hP hP0 hok hb0 hbp hbn hbo
  go_enter Tryd.func44, Tryd.ntmps44
  go_wp2_with fail
  go_loopw [14] (fun i wr => ∃ (k : Nat) (v : Value) (L : List ByteArray), k ≤ s.l.length ∧ i = .int .i64 k ∧ ExpRel w wr bo s now k v L) (fun i _ => s.l.length - (intOf i).toNat)
  case atStart => exact ⟨0, .slice none 0 0, [], Nat.zero_le _, rfl, Chg.refl _ _, HBP.out.2.2, OwnS.nil _ _, rfl⟩
  case round =>
    obtain ⟨k, v, L, hk, rfl, hrel⟩ := hrel
    have hz : w.heap.size ≤ wr.heap.size := hrel.chg.size
    have HR := Lib.hid hrel
    have hbW : Below w0.heap.size w0 wr := by
      have := (Chg.of_below (S := fun i => i = bo) HB0.out).trans hrel.chg (fun _ _ h => h)
      exact this.toBelow (fun k hk => by omega) (Nat.le_refl _)
    have HPr := Lib.hid (HP0.out.below hbW)
    have HBW := Lib.hid hbW
    have hbpr := hrel.chg.blk HBP.out.1 hpo
    have hbnr := hrel.chg.blk HBP.out.2.1 hno
    have hbor := hrel.blk
    have HBR := Lib.hid (And.intro hbpr hbnr)
    have hLl : L.length ≤ 32 := by
      rw [hrel.eq]
      have := oids_len s.p now (s.l.take k)
      rw [len_take hk] at this
      omega
    clear hrel hbW
    by_cases hlt : k < s.l.length
    · obtain ⟨g, hA, hg, qk, -, hlook⟩ := HPr.out.elem HO.out (List.getElem?_eq_getElem hlt)
      subst hA
      have HK := Lib.hid (List.getElem?_eq_getElem hlt)
      have hxo := HO.out.els s.l[k] (List.getElem_mem hlt)
      have hx0 := hxo.s0
      have hx1 := hxo.s1
      generalize s.l[k] = x at *
      clear hxo
      simp only [Ins.val] at hlook
      have hkI : (k : Int) < s.l.length := by omega
      have qpr : wr.cell? ⟨bp, 0, none⟩ = some (.pointer (some ⟨p, 0, none⟩)) := hbpr.cell 0
      have q8 : wr.cell? ⟨p, 8, none⟩ = some (.map (some m)) := HPr.out.blk.cell 8
      clear hbpr hbnr hbor
      go_wp2_with fail
      have hbw : Below wr.heap.size wr (wr.alloc (.cells #[.string x.id, .int .i64 x.st, .int .i64 x.since, .int .i64 x.uses] 56)) := (Below.refl _ _).alloc (Nat.le_refl _) _
      have bx := Blk.new wr 56 #[.string x.id, .int .i64 x.st, .int .i64 x.since, .int .i64 x.uses]
      have HR2 := Lib.hid (show ExpRel w (wr.alloc (.cells #[.string x.id, .int .i64 x.st, .int .i64 x.since, .int .i64 x.uses] 56)) bo s now k v L from ⟨HR.out.chg.alloc _, HR.out.blk.alloc _, HR.out.own.on hbw, HR.out.eq⟩)
      have HPW := Lib.hid (HPr.out.below hbw)
      have hbp2 := HBR.out.1.on hbw
      have hbn2 := HBR.out.2.on hbw
      have hzw : w.heap.size ≤ (wr.alloc (.cells #[.string x.id, .int .i64 x.st, .int .i64 x.since, .int .i64 x.uses] 56)).heap.size := HR2.out.chg.size
      clear hbw qk q8 qpr hlook
      generalize wr.alloc (.cells #[.string x.id, .int .i64 x.st, .int .i64 x.since, .int .i64 x.uses] 56) = W at *
      have x1 : W.cell? ⟨wr.heap.size, 1, none⟩ = some (.int .i64 x.st) := bx.cell 1
      have x2 : W.cell? ⟨wr.heap.size, 2, none⟩ = some (.int .i64 x.since) := bx.cell 2
      have qpw : W.cell? ⟨bp, 0, none⟩ = some (.pointer (some ⟨p, 0, none⟩)) := hbp2.cell 0
      have qnw : W.cell? ⟨bn, 0, none⟩ = some (.int .i64 now) := hbn2.cell 0
      have q2 : W.cell? ⟨p, 2, none⟩ = some (.int .i64 s.p.idle) := HPW.out.blk.cell 2
      have hsub : IntKind.i64.wrap (now - x.since) = now - x.since := IntWalk.i64_in _ (by omega)
      have HOLD : Hid (old s.p now x = (decide (x.st = 2) && decide (s.p.idle ≤ now - x.since))) := rfl
      rcases beqs x.st 2 with ⟨hq, hs⟩ | ⟨hq, hs⟩
      · rcases decide_cases (s.p.idle ≤ now - x.since) with ⟨hd, hdb⟩ | ⟨hd, hdb⟩
        · have HH := Lib.hid (oids_yes HK.out (HOLD.out.trans (by rw [decide_eq_true hs, decide_eq_true hd]; rfl)))
          clear hs hd
          go_quiet (fail)
          have hbq := below_drewN' W.heap.size W nq
          have HR3 := Lib.hid (show ExpRel w (W.drewN nq) bo s now k v L from ⟨HR2.out.chg.below hbq, HR2.out.blk.on hbq, HR2.out.own.on hbq, HR2.out.eq⟩)
          have hz3 : w.heap.size ≤ (W.drewN nq).heap.size := HR3.out.chg.size
          clear hbq x1 x2 qpw qnw q2 hbp2 hbn2
          generalize W.drewN nq = W3 at *
          have qo : W3.cell? ⟨bo, 0, none⟩ = some v := HR3.out.blk.cell 0
          have fo := HR3.out.blk.frozen 0
          have HX3 := Lib.hid HR3.out.own
          obtain ⟨pv, cv, rfl⟩ := own_slice HR3.out.own
          go_wp2_with (at_builtin; go_loud (refine wpList_append_own _ rfl (.tmp 39) (.tmp 41) 33 rfl w.heap.size 9 i0 (.string ⟨#[]⟩) 1 16 Tryd.underlying33 ih iz0 iz1 iz2 rfl (by decide) _ L.length (svals L) rfl (HX3.out.alloc _) ⟨W3.heap.size, 0, none⟩ 1 1 ([.string x.id]) rfl rfl (cells_new_at rfl) (by intro u hu; simp at hu; subst hu; rfl) (by simp only [maxLen]; omega) (by omega) (by simp; omega) ?_); intro v' wn hown1 hgr hiff; clear hiff; obtain ⟨p3, c3, rfl⟩ := own_slice hown1; have HG := Lib.hid (And.intro hown1 hgr); clear hown1 hgr; have hbo3 : Blk wn bo 33 #[.slice pv L.length cv] := (HG.out.2.block bo (by have := HR3.out.blk.lt; simp; omega) (fun e => by have := (own_lt (HX3.out.alloc (.cells [.string x.id].toArray 9)) e.symm).1; omega)).trans ((HR3.out.blk).alloc _); have HCN := Lib.hid (own_grown_chg (HR3.out.chg.alloc _) (HX3.out.alloc (.cells [.string x.id].toArray 9)) (Nat.le_refl _) HG.out.2); have HBO3 := Lib.hid hbo3; have HOW := Lib.hid (OwnS.push HG.out.1); have qo3 : wn.cell? ⟨bo, 0, none⟩ = some (.slice pv L.length cv) := hbo3.cell 0; have fo3 := hbo3.frozen 0; clear hbo3 HG)
          go_roundw
          case rel => exact ⟨k + 1, _, L ++ [x.id], by omega, by go_num, HCN.out.setCell (p := ⟨bo, 0, none⟩) (fun _ => rfl) _, HBO3.out.set_ 0 _, ((Chg.refl (fun i => i = bo) wn).setCell (p := ⟨bo, 0, none⟩) (fun _ => rfl) _).own HOW.out (fun i hi e => by have := (own_lt HOW.out hi).1; omega), by rw [HH.out, HR3.out.eq]⟩
          case measure => simp [intOf]; omega
        · have HH := Lib.hid (oids_no HK.out (HOLD.out.trans (by rw [decide_eq_false hd, Bool.and_false])))
          clear hs hd
          go_quiet (fail)
          have hbq := below_drewN' W.heap.size W nq
          have HR3 := Lib.hid (show ExpRel w (W.drewN nq) bo s now (k + 1) v L from ⟨HR2.out.chg.below hbq, HR2.out.blk.on hbq, HR2.out.own.on hbq, by rw [HH.out]; exact HR2.out.eq⟩)
          clear hbq
          go_wp2_with fail
          go_roundw
          case rel => exact ⟨k + 1, v, L, by omega, by go_num, HR3.out⟩
          case measure => simp [intOf]; omega
      · have HH := Lib.hid (oids_no HK.out (HOLD.out.trans (by rw [decide_eq_false hs, Bool.false_and])))
        clear hs
        go_quiet (fail)
        have hbq := below_drewN' W.heap.size W nq
        have HR3 := Lib.hid (show ExpRel w (W.drewN nq) bo s now (k + 1) v L from ⟨HR2.out.chg.below hbq, HR2.out.blk.on hbq, HR2.out.own.on hbq, by rw [HH.out]; exact HR2.out.eq⟩)
        clear hbq
        go_wp2_with fail
        go_roundw
        case rel => exact ⟨k + 1, v, L, by omega, by go_num, HR3.out⟩
        case measure => simp [intOf]; omega
    · obtain rfl : k = s.l.length := by omega
      have qo : wr.cell? ⟨bo, 0, none⟩ = some v := hbor.cell 0
      have HE : Hid (L = oids s.p now s.l) := by have := HR.out.eq; rw [List.take_length] at this; exact this
      obtain ⟨pv, cv, rfl⟩ := own_slice HR.out.own
      clear hbpr hbnr hbor
      obtain ⟨wo, rfl⟩ : ∃ wo : World, wo = wr := ⟨_, rfl⟩
      go_wp2_with fail
      go_loopw [46] (fun i wr => ∃ k : Nat, k ≤ L.length ∧ i = .int .i64 k ∧ PoolAt wr B p m A c (lst s (dall s.l (L.take k))) ∧ Chg (pf p m A) wo wr) (fun i _ => L.length - (intOf i).toNat)
      case atStart => exact ⟨0, Nat.zero_le _, rfl, by rw [List.take_zero, dall_nil]; exact HPr.out, Chg.refl _ _⟩
      case round =>
        obtain ⟨k, hk2, rfl, hPk, hck⟩ := hrel
        have HCK := Lib.hid hck
        have HPK := Lib.hid hPk
        have hfl : ∀ i, pf p m A i → i < w0.heap.size := fun i hi => (HP0.out.foot_lt i hi).2
        have HFL := Lib.hid hfl
        have hbpk : Blk wr bp 25 #[.pointer (some ⟨p, 0, none⟩)] := hck.blk HBR.out.1 (fun h => by have := hfl _ h; omega)
        have hbok : Blk wr bo 33 #[.slice pv L.length cv] := hck.blk HR.out.blk (fun h => by have := hfl _ h; omega)
        have howk : OwnS wr w.heap.size (.slice pv L.length cv) L := hck.own HR.out.own (fun i hi h => by have := hfl _ h; have := (own_lt HR.out.own hi).1; omega)
        have HOK := Lib.hid howk
        clear hck hPk hfl
        by_cases hlt2 : k < L.length
        · obtain ⟨g, cap, e, hs⟩ := howk.at_ (by omega)
          injection e with e1 _ e3
          subst e1 e3
          have qk : wr.cell? ⟨g, k, none⟩ = some (.string L[k]) := hs.cell (List.getElem?_eq_getElem hlt2)
          have HS := Lib.hid (take_snoc' (List.getElem?_eq_getElem hlt2))
          have hi0 : (oids s.p now s.l)[k]? = some L[k] := by rw [← HE.out]; exact List.getElem?_eq_getElem hlt2
          obtain ⟨j, x, hj, hxi⟩ := dall_has HO.out.nodup hi0
          rw [← HE.out] at hj
          have HJ := Lib.hid hj
          generalize L[k] = i at *
          subst hxi
          have hkI : (k : Int) < L.length := by omega
          have qpk : wr.cell? ⟨bp, 0, none⟩ = some (.pointer (some ⟨p, 0, none⟩)) := hbpk.cell 0
          clear hbpk hbok howk hs hi0 hj
          go_wp2_with fail
          refine (stop_any HPK.out (dall_ok HO.out _) HJ.out).mono ?_
          rintro e W1 ⟨rfl, hP1, hC1⟩
          have HQ := Lib.hid (show PoolAt W1 B p m A c (lst s (dall s.l (L.take (k + 1)))) from by
            rw [HS.out, dall_snoc, show drp (dall s.l (L.take k)) x.id = _ from drp_eq (dall_ok HO.out _).nodup HJ.out]
            exact hP1)
          have HC1 := Lib.hid (HCK.out.trans hC1 (fun _ _ h => h))
          clear hP1 hC1
          go_wp2_with fail
          go_roundw
          case rel => exact ⟨k + 1, by omega, by go_num, HQ.out, HC1.out⟩
          case measure => simp [intOf]; omega
        · obtain rfl : k = L.length := by omega
          have HF := Lib.hid (show dall s.l (L.take L.length) = s.l.filter (fun x => !old s.p now x) from by rw [List.take_length, HE.out]; exact dall_oids HO.out.nodup)
          have hck2 : Chg (pf p m A) w0 wr := (Chg.of_below HBW.out).trans HCK.out (fun _ _ h => h)
          have HT := Lib.hid (PoolTo.same (HF.out ▸ HPK.out) hck2)
          have HXX := Lib.hid (show ExpX w0 bo (oids s.p now s.l) wr from ⟨_, hbok.cell 0, by rw [← HE.out]; exact own_base HOK.out (by omega)⟩)
          clear hbpk hbok howk hck2
          go_wp2_with fail
          go_ret
          exact ⟨rfl, HT.out, HXX.out⟩
end Go.Proofs.YtmpaogmfceldjaaDoor
