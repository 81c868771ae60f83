/- The walks of find, warm and idle. -/
import Derived.Test.YtmpaogmfceldjaaDoorKW2
namespace Go.Proofs.YtmpaogmfceldjaaDoor
open Go.RowKit
open Go.Sort (grow)

theorem toL_eq (a b : ByteArray) : (a.toList == b.toList) = eqS a b := by unfold eqS; rw [Lib.toList_data, Lib.toList_data]
theorem fd_hit {l : List Ins} {id : ByteArray} {k : Nat} {x : Ins} (hk : l[k]? = some x) (hx : eqS x.id id = true) (hno : ∀ j y, j < k → l[j]? = some y → eqS y.id id = false) : (k : Int) = fd l id := by
  rcases fd_cases l id with ⟨_, _, h⟩ | ⟨j, y, h0, hj, e, _, h⟩
  · exact absurd (eqS_iff.1 hx) (h x (List.mem_of_getElem? hk))
  · rcases Nat.lt_trichotomy j k with hl | rfl | hl
    · have := hno j y hl hj
      rw [e, eqS_self] at this
      cases this
    · exact h0.symm
    · exact absurd (eqS_iff.1 hx) (h k x hl hk)
theorem fd_none {l : List Ins} {id : ByteArray} (hno : ∀ j y, j < l.length → l[j]? = some y → eqS y.id id = false) : (-1 : Int) = fd l id := by
  rcases fd_cases l id with ⟨h, _⟩ | ⟨j, y, h0, hj, e, _, h⟩
  · exact h.symm
  · have := hno j y (List.getElem?_eq_some_iff.1 hj).1 hj
    rw [e, eqS_self] at this
    cases this
theorem run_field_I2 (W : World) (a : ByteArray) (x y z : Int) : (Instr.field 56 (.agg #[.string a, .int .i64 x, .int .i64 y, .int .i64 z]) 2).run Tryd.prog W = .ok (.int .i64 y) W := by
  simp [Instr.field, run_underlying Tryd.underlying56, part, asAgg, Tryd.isAgg3, go_sem]
attribute [go_sem ↓] run_field_I2
section
variable {w : World} {B p m c : Nat} {A : Option Addr} {s : PS}
theorem RPoolAt.list (hP : RPoolAt w B p A c s) : OwnL w B (.slice A s.l.length c) s.l := hP.row
set_option maxHeartbeats 2000000 in
set_option maxRecDepth 20000 in
theorem find_any (hP : RPoolAt w B p A c s) (h32 : s.l.length ≤ 32) (id : ByteArray) : Calls Tryd.prog 42 #[.pointer (some ⟨p, 0, none⟩), .string id] w fun e w' => e = .returned (.int .i64 (fd s.l id)) ∧ w = w' := by
  have q7 : w.cell? ⟨p, 5, none⟩ = some (.slice A s.l.length c) := hP.blk.cell 5
  have HL := Lib.hid hP.list
  clear hP
  generalize s.l = l at *
  go_enter Tryd.func42, Tryd.ntmps42
  go_wp2_with fail
  go_loop [5] (fun i => ∃ k : Nat, k ≤ l.length ∧ i = .int .i64 k ∧ ∀ j y, j < k → l[j]? = some y → eqS y.id id = false) (fun i => l.length - (intOf i).toNat)
  case atStart => exact ⟨0, Nat.zero_le _, rfl, fun j y h => absurd h (by omega)⟩
  case round =>
    obtain ⟨k, hk, rfl, hno⟩ := hrel
    have HNO := Lib.hid hno
    clear hno
    by_cases hlt : k < l.length
    · obtain ⟨g, cap, e, -, hg, hx⟩ := HL.out.at_ (by omega)
      injection e with e1 _ e3
      subst e1 e3
      obtain ⟨q0, -, -, -⟩ := hx k l[k] (List.getElem?_eq_getElem hlt)
      have HK := Lib.hid (List.getElem?_eq_getElem hlt)
      clear hx
      generalize l[k] = x at *
      have hkI : (k : Int) < l.length := by omega
      have ht := toL_eq x.id id
      cases hq : eqS x.id id
      · have HQ := Lib.hid hq
        rw [hq] at ht
        clear hq
        go_wp2_with fail
        go_round
        case rel => exact ⟨k + 1, by omega, by go_num, fun j y hj hy => by
          by_cases e : j = k
          · subst e
            have := HK.out.symm.trans hy
            injection this with this
            rw [← this]; exact HQ.out
          · exact HNO.out j y (by omega) hy⟩
        case measure => simp [intOf]; omega
      · have HD := Lib.hid (fd_hit HK.out hq HNO.out)
        rw [hq] at ht
        clear hq
        go_wp2_with fail
        go_ret
        exact ⟨ret_int HD.out, rfl⟩
    · obtain rfl : k = l.length := by omega
      have HD := Lib.hid (fd_none HNO.out)
      go_wp2_with fail
      go_ret
      exact ⟨ret_int HD.out, rfl⟩
theorem wk_skip {l : List Ins} {k : Nat} {x : Ins} (hk : l[k]? = some x) (hx : x.st ≠ 2) : wk l (k + 1) = wk l k := by
  show (match l[k]? with | some x => if x.st = 2 ∧ (wk l k < 0 ∨ sinceAt l (wk l k) ≤ x.since) then (k : Int) else wk l k | none => wk l k) = _
  rw [hk]
  exact if_neg (fun h => hx h.1)
theorem wk_first {l : List Ins} {k : Nat} {x : Ins} (hk : l[k]? = some x) (hx : x.st = 2) (h : wk l k = -1) : wk l (k + 1) = k := by
  show (match l[k]? with | some x => if x.st = 2 ∧ (wk l k < 0 ∨ sinceAt l (wk l k) ≤ x.since) then (k : Int) else wk l k | none => wk l k) = _
  rw [hk]
  exact if_pos ⟨hx, .inl (by omega)⟩
theorem wk_more {l : List Ins} {k j : Nat} {x y : Ins} (hk : l[k]? = some x) (hx : x.st = 2) (h : wk l k = j) (hj : l[j]? = some y) (hs : y.since ≤ x.since) : wk l (k + 1) = k := by
  show (match l[k]? with | some x => if x.st = 2 ∧ (wk l k < 0 ∨ sinceAt l (wk l k) ≤ x.since) then (k : Int) else wk l k | none => wk l k) = _
  rw [hk]
  exact if_pos ⟨hx, .inr (by rw [h]; unfold sinceAt; rw [Int.toNat_natCast, hj]; exact hs)⟩
theorem wk_less {l : List Ins} {k j : Nat} {x y : Ins} (hk : l[k]? = some x) (h : wk l k = j) (hj : l[j]? = some y) (hs : ¬ y.since ≤ x.since) : wk l (k + 1) = wk l k := by
  show (match l[k]? with | some x => if x.st = 2 ∧ (wk l k < 0 ∨ sinceAt l (wk l k) ≤ x.since) then (k : Int) else wk l k | none => wk l k) = _
  rw [hk]
  refine if_neg (fun hh => ?_)
  rcases hh.2 with h1 | h1
  · omega
  · rw [h] at h1; unfold sinceAt at h1; rw [Int.toNat_natCast, hj] at h1; exact hs h1
set_option maxHeartbeats 4000000 in
set_option maxRecDepth 20000 in
theorem warm_any (hP : RPoolAt w B p A c s) (h32 : s.l.length ≤ 32) : Calls Tryd.prog 38 #[.pointer (some ⟨p, 0, none⟩)] w fun e w' => e = .returned (.int .i64 (wrm s.l)) ∧ ∃ n, w' = w.drewN n := by
  have q7 : w.cell? ⟨p, 5, none⟩ = some (.slice A s.l.length c) := hP.blk.cell 5
  have HL := Lib.hid hP.list
  unfold wrm
  clear hP
  generalize s.l = l at *
  go_enter Tryd.func38, Tryd.ntmps38
  go_wp2_with fail
  go_loopw [3, 4] (fun b i wr => ∃ k n : Nat, k ≤ l.length ∧ i = .int .i64 k ∧ b = .int .i64 (wk l k) ∧ wr = w.drewN n) (fun _ i _ => l.length - (intOf i).toNat)
  case atStart => exact ⟨0, 0, Nat.zero_le _, rfl, rfl, rfl⟩
  case round =>
    obtain ⟨k, nq, hk, rfl, rfl, rfl⟩ := hrel
    by_cases hlt : k < l.length
    · obtain ⟨g, cap, e, -, hg, hx⟩ := HL.out.at_ (by omega)
      injection e with e1 _ e3
      subst e1 e3
      obtain ⟨-, p1, p2, -⟩ := hx k l[k] (List.getElem?_eq_getElem hlt)
      have HK := Lib.hid (List.getElem?_eq_getElem hlt)
      have HX := Lib.hid hx
      clear hx
      generalize l[k] = x at *
      have hkI : (k : Int) < l.length := by omega
      rcases beqs x.st 2 with ⟨hq, hs⟩ | ⟨hq, hs⟩
      · rcases wk_cases l k with ⟨hw, -⟩ | ⟨j, y, hw, hjk, hjy, -⟩
        · have HH := Lib.hid (wk_first HK.out hs hw)
          rw [hw]
          clear hs hw
          go_wp2_with fail
          go_quiet (fail)
          go_wp2_with fail
          go_roundw
          case rel => exact ⟨k + 1, _, by omega, by go_num, by rw [HH.out], by first | rfl | rw [World.drewN_drewN]⟩
          case measure => simp [intOf]; omega
        · obtain ⟨-, -, y2, -⟩ := HX.out j y hjy
          have hjl : (j : Int) < l.length := by omega
          rcases decide_cases (y.since ≤ x.since) with ⟨hd, hdb⟩ | ⟨hd, hdb⟩
          · have HH := Lib.hid (wk_more HK.out hs hw hjy hd)
            rw [hw]
            clear hs hw hd
            go_wp2_with fail
            go_quiet (fail)
            go_wp2_with fail
            go_roundw
            case rel => exact ⟨k + 1, _, by omega, by go_num, by rw [HH.out], by first | rfl | rw [World.drewN_drewN]⟩
            case measure => simp [intOf]; omega
          · have HH := Lib.hid (wk_less HK.out hw hjy hd)
            rw [hw] at HH ⊢
            clear hs hw hd
            go_wp2_with fail
            go_quiet (fail)
            go_wp2_with fail
            go_roundw
            case rel => exact ⟨k + 1, _, by omega, by go_num, by rw [HH.out], by first | rfl | rw [World.drewN_drewN]⟩
            case measure => simp [intOf]; omega
      · have HH := Lib.hid (wk_skip HK.out hs)
        generalize wk l k = b at *
        clear hs
        go_wp2_with fail
        go_quiet (fail)
        go_wp2_with fail
        go_roundw
        case rel => exact ⟨k + 1, _, by omega, by go_num, by rw [HH.out], by first | rfl | rw [World.drewN_drewN]⟩
        case measure => simp [intOf]; omega
    · obtain rfl : k = l.length := by omega
      go_wp2_with fail
      go_ret
      exact ⟨rfl, _, rfl⟩
def idlV (l : List Ins) (b : Int) : ByteArray := if 0 ≤ b then idAt l b.toNat else ⟨#[]⟩
theorem idl_no {l : List Ins} {b : Int} (h : b = -1) : idlV l b = ⟨#[]⟩ ∧ decide (0 ≤ b) = false := by subst h; exact ⟨rfl, rfl⟩
theorem idl_yes {l : List Ins} {b : Int} {j : Nat} {y : Ins} (h : b = j) (hj : l[j]? = some y) : idlV l b = y.id ∧ decide (0 ≤ b) = true := by
  subst h
  unfold idlV idAt
  rw [if_pos (by omega), Int.toNat_natCast, hj]
  exact ⟨rfl, decide_eq_true (by omega)⟩
def IdlRel (l : List Ins) (b : Int) (u v : Value) : Prop := u = .string (idlV l b) ∧ v = .bool (decide (0 ≤ b))
theorem IdlRel.no {l : List Ins} {b : Int} (h : b = -1) : IdlRel l b (.string ⟨#[]⟩) (.bool false) := ⟨by rw [(idl_no h).1], by rw [(idl_no (l := l) h).2]⟩
theorem IdlRel.yes {l : List Ins} {b : Int} {j : Nat} {y : Ins} (h : b = j) (hj : l[j]? = some y) : IdlRel l b (.string y.id) (.bool true) := ⟨by rw [(idl_yes h hj).1], by rw [(idl_yes h hj).2]⟩
theorem wk_pos {l : List Ins} {k : Nat} {b : Int} (h : wk l k = b) : b = -1 ∨ ∃ (j : Nat) (y : Ins), b = j ∧ l[j]? = some y := by
  subst h
  rcases wk_cases l k with ⟨h, _⟩ | ⟨j, y, h, _, hj, _⟩
  · exact .inl h
  · exact .inr ⟨j, y, h, hj⟩
theorem IdlRel.of {l : List Ins} {b : Int} {u v : Value} (h : IdlRel l b u v) (hb : b = -1 ∨ ∃ (j : Nat) (y : Ins), b = j ∧ l[j]? = some y) : (u = .string ⟨#[]⟩ ∧ v = .bool false ∧ b = -1) ∨ ∃ (j : Nat) (y : Ins), u = .string y.id ∧ v = .bool true ∧ b = j ∧ l[j]? = some y := by
  rcases hb with hb | ⟨j, y, hb, hj⟩
  · exact .inl ⟨by rw [h.1, (idl_no hb).1], by rw [h.2, (idl_no (l := l) hb).2], hb⟩
  · exact .inr ⟨j, y, by rw [h.1, (idl_yes hb hj).1], by rw [h.2, (idl_yes hb hj).2], hb, hj⟩
set_option maxHeartbeats 4000000 in
set_option maxRecDepth 20000 in
theorem idle_any (hP : PoolAt w B p m A c s) (hok : s.ok) : Calls Tryd.prog 35 #[.pointer (some ⟨p, 0, none⟩)] w fun e w' => e = .returned (.tuple #[.string (idlV s.l (wrm s.l)), .bool (decide (0 ≤ wrm s.l))]) ∧ Below w.heap.size w w' := by
  have h32 := hok.len32
  have hn0 := Nat.le_refl w.heap.size
  have hpl := hP.blk.lt
  have q7 : w.cell? ⟨p, 7, none⟩ = some (.slice A s.l.length c) := hP.blk.cell 7
  have HP := Lib.hid hP
  have HO := Lib.hid hok
  unfold wrm
  clear hP hok
  go_enter Tryd.func35, Tryd.ntmps35
  go_wp2_with fail
  go_loopw [4, 5, 14] (fun a f i wr => ∃ (k : Nat) (b : Int), k ≤ s.l.length ∧ i = .int .i64 k ∧ wk s.l k = b ∧ IdlRel s.l b a f ∧ Below w.heap.size w wr) (fun _ _ i _ => s.l.length - (intOf i).toNat)
  case atStart => exact ⟨0, -1, Nat.zero_le _, rfl, rfl, IdlRel.no rfl, Below.refl _ _⟩
  case round =>
    obtain ⟨k, b, hk, rfl, hwk, hr, hb⟩ := hrel
    have hz : w.heap.size ≤ wr.heap.size := hb.size
    have HB := Lib.hid hb
    have HWK := Lib.hid hwk
    by_cases hlt : k < s.l.length
    · have hPr := HP.out.below hb
      have q8 : wr.cell? ⟨p, 8, none⟩ = some (.map (some m)) := hPr.blk.cell 8
      have HPR := Lib.hid hPr
      obtain ⟨g, hA, hg, qk, -, hlook⟩ := hPr.elem HO.out (List.getElem?_eq_getElem hlt)
      subst hA
      have HK := Lib.hid (List.getElem?_eq_getElem hlt)
      generalize s.l[k] = x at *
      simp only [Ins.val] at hlook
      have hkI : (k : Int) < s.l.length := by omega
      rcases hr.of (wk_pos hwk) with ⟨rfl, rfl, hb1⟩ | ⟨j, y, rfl, rfl, hb1, hjy⟩
      · -- nothing yet
        clear hwk hb hPr hr
        go_wp2_with fail
        have hbw : Below wr.heap.size wr (wr.alloc (.cells #[.string x.id, .int .i64 x.st, .int .i64 x.since, .int .i64 x.uses] 56)) := (Below.refl _ _).alloc (Nat.le_refl _) _
        have bx := Blk.new wr 56 #[.string x.id, .int .i64 x.st, .int .i64 x.since, .int .i64 x.uses]
        have HPW := Lib.hid (HPR.out.below hbw)
        have HBW := Lib.hid (HB.out.trans (hbw.mono hz))
        have hzw : w.heap.size ≤ (wr.alloc (.cells #[.string x.id, .int .i64 x.st, .int .i64 x.since, .int .i64 x.uses] 56)).heap.size := HBW.out.size
        clear hbw qk q8 hlook
        generalize wr.alloc (.cells #[.string x.id, .int .i64 x.st, .int .i64 x.since, .int .i64 x.uses] 56) = W at *
        have x1 : W.cell? ⟨wr.heap.size, 1, none⟩ = some (.int .i64 x.st) := bx.cell 1
        have x2 : W.cell? ⟨wr.heap.size, 2, none⟩ = some (.int .i64 x.since) := bx.cell 2
        rcases beqs x.st 2 with ⟨hq, hs⟩ | ⟨hq, hs⟩
        · have HH := Lib.hid (wk_first HK.out hs (HWK.out.trans hb1))
          clear hs hb1
          go_quiet (fail)
          go_wp2_with fail
          go_roundw
          case rel => exact ⟨k + 1, k, by omega, by go_num, HH.out, IdlRel.yes rfl HK.out, HBW.out.trans ((below_drewN' W.heap.size W _).mono hzw)⟩
          case measure => simp [intOf]; omega
        · have HH := Lib.hid ((wk_skip HK.out hs).trans HWK.out)
          have HR := Lib.hid (IdlRel.no (l := s.l) hb1)
          clear hs hb1
          go_quiet (fail)
          go_wp2_with fail
          go_roundw
          case rel => exact ⟨k + 1, b, by omega, by go_num, HH.out, HR.out, HBW.out.trans ((below_drewN' W.heap.size W _).mono hzw)⟩
          case measure => simp [intOf]; omega
      · clear hwk hb hPr hr
        go_wp2_with fail
        have hbw : Below wr.heap.size wr (wr.alloc (.cells #[.string x.id, .int .i64 x.st, .int .i64 x.since, .int .i64 x.uses] 56)) := (Below.refl _ _).alloc (Nat.le_refl _) _
        have bx := Blk.new wr 56 #[.string x.id, .int .i64 x.st, .int .i64 x.since, .int .i64 x.uses]
        have hPW := HPR.out.below hbw
        have HBW := Lib.hid (HB.out.trans (hbw.mono hz))
        have hzw : w.heap.size ≤ (wr.alloc (.cells #[.string x.id, .int .i64 x.st, .int .i64 x.since, .int .i64 x.uses] 56)).heap.size := HBW.out.size
        clear hbw qk q8 hlook
        generalize wr.alloc (.cells #[.string x.id, .int .i64 x.st, .int .i64 x.since, .int .i64 x.uses] 56) = W at *
        have x1 : W.cell? ⟨wr.heap.size, 1, none⟩ = some (.int .i64 x.st) := bx.cell 1
        have x2 : W.cell? ⟨wr.heap.size, 2, none⟩ = some (.int .i64 x.since) := bx.cell 2
        have q8 : W.cell? ⟨p, 8, none⟩ = some (.map (some m)) := hPW.blk.cell 8
        have hlook : ∀ n, Sem.run Tryd.prog (Instr.lookup 49 (.map (some m)) (.string y.id) false) (W.drewN n) = .ok (.agg #[.string y.id, .int .i64 y.st, .int .i64 y.since, .int .i64 y.uses]) (W.drewN n) := fun n => by
          obtain ⟨_, _, _, _, _, h⟩ := (hPW.below (below_drewN' W.heap.size W n)).elem HO.out hjy
          exact h
        clear hPW
        rcases beqs x.st 2 with ⟨hq, hs⟩ | ⟨hq, hs⟩
        · rcases decide_cases (y.since ≤ x.since) with ⟨hd, hdb⟩ | ⟨hd, hdb⟩
          · have HH := Lib.hid (wk_more HK.out hs (HWK.out.trans hb1) hjy hd)
            clear hs hb1 hd hjy
            go_quiet (fail)
            go_wp2_with fail
            go_roundw
            case rel => exact ⟨k + 1, k, by omega, by go_num, HH.out, IdlRel.yes rfl HK.out, HBW.out.trans ((below_drewN' W.heap.size W _).mono hzw)⟩
            case measure => simp [intOf]; omega
          · have HH := Lib.hid ((wk_less HK.out (HWK.out.trans hb1) hjy hd).trans HWK.out)
            have HR := Lib.hid (IdlRel.yes hb1 hjy)
            clear hs hb1 hd hjy
            go_quiet (fail)
            go_wp2_with fail
            go_roundw
            case rel => exact ⟨k + 1, b, by omega, by go_num, HH.out, HR.out, HBW.out.trans ((below_drewN' W.heap.size W _).mono hzw)⟩
            case measure => simp [intOf]; omega
        · have HH := Lib.hid ((wk_skip HK.out hs).trans HWK.out)
          have HR := Lib.hid (IdlRel.yes hb1 hjy)
          clear hs hb1 hjy
          go_quiet (fail)
          go_wp2_with fail
          go_roundw
          case rel => exact ⟨k + 1, b, by omega, by go_num, HH.out, HR.out, HBW.out.trans ((below_drewN' W.heap.size W _).mono hzw)⟩
          case measure => simp [intOf]; omega
    · obtain rfl : k = s.l.length := by omega
      obtain ⟨rfl, rfl⟩ := hr
      clear hwk hb
      go_wp2_with fail
      go_ret2
      exact ⟨by rw [HWK.out]; rfl, HB.out⟩
end
end Go.Proofs.YtmpaogmfceldjaaDoor
