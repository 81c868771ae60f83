/- The small functions of the laws. -/
import Derived.Test.YtmpaogmfceldjaaDoorKWG
namespace Go.Proofs.YtmpaogmfceldjaaDoor
open Go.RowKit
open Go.Sort (grow)

theorem OwnS.cell_at {w : World} {base : Nat} {pv : Option Addr} {cv : Nat} {l : List ByteArray} (h : OwnS w base (.slice pv l.length cv) l) {k : Nat} {x : ByteArray} (hk : l[k]? = some x) : ∃ g, pv = some ⟨g, 0, none⟩ ∧ g < w.heap.size ∧ w.cell? ⟨g, k, none⟩ = some (.string x) := by
  obtain ⟨g, cap, e, hs⟩ := h.at_ (by have := (List.getElem?_eq_some_iff.1 hk).1; omega)
  injection e with e _ _
  exact ⟨g, e, hs.2.1, hs.cell hk⟩
/-- The n-th from the end. -/
def nthB (l : List ByteArray) (n : Int) : ByteArray := if 0 ≤ n ∧ n < l.length then l.getD (l.length - 1 - n.toNat) ⟨#[]⟩ else ⟨#[]⟩
set_option maxHeartbeats 2000000 in
theorem nth_any {w : World} {base : Nat} {pv : Option Addr} {cv : Nat} {l : List ByteArray} (h : OwnS w base (.slice pv l.length cv) l) (hn : l.length ≤ 1000000) (n : Int) :
    Calls Tryd.prog 10 #[.slice pv l.length cv, .int .i64 n] w fun e w' => e = .returned (.string (nthB l n)) ∧ w = w' := by
  by_cases hc : 0 ≤ n ∧ n < l.length
  · have HD : Hid (nthB l n = l.getD (l.length - 1 - n.toNat) ⟨#[]⟩) := if_pos hc
    obtain ⟨h0, h1⟩ := hc
    obtain ⟨k, rfl⟩ : ∃ k : Nat, n = k := ⟨n.toNat, by omega⟩
    have hj : l.length - 1 - k < l.length := by omega
    obtain ⟨g, rfl, hg, hcell⟩ := h.cell_at (List.getElem?_eq_getElem hj)
    have HX : Hid (nthB l k = l[l.length - 1 - k]) := by
      have := HD.out
      rw [this, Int.toNat_natCast, List.getD_eq_getElem?_getD, List.getElem?_eq_getElem hj]; rfl
    generalize l[l.length - 1 - k] = x at *
    obtain ⟨j, hj'⟩ : ∃ j : Nat, j = l.length - 1 - k := ⟨_, rfl⟩
    rw [← hj'] at hcell
    have hji : (l.length : Int) - 1 - k = j := by omega
    have hw : IntKind.i64.wrap ((l.length : Int) - 1) = l.length - 1 := IntWalk.i64_in _ (by omega)
    have hw2 : IntKind.i64.wrap ((l.length : Int) - 1 - k) = j := by rw [hji]; exact IntWalk.i64_in _ (by omega)
    have hjl : (j : Int) < l.length := by omega
    have hjn : j < l.length := by omega
    have hk0 : ¬ ((k : Int) < 0) := by omega
    clear h hj hj'
    go_enter Tryd.func10, Tryd.ntmps10
    go_wp2
    all_goals try (exfalso; omega)
    go_ret
    exact ⟨ret_str HX.out.symm, rfl⟩
  · have HD : Hid (nthB l n = ⟨#[]⟩) := if_neg hc
    rcases Int.lt_or_le n 0 with h0 | h0
    · have hd : decide (n < 0) = true := decide_eq_true h0
      clear hc h
      go_enter Tryd.func10, Tryd.ntmps10
      go_wp2
      go_ret
      exact ⟨ret_str HD.out.symm, rfl⟩
    · have h1 : (l.length : Int) ≤ n := by omega
      have hd : decide (n < 0) = false := decide_eq_false (by omega)
      have hd2 : decide ((l.length : Int) ≤ n) = true := decide_eq_true h1
      clear hc h
      go_enter Tryd.func10, Tryd.ntmps10
      go_wp2
      go_ret
      exact ⟨ret_str HD.out.symm, rfl⟩
def hasB (l : List ByteArray) (s : ByteArray) : Bool := l.any fun x => eqS x s
set_option maxHeartbeats 2000000 in
theorem Has_any {w : World} {base : Nat} {pv : Option Addr} {cv : Nat} {l : List ByteArray} (h : OwnS w base (.slice pv l.length cv) l) (hn : l.length ≤ 1000000) (s : ByteArray) :
    Calls Tryd.prog 27 #[.slice pv l.length cv, .string s] w fun e w' => e = .returned (.bool (hasB l s)) ∧ w = w' := by
  have HH := Lib.hid h
  clear h
  go_enter Tryd.func27, Tryd.ntmps27
  go_wp2_with fail
  go_loop [5] (fun i => ∃ k : Nat, k ≤ l.length ∧ i = .int .i64 k ∧ (l.take k).any (fun x => eqS x s) = false) (fun i => l.length - (intOf i).toNat)
  case atStart => exact ⟨0, Nat.zero_le _, rfl, rfl⟩
  case round =>
    obtain ⟨k, hk, rfl, hno⟩ := hrel
    have HNO := Lib.hid hno
    clear hno
    by_cases hlt : k < l.length
    · obtain ⟨g, rfl, hg, q0⟩ := HH.out.cell_at (List.getElem?_eq_getElem hlt)
      have HK := Lib.hid (List.getElem?_eq_getElem hlt)
      generalize l[k] = x at *
      have hkI : (k : Int) < l.length := by omega
      have ht := toL_eq x s
      cases hq : eqS x s
      · have HQ := Lib.hid hq
        rw [hq] at ht
        clear hq
        go_wp2_with fail
        go_round
        case rel => exact ⟨k + 1, by omega, by go_num, by rw [take_snoc' HK.out, List.any_append, HNO.out]; simp [HQ.out]⟩
        case measure => simp [intOf]; omega
      · have HD : Hid (hasB l s = true) := List.any_eq_true.2 ⟨x, List.mem_of_getElem? HK.out, hq⟩
        rw [hq] at ht
        clear hq
        go_wp2_with fail
        go_ret
        exact ⟨ret_bool HD.out.symm, rfl⟩
    · obtain rfl : k = l.length := by omega
      have HD : Hid (hasB l s = false) := by have := HNO.out; rw [List.take_length] at this; exact this
      go_wp2_with fail
      go_ret
      exact ⟨ret_bool HD.out.symm, rfl⟩
def usesN (l : List ByteArray) (s : ByteArray) : Nat := (l.filter fun x => eqS x s).length
theorem uses_yes {l : List ByteArray} {k : Nat} {x s : ByteArray} (h : l[k]? = some x) (hx : eqS x s = true) : usesN (l.take (k + 1)) s = usesN (l.take k) s + 1 := by
  unfold usesN
  rw [take_snoc' h, List.filter_append]
  simp [hx]
theorem uses_no {l : List ByteArray} {k : Nat} {x s : ByteArray} (h : l[k]? = some x) (hx : eqS x s = false) : usesN (l.take (k + 1)) s = usesN (l.take k) s := by
  unfold usesN
  rw [take_snoc' h, List.filter_append]
  simp [hx]
theorem uses_le (l : List ByteArray) (s : ByteArray) : usesN l s ≤ l.length := List.length_filter_le _ _
set_option maxHeartbeats 2000000 in
theorem uses_any {w : World} {base : Nat} {pv : Option Addr} {cv : Nat} {l : List ByteArray} (h : OwnS w base (.slice pv l.length cv) l) (hn : l.length ≤ 1000000) (s : ByteArray) :
    Calls Tryd.prog 28 #[.slice pv l.length cv, .string s] w fun e w' => e = .returned (.int .i64 (usesN l s)) ∧ w = w' := by
  have HH := Lib.hid h
  clear h
  go_enter Tryd.func28, Tryd.ntmps28
  go_wp2_with fail
  go_loop [5, 6] (fun n i => ∃ k : Nat, k ≤ l.length ∧ i = .int .i64 k ∧ n = .int .i64 (usesN (l.take k) s)) (fun _ i => l.length - (intOf i).toNat)
  case atStart => exact ⟨0, Nat.zero_le _, rfl, rfl⟩
  case round =>
    obtain ⟨k, hk, rfl, rfl⟩ := hrel
    have hle := uses_le (l.take k) s
    rw [len_take hk] at hle
    by_cases hlt : k < l.length
    · obtain ⟨g, rfl, hg, q0⟩ := HH.out.cell_at (List.getElem?_eq_getElem hlt)
      have HY := Lib.hid (uses_yes (s := s) (List.getElem?_eq_getElem hlt))
      have HN := Lib.hid (uses_no (s := s) (List.getElem?_eq_getElem hlt))
      generalize l[k] = x at *
      generalize usesN (l.take k) s = m at *
      have hkI : (k : Int) < l.length := by omega
      have ht := toL_eq x s
      cases hq : eqS x s
      · have HQ := Lib.hid (HN.out hq)
        rw [hq] at ht
        clear hq HY HN
        go_wp2_with fail
        go_round
        case rel => exact ⟨k + 1, by omega, by go_num, by rw [HQ.out]⟩
        case measure => simp [intOf]; omega
      · have HQ := Lib.hid (HY.out hq)
        rw [hq] at ht
        clear hq HY HN
        go_wp2_with fail
        go_round
        case rel => exact ⟨k + 1, by omega, by go_num, by rw [HQ.out]; go_num⟩
        case measure => simp [intOf]; omega
    · obtain rfl : k = l.length := by omega
      rw [List.take_length]
      go_wp2_with fail
      go_ret
      exact ⟨rfl, rfl⟩
/-- Two lists that are equal. -/
theorem get_both {w : World} {base base' : Nat} {v v' : Value} {l : List ByteArray} (h : OwnS w base v l) (h' : OwnS w base' v' l) : ∃ p c p' c', v = .slice p l.length c ∧ v' = .slice p' l.length c' ∧ ∀ k x, l[k]? = some x → ∃ g g', p = some ⟨g, 0, none⟩ ∧ p' = some ⟨g', 0, none⟩ ∧ w.cell? ⟨g, k, none⟩ = some (.string x) ∧ w.cell? ⟨g', k, none⟩ = some (.string x) := by
  obtain ⟨p, c, rfl⟩ := own_slice h
  obtain ⟨p', c', rfl⟩ := own_slice h'
  refine ⟨p, c, p', c', rfl, rfl, fun k x hk => ?_⟩
  obtain ⟨g, e, _, q⟩ := OwnS.cell_at h hk
  obtain ⟨g', e', _, q'⟩ := OwnS.cell_at h' hk
  exact ⟨g, g', e, e', q, q'⟩
set_option maxHeartbeats 2000000 in
theorem SameS_any {w : World} {base base' : Nat} {v v' : Value} {l : List ByteArray} (h : OwnS w base v l) (h' : OwnS w base' v' l) (hn : l.length ≤ 1000000) :
    Calls Tryd.prog 15 #[v, v'] w fun e w' => e = .returned (.bool true) ∧ Below w.heap.size w w' := by
  obtain ⟨p, c, p', c', rfl, rfl, hg⟩ := get_both h h'
  have HG := Lib.hid hg
  clear h h' hg
  go_enter Tryd.func15, Tryd.ntmps15
  go_wp2_with fail
  go_loopw [5] (fun i wr => ∃ k n : Nat, k ≤ l.length ∧ i = .int .i64 k ∧ wr = w.drewN n) (fun i _ => l.length - (intOf i).toNat)
  case atStart => exact ⟨0, 0, Nat.zero_le _, rfl, rfl⟩
  case round =>
    obtain ⟨k, nq, hk, rfl, rfl⟩ := hrel
    by_cases hlt : k < l.length
    · obtain ⟨g, g', rfl, rfl, p0, q0⟩ := HG.out k l[k] (List.getElem?_eq_getElem hlt)
      have hltI : (k : Int) < l.length := by omega
      go_wp2_with fail
      go_quiet (fail)
      go_wp2_with fail
      go_roundw
      case rel => exact ⟨k + 1, _, by omega, by go_num, by first | rfl | rw [World.drewN_drewN]⟩
      case measure => simp [intOf]; omega
    · go_wp2_with fail
      go_ret
      exact ⟨rfl, below_drewN' _ _ _⟩
theorem fieldsI : Tryd.prog.underlying 56 = some (.struct (Tryd.prog.fieldsOf 56)) := by kernel_rfl
theorem stoodI : Tryd.prog.stoodInHeld 56 = false := by kernel_rfl
theorem run_neq_I (W : World) (a : ByteArray) (b c d : Int) : (binOp .neq 56 (.agg #[.string a, .int .i64 b, .int .i64 c, .int .i64 d]) (.agg #[.string a, .int .i64 b, .int .i64 c, .int .i64 d])).run Tryd.prog W = .ok (.bool false) W := by
  rw [run_neq_struct, run_equalIn_struct _ _ _ _ _ fieldsI stoodI]
  simp [go_sem]
theorem run_eql_I (W : World) (a : ByteArray) (b c d : Int) : (binOp .eql 56 (.agg #[.string a, .int .i64 b, .int .i64 c, .int .i64 d]) (.agg #[.string a, .int .i64 b, .int .i64 c, .int .i64 d])).run Tryd.prog W = .ok (.bool true) W := by
  rw [run_eql_struct, run_equalIn_struct _ _ _ _ _ fieldsI stoodI]
  simp [go_sem]
attribute [go_sem ↓] run_neq_I run_eql_I
theorem get_bothL {w : World} {base base' : Nat} {v v' : Value} {l : List Ins} (h : OwnL w base v l) (h' : OwnL w base' v' l) : ∃ p c p' c', v = .slice p l.length c ∧ v' = .slice p' l.length c' ∧ ∀ k x, l[k]? = some x → ∃ g g', p = some ⟨g, 0, none⟩ ∧ p' = some ⟨g', 0, none⟩ ∧
    (w.cell? ⟨g, k * 4, none⟩ = some (.string x.id) ∧ w.cell? ⟨g, k * 4 + 1, none⟩ = some (.int .i64 x.st) ∧ w.cell? ⟨g, k * 4 + 2, none⟩ = some (.int .i64 x.since) ∧ w.cell? ⟨g, k * 4 + 3, none⟩ = some (.int .i64 x.uses)) ∧
    (w.cell? ⟨g', k * 4, none⟩ = some (.string x.id) ∧ w.cell? ⟨g', k * 4 + 1, none⟩ = some (.int .i64 x.st) ∧ w.cell? ⟨g', k * 4 + 2, none⟩ = some (.int .i64 x.since) ∧ w.cell? ⟨g', k * 4 + 3, none⟩ = some (.int .i64 x.uses)) := by
  obtain ⟨p, c, rfl⟩ := own_slice h
  obtain ⟨p', c', rfl⟩ := own_slice h'
  refine ⟨p, c, p', c', rfl, rfl, fun k x hk => ?_⟩
  have hl : 0 < l.length := by have := (List.getElem?_eq_some_iff.1 hk).1; omega
  obtain ⟨g, cap, e, _, _, q⟩ := OwnL.at_ h hl
  obtain ⟨g', cap', e', _, _, q'⟩ := OwnL.at_ h' hl
  injection e with e _ _
  injection e' with e' _ _
  exact ⟨g, g', e, e', q k x hk, q' k x hk⟩
set_option maxHeartbeats 2000000 in
theorem same_any {w : World} {base base' : Nat} {v v' : Value} {l : List Ins} (h : OwnL w base v l) (h' : OwnL w base' v' l) (hn : l.length ≤ 1000000) :
    Calls Tryd.prog 22 #[v, v'] w fun e w' => e = .returned (.bool true) ∧ Below w.heap.size w w' := by
  obtain ⟨p, c, p', c', rfl, rfl, hg⟩ := get_bothL h h'
  have HG := Lib.hid hg
  clear h h' hg
  go_enter Tryd.func22, Tryd.ntmps22
  go_wp2_with fail
  go_loopw [5] (fun i wr => ∃ k n : Nat, k ≤ l.length ∧ i = .int .i64 k ∧ wr = w.drewN n) (fun i _ => l.length - (intOf i).toNat)
  case atStart => exact ⟨0, 0, Nat.zero_le _, rfl, rfl⟩
  case round =>
    obtain ⟨k, nq, hk, rfl, rfl⟩ := hrel
    by_cases hlt : k < l.length
    · obtain ⟨g, g', rfl, rfl, ⟨p0, p1, p2, p3⟩, ⟨q0, q1, q2, q3⟩⟩ := HG.out k l[k] (List.getElem?_eq_getElem hlt)
      have hltI : (k : Int) < l.length := by omega
      go_wp2_with fail
      go_quiet (fail)
      go_wp2_with fail
      go_roundw
      case rel => exact ⟨k + 1, _, by omega, by go_num, by first | rfl | rw [World.drewN_drewN]⟩
      case measure => simp [intOf]; omega
    · go_wp2_with fail
      go_ret
      exact ⟨rfl, below_drewN' _ _ _⟩
end Go.Proofs.YtmpaogmfceldjaaDoor
