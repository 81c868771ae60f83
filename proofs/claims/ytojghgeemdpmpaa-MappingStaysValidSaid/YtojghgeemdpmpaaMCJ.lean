/- Whether records follow one another: both walks. -/
import Derived.Test.YtojghgeemdpmpaaMCH
namespace Go.Proofs.Ytojghgeemdpmpaa
open Go.RowKit
open Go.Sort (grow)

def bad2 (sh : Int) (k : Nat) (x y : Rec) : Bool := (x.shard != sh) || (decide (0 < k) && (decide (x.seq ≤ y.seq) || (IntKind.i64.wrap (x.seq - 1) != y.seq)))
/-- The record k stands out of order. -/
def badAt (sh : Int) (l : List Rec) (k : Nat) : Bool := match l[k]?, l[k - 1]? with
  | some x, some y => bad2 sh k x y
  | _, _ => false
def ordB (sh : Int) (l : List Rec) : Bool := (List.range l.length).all fun k => !badAt sh l k
theorem badAt_eq {sh : Int} {l : List RecX} {k j : Nat} (hk : k < l.length) (hj : j < l.length) (e : j = k - 1) : badAt sh (l.map (·.r)) k = bad2 sh k l[k].r l[j].r := by
  subst e
  unfold badAt
  rw [List.getElem?_eq_getElem (by simpa using hk), List.getElem?_eq_getElem (by simpa using hj)]
  simp
theorem ord_no {sh : Int} {l : List RecX} {k : Nat} (hk : k < l.length) (h : badAt sh (l.map (·.r)) k = true) : false = ordB sh (l.map (·.r)) := by
  symm
  unfold ordB
  rw [List.all_eq_false]
  exact ⟨k, List.mem_range.2 (by simpa using hk), by simp [h]⟩
theorem ord_yes {sh : Int} {l : List RecX} (h : ∀ k, k < l.length → badAt sh (l.map (·.r)) k = false) : true = ordB sh (l.map (·.r)) := by
  symm
  unfold ordB
  rw [List.all_eq_true]
  intro k hk
  have := h k (by simpa using hk)
  simp [this]
def OrdTo (sh : Int) (l : List RecX) (k : Nat) : Prop := ∀ i, i < k → badAt sh (l.map (·.r)) i = false
theorem OrdTo.zero (sh : Int) (l : List RecX) : OrdTo sh l 0 := fun i h => absurd h (by omega)
theorem OrdTo.snoc {sh : Int} {l : List RecX} {k : Nat} (h : OrdTo sh l k) (h' : badAt sh (l.map (·.r)) k = false) : OrdTo sh l (k + 1) := fun i hi => by
  rcases Nat.lt_or_ge i k with hh | hh
  · exact h i hh
  · obtain rfl : i = k := by omega
    exact h'
theorem b2_a {sh : Int} {k : Nat} {x y : Rec} (h : (x.shard != sh) = true) : bad2 sh k x y = true := by simp [bad2, h]
theorem b2_b {sh : Int} {k : Nat} {x y : Rec} (h : (x.shard != sh) = false) (h1 : decide (0 < k) = false) : bad2 sh k x y = false := by simp [bad2, h, h1]
theorem b2_c {sh : Int} {k : Nat} {x y : Rec} (h1 : decide (0 < k) = true) (h2 : decide (x.seq ≤ y.seq) = true) : bad2 sh k x y = true := by simp [bad2, h1, h2]
theorem b2_d {sh : Int} {k : Nat} {x y : Rec} (h1 : decide (0 < k) = true) (h2 : (IntKind.i64.wrap (x.seq - 1) != y.seq) = true) : bad2 sh k x y = true := by simp [bad2, h1, h2]
theorem b2_e {sh : Int} {k : Nat} {x y : Rec} (h : (x.shard != sh) = false) (h2 : decide (x.seq ≤ y.seq) = false) (h3 : (IntKind.i64.wrap (x.seq - 1) != y.seq) = false) : bad2 sh k x y = false := by simp [bad2, h, h2, h3]
set_option maxHeartbeats 2000000 in
set_option maxRecDepth 20000 in
theorem ordered_any (sh : Int) (A : Option Addr) (c : Nat) (l : List RecX) (w : World) (hl : RecsAt w w.heap.size A l) (hn : l.length ≤ 1034834473170) :
    Calls Try.prog 31 #[.slice A l.length c, .int .i64 sh] w fun e w' => e = .returned (.bool (ordB sh (l.map (·.r)))) ∧ Below w.heap.size w w' := by
  have HL := Lib.hid hl
  clear hl
  go_enter Try.func31, Try.ntmps31
  go_wp2_with fail
  go_loopw [5, 6, 9] (fun _ _ i wr => ∃ k : Nat, k ≤ l.length ∧ i = .int .i64 k ∧ OrdTo sh l k ∧ Below w.heap.size w wr) (fun _ _ i _ => l.length - (intOf i).toNat)
  case atStart => exact ⟨0, Nat.zero_le _, rfl, OrdTo.zero _ _, Below.refl _ _⟩
  case round =>
    obtain ⟨k, hk, rfl, hno, hbr⟩ := hrel
    have HN := Lib.hid hno
    have HB := Lib.hid hbr
    have hzr : w.heap.size ≤ wr.heap.size := hbr.size
    clear hno hbr
    by_cases hlt : k < l.length
    · have hj : k - 1 < l.length := by omega
      obtain ⟨b, o, rfl, hbl, ⟨c0, c1, c2, c3, c4, c5, c6, c7, c8, c9⟩⟩ := (HL.out.below HB.out).ten hlt
      obtain ⟨b', o', e', -, ⟨-, d1, -, -, -, -, -, -, -, -⟩⟩ := (HL.out.below HB.out).ten hj
      obtain ⟨rfl, rfl⟩ : b = b' ∧ o = o' := by injection e' with e'; injection e' with e1 e2; exact ⟨e1, e2⟩
      clear e'
      have HE := Lib.hid (badAt_eq (sh := sh) hlt hj rfl)
      have hbw : b < wr.heap.size := by omega
      have hki : (k : Int) < l.length := by omega
      generalize hjj : k - 1 = j at *
      cases hs : (l[k].r.shard != sh)
      case true =>
        have HO := Lib.hid (ord_no hlt (HE.out.trans (b2_a hs)))
        clear d1
        go_wp2_with fail
        go_quiet (fail)
        go_wp2
        go_ret
        exact ⟨ret_bool HO.out, (HB.out.alloc hzr _).trans (World.below_drewN' _ _ _)⟩
      case false =>
        by_cases h0 : 0 < k
        case neg =>
          have g0 : decide (0 < k) = false := decide_eq_false h0
          have HO := Lib.hid (HN.out.snoc (HE.out.trans (b2_b hs g0)))
          clear d1
          go_wp2_with fail
          go_quiet (fail)
          go_wp2
          go_roundw
          case rel => exact ⟨k + 1, by omega, by go_num, HO.out, (HB.out.alloc hzr _).trans (World.below_drewN' _ _ _)⟩
          case measure => simp [intOf]; omega
        case pos =>
          have g0 : decide (0 < k) = true := decide_eq_true h0
          have g1 : IntKind.i64.wrap ((k : Int) - 1) = j := by rw [IntWalk.i64_in _ (by omega)]; omega
          have g2 : (j : Int) < l.length := by omega
          have g3 : (0 : Int) ≤ (j : Int) := by omega
          cases h2 : decide (l[k].r.seq ≤ l[j].r.seq)
          case true =>
            have HO := Lib.hid (ord_no hlt (HE.out.trans (b2_c g0 h2)))
            go_wp2_with fail
            go_quiet (fail)
            go_wp2
            go_ret
            exact ⟨ret_bool HO.out, (HB.out.alloc hzr _).trans (World.below_drewN' _ _ _)⟩
          case false =>
            cases h3 : (IntKind.i64.wrap (l[k].r.seq - 1) != l[j].r.seq)
            case true =>
              have h4 : (wrap64 (l[k].r.seq - 1) != l[j].r.seq) = true := by rw [← IntWalk.i64_left]; exact h3
              have HO := Lib.hid (ord_no hlt (HE.out.trans (b2_d g0 h3)))
              go_wp2_with fail
              go_quiet (fail)
              go_wp2
              go_ret
              exact ⟨ret_bool HO.out, (HB.out.alloc hzr _).trans (World.below_drewN' _ _ _)⟩
            case false =>
              have h4 : (wrap64 (l[k].r.seq - 1) != l[j].r.seq) = false := by rw [← IntWalk.i64_left]; exact h3
              have HO := Lib.hid (HN.out.snoc (HE.out.trans (b2_e hs h2 h3)))
              go_wp2_with fail
              go_quiet (fail)
              go_wp2
              go_roundw
              case rel => exact ⟨k + 1, by omega, by go_num, HO.out, (HB.out.alloc hzr _).trans (World.below_drewN' _ _ _)⟩
              case measure => simp [intOf]; omega
    · have hki : ¬ (k : Int) < l.length := by omega
      have HQ := Lib.hid (ord_yes fun i hi => HN.out i (by omega))
      go_wp2_with fail
      go_ret
      exact ⟨ret_bool HQ.out, HB.out⟩
set_option maxHeartbeats 2000000 in
set_option maxRecDepth 20000 in
theorem rordered_any (sh : Int) (A : Option Addr) (c : Nat) (l : List RecX) (w : World) (hl : RecsAt w w.heap.size A l) (hn : l.length ≤ 1034834473170) :
    Calls Try.prog 55 #[.int .i64 sh, .slice A l.length c] w fun e w' => e = .returned (.bool (ordB sh (l.map (·.r)))) ∧ Below w.heap.size w w' := by
  have HL := Lib.hid hl
  clear hl
  go_enter Try.func55, Try.ntmps55
  go_wp2_with fail
  go_loopw [5] (fun  i wr => ∃ k : Nat, k ≤ l.length ∧ i = .int .i64 k ∧ OrdTo sh l k ∧ Below w.heap.size w wr) (fun  i _ => l.length - (intOf i).toNat)
  case atStart => exact ⟨0, Nat.zero_le _, rfl, OrdTo.zero _ _, Below.refl _ _⟩
  case round =>
    obtain ⟨k, hk, rfl, hno, hbr⟩ := hrel
    have HN := Lib.hid hno
    have HB := Lib.hid hbr
    have hzr : w.heap.size ≤ wr.heap.size := hbr.size
    clear hno hbr
    by_cases hlt : k < l.length
    · have hj : k - 1 < l.length := by omega
      obtain ⟨b, o, rfl, hbl, ⟨c0, c1, c2, c3, c4, c5, c6, c7, c8, c9⟩⟩ := (HL.out.below HB.out).ten hlt
      obtain ⟨b', o', e', -, ⟨-, d1, -, -, -, -, -, -, -, -⟩⟩ := (HL.out.below HB.out).ten hj
      obtain ⟨rfl, rfl⟩ : b = b' ∧ o = o' := by injection e' with e'; injection e' with e1 e2; exact ⟨e1, e2⟩
      clear e'
      have HE := Lib.hid (badAt_eq (sh := sh) hlt hj rfl)
      have hbw : b < wr.heap.size := by omega
      have hki : (k : Int) < l.length := by omega
      generalize hjj : k - 1 = j at *
      cases hs : (l[k].r.shard != sh)
      case true =>
        have HO := Lib.hid (ord_no hlt (HE.out.trans (b2_a hs)))
        clear d1
        go_wp2_with fail
        go_quiet (fail)
        go_wp2
        go_ret
        exact ⟨ret_bool HO.out, HB.out.trans (World.below_drewN' _ _ _)⟩
      case false =>
        by_cases h0 : 0 < k
        case neg =>
          have g0 : decide (0 < k) = false := decide_eq_false h0
          have HO := Lib.hid (HN.out.snoc (HE.out.trans (b2_b hs g0)))
          clear d1
          go_wp2_with fail
          go_quiet (fail)
          go_wp2
          go_roundw
          case rel => exact ⟨k + 1, by omega, by go_num, HO.out, HB.out.trans (World.below_drewN' _ _ _)⟩
          case measure => simp [intOf]; omega
        case pos =>
          have g0 : decide (0 < k) = true := decide_eq_true h0
          have g1 : IntKind.i64.wrap ((k : Int) - 1) = j := by rw [IntWalk.i64_in _ (by omega)]; omega
          have g2 : (j : Int) < l.length := by omega
          have g3 : (0 : Int) ≤ (j : Int) := by omega
          cases h2 : decide (l[k].r.seq ≤ l[j].r.seq)
          case true =>
            have HO := Lib.hid (ord_no hlt (HE.out.trans (b2_c g0 h2)))
            go_wp2_with fail
            go_quiet (fail)
            go_wp2
            go_ret
            exact ⟨ret_bool HO.out, HB.out.trans (World.below_drewN' _ _ _)⟩
          case false =>
            cases h3 : (IntKind.i64.wrap (l[k].r.seq - 1) != l[j].r.seq)
            case true =>
              have h4 : (wrap64 (l[k].r.seq - 1) != l[j].r.seq) = true := by rw [← IntWalk.i64_left]; exact h3
              have HO := Lib.hid (ord_no hlt (HE.out.trans (b2_d g0 h3)))
              go_wp2_with fail
              go_quiet (fail)
              go_wp2
              go_ret
              exact ⟨ret_bool HO.out, HB.out.trans (World.below_drewN' _ _ _)⟩
            case false =>
              have h4 : (wrap64 (l[k].r.seq - 1) != l[j].r.seq) = false := by rw [← IntWalk.i64_left]; exact h3
              have HO := Lib.hid (HN.out.snoc (HE.out.trans (b2_e hs h2 h3)))
              go_wp2_with fail
              go_quiet (fail)
              go_wp2
              go_roundw
              case rel => exact ⟨k + 1, by omega, by go_num, HO.out, HB.out.trans (World.below_drewN' _ _ _)⟩
              case measure => simp [intOf]; omega
    · have hki : ¬ (k : Int) < l.length := by omega
      have HQ := Lib.hid (ord_yes fun i hi => HN.out i (by omega))
      go_wp2_with fail
      go_ret
      exact ⟨ret_bool HQ.out, HB.out⟩
end Go.Proofs.Ytojghgeemdpmpaa
