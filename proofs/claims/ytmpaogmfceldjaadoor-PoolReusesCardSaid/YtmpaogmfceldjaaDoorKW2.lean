/- The walks of the lists and counts of the pools. -/
import Derived.Test.YtmpaogmfceldjaaDoorKW1
namespace Go.Proofs.YtmpaogmfceldjaaDoor
open Go.RowKit
open Go.Sort (grow)

theorem info_ins : (Tryd.prog.info? 56).map (fun i => (i.zero, i.size, i.bytes)) = some (some (.agg #[.string ⟨#[]⟩, .int .i64 0, .int .i64 0, .int .i64 0]), 4, 40) := by kernel_rfl
theorem Ins.cells_len (x : Ins) : x.cells.length = 4 := rfl
theorem Ins.one (x : Ins) : ∀ u ∈ x.cells, u.oneCell' = true := by intro u hu; simp [Ins.cells] at hu; rcases hu with rfl | rfl | rfl | rfl <;> rfl
/-- An owned list of instances. -/
def OwnL (w : World) (base : Nat) (v : Value) (l : List Ins) : Prop := w.ownsRow base 56 4 v l.length (l.flatMap Ins.cells)
theorem OwnL.nil (w : World) (base : Nat) : OwnL w base (.slice none 0 0) [] := own_nil w base _ _
theorem OwnL.on {w w' : World} {base : Nat} {v : Value} {l : List Ins} (h : OwnL w base v l) (hb : Below w.heap.size w w') : OwnL w' base v l := own_below h hb
theorem OwnL.push {w : World} {base : Nat} {v : Value} {l : List Ins} {x : Ins} (h : w.ownsRow base 56 4 v (l.length + 1) (l.flatMap Ins.cells ++ x.cells)) : OwnL w base v (l ++ [x]) := by
  unfold OwnL
  rw [List.length_append, List.flatMap_append]
  simpa using h
/-- The cells of an element. -/
theorem OwnL.at_ {w : World} {base : Nat} {v : Value} {l : List Ins} (h : OwnL w base v l) (hl : 0 < l.length) : ∃ g cap, v = .slice (some ⟨g, 0, none⟩) l.length cap ∧ base ≤ g ∧ g < w.heap.size ∧
    ∀ k x, l[k]? = some x → w.cell? ⟨g, k * 4, none⟩ = some (.string x.id) ∧ w.cell? ⟨g, k * 4 + 1, none⟩ = some (.int .i64 x.st) ∧ w.cell? ⟨g, k * 4 + 2, none⟩ = some (.int .i64 x.since) ∧ w.cell? ⟨g, k * 4 + 3, none⟩ = some (.int .i64 x.uses) := by
  obtain ⟨g, cap, rfl, hb, hg⟩ := own_form h hl
  refine ⟨g, cap, rfl, hb, hg, fun k x hk => ?_⟩
  have h' : w.ownsRow base 56 4 (.slice (some ⟨g, 0, none⟩) l.length cap) l.length (l.flatMap Ins.cells) := h
  have key : ∀ j u, j < 4 → x.cells[j]? = some u → w.cell? ⟨g, k * 4 + j, none⟩ = some u := fun j u hj hu => by
    have := World.ownsRow.cells h' (g := g) rfl (k * 4 + j) u (by rw [flat_get Ins.cells_len l k j x hk hj]; exact hu)
    rw [Addr.add_lit, Nat.zero_add] at this
    exact this
  exact ⟨key 0 _ (by omega) rfl, key 1 _ (by omega) rfl, key 2 _ (by omega) rfl, key 3 _ (by omega) rfl⟩

theorem take_snoc' {α : Type} {l : List α} {k : Nat} {x : α} (h : l[k]? = some x) : l.take (k + 1) = l.take k ++ [x] := by rw [List.take_add_one, h]; rfl
theorem len_take {α : Type} {l : List α} {k : Nat} (h : k ≤ l.length) : (l.take k).length = k := by rw [List.length_take]; omega
section
variable {w : World} {B p m c : Nat} {A : Option Addr} {s : PS}
/-- The identifier at index k, and what the map has for it. -/
theorem PoolAt.elem (hP : PoolAt w B p m A c s) (hok : s.ok) {k : Nat} {x : Ins} (hk : s.l[k]? = some x) :
    ∃ g, A = some ⟨g, 0, none⟩ ∧ g < w.heap.size ∧ w.cell? ⟨g, k, none⟩ = some (.string x.id) ∧ x.id.size ≤ 9223372036854775807 ∧ (Instr.lookup 49 (.map (some m)) (.string x.id) false).run Tryd.prog w = .ok x.val w := by
  have hlt := (List.getElem?_eq_some_iff.1 hk).1
  have hrow : OwnS w B (.slice A s.l.length c) (ids s.l) := by
    have := hP.row
    unfold OwnS
    rw [show (ids s.l).length = s.l.length from List.length_map _]
    exact this
  obtain ⟨g, cap, e, hs⟩ := hrow.at_ (by rw [show (ids s.l).length = s.l.length from List.length_map _]; omega)
  injection e with e _ _
  have hsz : x.id.size ≤ 9223372036854775807 := by have := (hok.els x (List.mem_of_getElem? hk)).sz; omega
  refine ⟨g, e, hs.2.1, hs.cell (by unfold ids; rw [List.getElem?_map, hk]; rfl), hsz, ?_⟩
  rw [hP.map.look hsz, lk_at hok.nodup hk]; rfl
def LstPost (l : List Ins) (w : World) (e : Ending) (w' : World) : Prop := ∃ v, e = .returned v ∧ OwnL w' w.heap.size v l ∧ Below w.heap.size w w'
set_option maxHeartbeats 2000000 in
set_option maxRecDepth 20000 in
theorem List_any (hP : PoolAt w B p m A c s) (hok : s.ok) : Calls Tryd.prog 23 #[.pointer (some ⟨p, 0, none⟩)] w (LstPost s.l w) := by
  obtain ⟨i0, ih, iz0, iz1, iz2⟩ := info_parts info_ins
  have h32 := hok.len32
  have hn0 := Nat.le_refl w.heap.size
  have hpl := hP.blk.lt
  have q7 : w.cell? ⟨p, 7, none⟩ = some (.slice A s.l.length c) := hP.blk.cell 7
  have HP := Lib.hid hP
  have HO := Lib.hid hok
  have hd := hok.mx.1
  clear hP hok
  go_enter Tryd.func23, Tryd.ntmps23
  go_wp2_with fail
  refine (made_any HP.out hd).mono ?_
  rintro e wq ⟨rfl, rfl⟩
  go_wp2_with fail
  go_loopw [3, 14] (fun v i wr => ∃ (k : Nat) (P : List Ins), k ≤ s.l.length ∧ P.length = k ∧ P = s.l.take k ∧ i = .int .i64 k ∧ Below w.heap.size w wr ∧ OwnL wr w.heap.size v P) (fun _ i _ => s.l.length - (intOf i).toNat)
  case atStart => exact ⟨0, [], Nat.zero_le _, rfl, rfl, rfl, Below.refl _ _, OwnL.nil _ _⟩
  case round =>
    obtain ⟨k, P, hk, hPl, hPe, rfl, hb, hv⟩ := hrel
    obtain ⟨v, rfl⟩ : ∃ v : Value, v = u3 := ⟨_, rfl⟩
    have hz : w.heap.size ≤ wr.heap.size := hb.size
    have hPr := HP.out.below hb
    have q8 : wr.cell? ⟨p, 8, none⟩ = some (.map (some m)) := hPr.blk.cell 8
    have HV := Lib.hid hv
    have HB := Lib.hid hb
    have HE := Lib.hid hPe
    have HL := Lib.hid hPl
    have hPl1 : P.length ≤ 32 := by omega
    clear hv hb hPe hPl
    by_cases hlt : k < s.l.length
    · obtain ⟨g, hA, hg, qk, -, hlook⟩ := hPr.elem HO.out (List.getElem?_eq_getElem hlt)
      clear hPr
      subst hA
      have HS := Lib.hid (take_snoc' (List.getElem?_eq_getElem hlt))
      generalize s.l[k] = x at *
      simp only [Ins.val] at hlook
      have hkI : (k : Int) < s.l.length := by omega
      go_wp2_with (at_builtin; go_loud (refine wpList_append_own _ rfl (.tmp 18) (.tmp 25) 45 rfl w.heap.size 56 i0 (.agg #[.string ⟨#[]⟩, .int .i64 0, .int .i64 0, .int .i64 0]) 4 40 Tryd.underlying45 ih iz0 iz1 iz2 rfl (by decide) _ P.length (P.flatMap Ins.cells) rfl (HV.out.alloc _) ⟨wr.heap.size, 0, none⟩ 1 1 (x.cells) rfl rfl (cells_new_at rfl) (Ins.one x) (by simp only [maxLen]; omega) (by omega) (by simp; omega) ?_); intro v' wn hown1 hgr hiff; clear hiff; have HG := Lib.hid (And.intro hown1 hgr); clear hown1 hgr)
      have hlow : Below w.heap.size w wn := ((HB.out).alloc (by omega) _).grown HG.out.2 (by simp; omega) (fun q hq => (HV.out.lt q hq).1)
      have hown := HG.out.1
      have HF := Lib.hid (And.intro (OwnL.push hown) hlow)
      clear hlow hown HG
      go_wp2_with fail
      go_roundw
      case rel => exact ⟨k + 1, P ++ [x], by omega, by rw [List.length_append, HL.out]; rfl, by rw [HS.out, HE.out], by go_num, HF.out.2, HF.out.1⟩
      case measure => simp [intOf]; omega
    · go_wp2_with fail
      go_ret
      have e : P = s.l := HE.out.trans (List.take_of_length_le (by omega))
      have := HV.out
      rw [e] at this
      exact ⟨_, rfl, this, HB.out⟩
set_option maxHeartbeats 2000000 in
set_option maxRecDepth 20000 in
theorem rList_any (hP : RPoolAt w B p A c s) (hok : s.ok) : Calls Tryd.prog 24 #[.pointer (some ⟨p, 0, none⟩)] w (LstPost s.l w) := by
  obtain ⟨i0, ih, iz0, iz1, iz2⟩ := info_parts info_ins
  have h32 := hok.len32
  have hn0 := Nat.le_refl w.heap.size
  have hpl := hP.blk.lt
  have q7 : w.cell? ⟨p, 5, none⟩ = some (.slice A s.l.length c) := hP.blk.cell 5
  have HP := Lib.hid hP
  have hd := hok.mx.1
  have hone : ∀ u ∈ s.l.flatMap Ins.cells, u.oneCell' = true := by
    intro u hu
    obtain ⟨x, _, hx⟩ := List.mem_flatMap.1 hu
    exact Ins.one x u hx
  have HON := Lib.hid hone
  clear hP hok hone
  go_enter Tryd.func24, Tryd.ntmps24
  go_wp2_with fail
  refine (rmade_any HP.out hd).mono ?_
  rintro e wq ⟨rfl, rfl⟩
  go_wp2_with (at_builtin; go_loud (refine wpList_append_any _ rfl (.tmp 7) (.tmp 11) 45 rfl w.heap.size 56 i0 (.agg #[.string ⟨#[]⟩, .int .i64 0, .int .i64 0, .int .i64 0]) 4 40 Tryd.underlying45 ih iz0 iz1 iz2 rfl (by decide) (.slice (some ⟨w.heap.size, 0, none⟩) 0 0) 0 [] rfl ⟨rfl, .inr ⟨w.heap.size, 0, #[], rfl, Nat.le_refl _, heap_alloc_new _ _, by simp [maxLen]⟩⟩ w.heap.size A s.l.length c (s.l.flatMap Ins.cells) rfl ((Reads.of_own HP.out.row).keep fun q hq => World.cell?_alloc_lt w _ q hq) HON.out (by simp only [maxLen]; omega) (by omega) (by simp) ?_); intro v' wn hown1 hgr hiff; clear hiff; have HG := Lib.hid (And.intro hown1 hgr); clear hown1 hgr)
  go_ret
  have hlow : Below w.heap.size w wn := ((Below.refl w.heap.size w).alloc (Nat.le_refl _) _).grown HG.out.2 (by simp) (fun q hq => by simp [Value.ownBlock] at hq; omega)
  have hown := HG.out.1
  rw [Nat.zero_add, List.nil_append] at hown
  exact ⟨_, rfl, hown, hlow⟩
def CntPost (l : List Ins) (w : World) (e : Ending) (w' : World) : Prop := e = .returned (.tuple #[.int .i64 (busyN l), .int .i64 (l.length - busyN l : Nat)]) ∧ Below w.heap.size w w'
theorem busy_le (l : List Ins) : busyN l ≤ l.length := List.length_filter_le _ _
theorem busy_yes {l : List Ins} {k : Nat} {x : Ins} (h : l[k]? = some x) (hx : x.st = 3) : busyN (l.take (k + 1)) = busyN (l.take k) + 1 := by
  unfold busyN
  rw [take_snoc' h, List.filter_append]
  simp [hx]
theorem busy_no {l : List Ins} {k : Nat} {x : Ins} (h : l[k]? = some x) (hx : x.st ≠ 3) : busyN (l.take (k + 1)) = busyN (l.take k) := by
  unfold busyN
  rw [take_snoc' h, List.filter_append]
  simp [hx]
theorem cnt_eq {a b a' b' : Int} {w w' : World} (h1 : a = a') (h2 : b = b') (hb : Below w.heap.size w w') : Ending.returned (.tuple #[.int .i64 a, .int .i64 b]) = .returned (.tuple #[.int .i64 a', .int .i64 b']) ∧ Below w.heap.size w w' := ⟨by rw [h1, h2], hb⟩
set_option maxHeartbeats 2000000 in
set_option maxRecDepth 20000 in
theorem Counts_any (hP : PoolAt w B p m A c s) (hok : s.ok) : Calls Tryd.prog 20 #[.pointer (some ⟨p, 0, none⟩)] w (CntPost s.l w) := by
  have h32 := hok.len32
  have hn0 := Nat.le_refl w.heap.size
  generalize hl : s.l = l at h32 ⊢
  have HC := Lib.hid (hl ▸ List_any hP hok)
  clear hP hok hl
  go_enter Tryd.func20, Tryd.ntmps20
  go_wp2_with fail
  refine HC.out.mono ?_
  rintro e w1 ⟨v, rfl, hv, hb1⟩
  have HB1 := Lib.hid hb1
  have hz1 := hb1.size
  obtain ⟨pv, cv, rfl⟩ := own_slice hv
  have HV := Lib.hid hv
  clear hv hb1
  go_wp2_with fail
  go_loopw [4, 5, 11] (fun a b i wr => ∃ k : Nat, k ≤ l.length ∧ i = .int .i64 k ∧ a = .int .i64 (busyN (l.take k)) ∧ b = .int .i64 (k - busyN (l.take k) : Nat) ∧ Below w1.heap.size w1 wr) (fun _ _ i _ => l.length - (intOf i).toNat)
  case atStart => exact ⟨0, Nat.zero_le _, rfl, rfl, rfl, Below.refl _ _⟩
  case round =>
    obtain ⟨k, hk, rfl, rfl, rfl, hb⟩ := hrel
    have hz : w1.heap.size ≤ wr.heap.size := hb.size
    have hle := busy_le (l.take k)
    rw [len_take hk] at hle
    have HVr := Lib.hid (HV.out.on hb)
    have HB := Lib.hid hb
    clear hb
    by_cases hlt : k < l.length
    · obtain ⟨g, cap, e, -, hg, hx⟩ := HVr.out.at_ (by omega)
      injection e with e1 _ e3
      subst e1 e3
      obtain ⟨q0, q1, q2, q3⟩ := hx k l[k] (List.getElem?_eq_getElem hlt)
      have HY := Lib.hid (busy_yes (List.getElem?_eq_getElem hlt))
      have HN := Lib.hid (busy_no (List.getElem?_eq_getElem hlt))
      clear hx
      generalize l[k] = x at *
      generalize busyN (l.take k) = n at *
      have hkI : (k : Int) < l.length := by omega
      rcases beqs x.st 3 with ⟨hq, hs⟩ | ⟨hq, hs⟩
      · have HH := Lib.hid (HY.out hs)
        rw [hs] at q1
        clear HY HN hq hs
        go_wp2_with fail
        go_roundw
        case rel => exact ⟨k + 1, by omega, by go_num, by rw [HH.out]; go_num, by rw [HH.out, show k + 1 - (n + 1) = k - n by omega], HB.out.alloc (by omega) _⟩
        case measure => simp [intOf]; omega
      · have HH := Lib.hid (HN.out hs)
        clear HY HN hs
        go_wp2_with fail
        go_roundw
        case rel => exact ⟨k + 1, by omega, by go_num, by rw [HH.out], by rw [HH.out, show k + 1 - n = k - n + 1 by omega]; go_num, HB.out.alloc (by omega) _⟩
        case measure => simp [intOf]; omega
    · obtain rfl : k = l.length := by omega
      go_wp2_with fail
      go_ret2
      exact cnt_eq (by rw [List.take_length]) (by rw [List.take_length]) (HB1.out.trans (HB.out.mono hz1))
set_option maxHeartbeats 2000000 in
set_option maxRecDepth 20000 in
theorem rCounts_any (hP : RPoolAt w B p A c s) (hok : s.ok) : Calls Tryd.prog 21 #[.pointer (some ⟨p, 0, none⟩)] w (CntPost s.l w) := by
  have h32 := hok.len32
  have hn0 := Nat.le_refl w.heap.size
  generalize hl : s.l = l at h32 ⊢
  have HC := Lib.hid (hl ▸ rList_any hP hok)
  clear hP hok hl
  go_enter Tryd.func21, Tryd.ntmps21
  go_wp2_with fail
  refine HC.out.mono ?_
  rintro e w1 ⟨v, rfl, hv, hb1⟩
  have HB1 := Lib.hid hb1
  have hz1 := hb1.size
  obtain ⟨pv, cv, rfl⟩ := own_slice hv
  have HV := Lib.hid hv
  clear hv hb1
  go_wp2_with fail
  go_loop [4, 6] (fun a i => ∃ k : Nat, k ≤ l.length ∧ i = .int .i64 k ∧ a = .int .i64 (busyN (l.take k))) (fun _ i => l.length - (intOf i).toNat)
  case atStart => exact ⟨0, Nat.zero_le _, rfl, rfl⟩
  case round =>
    obtain ⟨k, hk, rfl, rfl⟩ := hrel
    have hle := busy_le (l.take k)
    rw [len_take hk] at hle
    by_cases hlt : k < l.length
    · obtain ⟨g, cap, e, -, hg, hx⟩ := HV.out.at_ (by omega)
      injection e with e1 _ e3
      subst e1 e3
      obtain ⟨q0, q1, q2, q3⟩ := hx k l[k] (List.getElem?_eq_getElem hlt)
      have HY := Lib.hid (busy_yes (List.getElem?_eq_getElem hlt))
      have HN := Lib.hid (busy_no (List.getElem?_eq_getElem hlt))
      clear hx
      generalize l[k] = x at *
      generalize busyN (l.take k) = n at *
      have hkI : (k : Int) < l.length := by omega
      rcases beqs x.st 3 with ⟨hq, hs⟩ | ⟨hq, hs⟩
      · have HH := Lib.hid (HY.out hs)
        rw [hs] at q1
        clear HY HN hq hs
        go_wp2_with fail
        go_round
        case rel => exact ⟨k + 1, by omega, by go_num, by rw [HH.out]; go_num⟩
        case measure => simp [intOf]; omega
      · have HH := Lib.hid (HN.out hs)
        clear HY HN hs
        go_wp2_with fail
        go_round
        case rel => exact ⟨k + 1, by omega, by go_num, by rw [HH.out]⟩
        case measure => simp [intOf]; omega
    · obtain rfl : k = l.length := by omega
      have hle2 := busy_le l
      have hlI : (busyN l : Int) ≤ l.length := by omega
      rw [List.take_length]
      go_wp2_with fail
      go_ret2
      exact cnt_eq rfl (by omega) HB1.out
end
end Go.Proofs.YtmpaogmfceldjaaDoor
