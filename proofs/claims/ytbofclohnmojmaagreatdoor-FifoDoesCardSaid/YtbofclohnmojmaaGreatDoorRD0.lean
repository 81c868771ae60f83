/- The reference's calls, plain laws: identifiers, its search, its choice of the next dead letter, its Receive. -/
import Derived.Test.YtbofclohnmojmaaGreatDoorRC5
import Derived.Test.YtbofclohnmojmaaGreatDoorGX2
namespace Go.Proofs.YtbofclohnmojmaaGreatDoor
open Go.RowKit

/-! ### identifiers -/
/-- The waiting events have identifiers, each its own. -/
structure QS.idd (s : QS) : Prop where
  ids : ∀ x ∈ s.l, idL x.ev.id = true
  one : s.l.Pairwise fun a b => a.ev.id ≠ b.ev.id
section
variable {s t s1 s' : QS}
theorem idd_sub (h : s.idd) (hs : t.l.Sublist s.l) : t.idd := ⟨fun x hx => h.ids x (hs.subset hx), h.one.sublist hs⟩
theorem idd_map (h : s.idd) (hm : t.l.map (fun x => x.ev.id) = s.l.map (fun x => x.ev.id)) : t.idd := by
  refine ⟨fun x hx => ?_, ?_⟩
  · have h1 : x.ev.id ∈ s.l.map (fun x => x.ev.id) := by rw [← hm]; exact List.mem_map_of_mem hx
    obtain ⟨y, hy, e⟩ := List.mem_map.1 h1
    rw [← e]
    exact h.ids y hy
  · have h1 := h.one
    rw [← List.pairwise_map (f := fun x : En => x.ev.id) (R := fun a b => a ≠ b)] at h1 ⊢
    rw [hm]
    exact h1
theorem AccR.idd {now : Int} (h : AccR s now s1) (hi : s.idd) : s1.idd := idd_sub hi h.sub
theorem rcvS_idd (hi : s.idd) (n : Int) : (rcvS s n).idd := by
  refine idd_map hi ?_
  have h := congrArg (List.map Prod.fst) (rcv_ids s n)
  rw [List.map_map, List.map_map] at h
  exact h
theorem StepR.idd {x : Cl} {T : List ByteArray} {z : Int} {D : List De} (h : StepR s x T z D s') (hi : s.idd) : s'.idd := by
  cases h with
  | sendE => exact hi
  | recvE => exact hi
  | delE => exact hi
  | retE => exact hi
  | send s1 Ay cy hk hc ha =>
    have h1 := ha.idd hi
    unfold sndS
    split
    · rename_i h0
      obtain ⟨hc0, -, hl, -⟩ := snd0 h0
      refine ⟨fun y hy => ?_, List.pairwise_append.2 ⟨h1.one, by simp, fun a ha b hb => ?_⟩⟩
      · rcases List.mem_append.1 hy with hy | hy
        · exact h1.ids y hy
        · rw [List.mem_singleton.1 hy]; exact chk_id hc0
      · rw [List.mem_singleton.1 hb]
        intro e
        unfold hasL at hl
        have := List.any_eq_false.1 hl a ha
        exact this ((eqS_iff _ _).2 e)
    · exact h1
  | recv s1 r hk hc ha hr => exact rcvS_idd (ha.idd hi) _
  | del s1 hk hc ha =>
    unfold delS
    split
    · exact idd_sub (ha.idd hi) (eraseIdx_sub _ _)
    · exact ha.idd hi
  | ret s1 hk hc ha =>
    unfold retS
    split
    · exact idd_map (ha.idd hi) (modify_map (f := En.back _) (g := fun x => x.ev.id) (fun _ => rfl) _ _)
    · exact ha.idd hi
end
/-! ### the search -/
theorem isDg_no {c : UInt8} (h : isDg c = true) : c ≠ 35 := by
  intro e
  subst e
  revert h
  decide
theorem itoa_no35 (n : Int) : (35 : UInt8) ∉ Lib.itoa n := by
  have h := (itoa_dec n).1
  generalize Lib.itoa n = l at h
  intro hm
  cases l with
  | nil => simp at hm
  | cons c r =>
    rw [decB_cons] at h
    split at h
    · rename_i h45
      rcases List.mem_cons.1 hm with e | hm
      · rw [← e] at h45
        revert h45
        decide
      · cases r with
        | nil => simp at hm
        | cons d r =>
          simp only [Bool.and_eq_true] at h
          exact isDg_no (List.all_eq_true.1 h.2 _ hm) rfl
    · rw [Bool.and_eq_true] at h
      exact isDg_no (List.all_eq_true.1 h.2 _ hm) rfl
theorem split_at2 {a b a' b' : List UInt8} {c : UInt8} (h : a ++ c :: b = a' ++ c :: b') (hb : c ∉ b) (hb' : c ∉ b') : a = a' ∧ b = b' := by
  have h1 := congrArg List.reverse h
  simp only [List.reverse_append, List.reverse_cons, List.append_assoc, List.singleton_append] at h1
  obtain ⟨e1, e2⟩ := split_at h1 (by simpa using hb) (by simpa using hb')
  exact ⟨List.reverse_inj.1 e2, List.reverse_inj.1 e1⟩
theorem get_list (rc : ByteArray) {j : Nat} (hj : j < rc.size) : rc.data.toList[j]? = some rc.data[j]! := by
  have hl : rc.data.toList.length = rc.size := by simp
  rw [List.getElem?_eq_getElem (by omega), getElem!_pos rc.data j (by simpa using hj)]
  simp
/-- A receipt's parts. -/
theorem rcp_parts (id : ByteArray) (n : Int) : ∃ m : Nat, Lib.lastIndexByte (rcpS id n) 35 = m ∧ (rcpS id n).extract 0 m = id ∧ ((rcpS id n).extract (m + 1) (rcpS id n).size).data.toList = Lib.itoa n := by
  have hL := rcp_list id n
  have hin : (35 : UInt8) ∈ (rcpS id n).data.toList := by rw [hL]; simp
  generalize rcpS id n = rc at hL hin ⊢
  have hl : rc.data.toList.length = rc.size := by simp
  rcases Lib.lastIndexByte_spec rc 35 with ⟨-, hno⟩ | ⟨m, hmz, hat, hm35, hno⟩
  · obtain ⟨j, hj⟩ := List.mem_iff_getElem?.1 hin
    have hjs : j < rc.size := by rw [← hl]; exact (List.getElem?_eq_some_iff.1 hj).1
    rw [get_list rc hjs] at hj
    have := hno j hjs
    rw [Option.some.inj hj] at this
    exact absurd rfl this
  · have h3 : (rc.extract (m + 1) rc.size).data.toList = rc.data.toList.drop (m + 1) := by
      simp only [ByteArray.data_extract, Array.toList_extract, List.extract_eq_take_drop]
      exact List.take_of_length_le (by rw [List.length_drop, hl]; omega)
    have hp := rc_parts rc m hmz hm35
    have hs := split_at2 (hp.symm.trans hL) (by
      rw [h3]
      intro hm
      obtain ⟨j, hj⟩ := List.mem_iff_getElem?.1 hm
      rw [List.getElem?_drop] at hj
      have hjs : m + 1 + j < rc.size := by rw [← hl]; exact (List.getElem?_eq_some_iff.1 hj).1
      rw [get_list rc hjs] at hj
      have := hno (m + 1 + j) (by omega) hjs
      rw [Option.some.inj hj] at this
      exact absurd rfl this) (itoa_no35 n)
    exact ⟨m, hat, ba_ext2 hs.1, hs.2⟩
theorem parI_itoa {n : Int} (h0 : 0 ≤ n) (h1 : n ≤ 1000000) : parI (Lib.itoa n) = (n, 0) := by
  unfold parI
  rw [if_pos (itoa_dec n).1, (itoa_dec n).2, if_pos]
  unfold bndB
  simp only [Bool.and_eq_true, decide_eq_true_eq]
  omega
/-- The receipt names the waiting event k at its delivery n. -/
theorem fnd_hit {l : List En} {now : Int} {k : Nat} {x : En} {n : Int} (h : l.Pairwise fun a b => a.ev.id ≠ b.ev.id) (hx : l[k]? = some x) (h1 : 1 ≤ n) (h2 : n ≤ x.rcv) (h3 : n ≤ 1000000) :
    fndS now l (rcpS x.ev.id n) = if n ≠ x.rcv ∨ x.held = false ∨ x.vis ≤ now then (0, 18) else ((k : Int), 0) := by
  obtain ⟨m, e1, e2, e3⟩ := rcp_parts x.ev.id n
  unfold fndS
  rw [e1, if_neg (by omega)]
  simp only [Int.toNat_natCast]
  rw [e3, parI_itoa (by omega) h3, e2]
  simp only [ne_eq, not_true_eq_false, if_false]
  have hk := (List.getElem?_eq_some_iff.1 hx).1
  have hk2 := (List.getElem?_eq_some_iff.1 hx).2
  have hf : l.findIdx? (fun y => eqS y.ev.id x.ev.id) = some k := by
    rw [List.findIdx?_eq_some_iff_getElem]
    refine ⟨hk, by rw [hk2]; exact (eqS_iff _ _).2 rfl, fun j hj => ?_⟩
    have := List.pairwise_iff_getElem.1 h j k (by omega) hk hj
    rw [hk2] at this
    intro e
    exact this ((eqS_iff _ _).1 e)
  rw [hf]
  unfold fndE
  simp only [hx]
  rw [if_neg (by omega)]
/-- The receipt names no waiting event. -/
theorem fnd_miss {l : List En} {now : Int} {rc : ByteArray} (h : ∀ y ∈ l, ∀ n : Int, 1 ≤ n → n ≤ y.rcv → rc ≠ rcpS y.ev.id n) : fndS now l rc = (0, 5) := by
  unfold fndS
  rcases Lib.lastIndexByte_spec rc 35 with ⟨hat, -⟩ | ⟨m, hmz, hat, hm35, -⟩
  · rw [hat, if_pos (by decide)]
  · rw [hat, if_neg (by omega)]
    simp only [Int.toNat_natCast]
    split
    · rfl
    · rename_i hp
      cases hf : l.findIdx? (fun x => eqS x.ev.id (rc.extract 0 m)) with
      | none => rfl
      | some i =>
        obtain ⟨hil, hie, -⟩ := List.findIdx?_eq_some_iff_getElem.1 hf
        have hx := List.getElem?_eq_getElem hil
        simp only
        unfold fndE
        rw [hx]
        simp only
        split
        · rfl
        · rename_i h1
          exfalso
          have hid : l[i].ev.id = rc.extract 0 m := (eqS_iff _ _).1 hie
          have hp0 : (parI (rc.extract (m + 1) rc.size).data.toList).2 = 0 := by
            by_cases he : (parI (rc.extract (m + 1) rc.size).data.toList).2 = 0
            · exact he
            · exact absurd he hp
          have hit : Lib.itoa (parI (rc.extract (m + 1) rc.size).data.toList).1 = (rc.extract (m + 1) rc.size).data.toList := by
            unfold parI at hp0 ⊢
            split at hp0
            · rename_i hd
              split at hp0
              · rename_i hb
                rw [if_pos hd, if_pos hb]
                exact dec_itoa _ hd
              · simp at hp0
            · simp at hp0
          refine h l[i] (List.getElem_mem hil) (parI (rc.extract (m + 1) rc.size).data.toList).1 (by omega) (by omega) ?_
          refine ba_ext2 ?_
          rw [rcp_list, hit, hid]
          exact rc_parts rc m hmz hm35
/-! ### the next dead letter -/
/-- Among the first k, the index of the one that is to become a dead letter first (-1: none). -/
def BstR (now r : Int) (l : List En) (k : Nat) (v : Int) : Prop :=
  (v = -1 ∧ ∀ j y, j < k → l[j]? = some y → goneB now r y = false) ∨
  ∃ (i : Nat) (x : En), v = i ∧ i < k ∧ l[i]? = some x ∧ goneB now r x = true ∧ ∀ j y, j < k → l[j]? = some y → goneB now r y = true → x.vis < y.vis ∨ (x.vis = y.vis ∧ i ≤ j)
section
variable {now r : Int} {l : List En} {k : Nat} {v : Int} {y : En}
theorem BstR.zero : BstR now r l 0 (-1) := .inl ⟨rfl, fun j y h => absurd h (by omega)⟩
theorem BstR.skip (h : BstR now r l k v) (hy : l[k]? = some y) (hg : goneB now r y = false) : BstR now r l (k + 1) v := by
  have hk : ∀ j z, j < k + 1 → l[j]? = some z → j < k ∨ goneB now r z = false := fun j z hj hz => by
    by_cases h1 : j < k
    · exact .inl h1
    · obtain rfl : j = k := by omega
      rw [hy] at hz
      rw [← Option.some.inj hz]
      exact .inr hg
  rcases h with ⟨rfl, h⟩ | ⟨i, x, rfl, hi, hx, hxg, h⟩
  · exact .inl ⟨rfl, fun j z hj hz => (hk j z hj hz).elim (fun h1 => h j z h1 hz) id⟩
  · exact .inr ⟨i, x, rfl, by omega, hx, hxg, fun j z hj hz hzg => (hk j z hj hz).elim (fun h1 => h j z h1 hz hzg) (fun h1 => by rw [h1] at hzg; cases hzg)⟩
theorem BstR.first (h : BstR now r l k (-1)) (hy : l[k]? = some y) (hg : goneB now r y = true) : BstR now r l (k + 1) k := by
  rcases h with ⟨-, h⟩ | ⟨i, x, e, _⟩
  · refine .inr ⟨k, y, rfl, by omega, hy, hg, fun j z hj hz hzg => ?_⟩
    by_cases h1 : j < k
    · rw [h j z h1 hz] at hzg; cases hzg
    · obtain rfl : j = k := by omega
      rw [hy] at hz
      rw [← Option.some.inj hz]
      exact .inr ⟨rfl, Nat.le_refl _⟩
  · omega
theorem BstR.turn {i : Nat} {x : En} (h : BstR now r l k i) (hx : l[i]? = some x) (hy : l[k]? = some y) (hg : goneB now r y = true) (hlt : y.vis < x.vis) : BstR now r l (k + 1) k := by
  rcases h with ⟨e, _⟩ | ⟨i', x', e, hi, hx', hxg, h⟩
  · omega
  · obtain rfl : i = i' := by omega
    rw [hx] at hx'
    obtain rfl := Option.some.inj hx'
    refine .inr ⟨k, y, rfl, by omega, hy, hg, fun j z hj hz hzg => ?_⟩
    by_cases h1 : j < k
    · have := h j z h1 hz hzg
      exact .inl (by omega)
    · obtain rfl : j = k := by omega
      rw [hy] at hz
      rw [← Option.some.inj hz]
      exact .inr ⟨rfl, Nat.le_refl _⟩
theorem BstR.keep {i : Nat} {x : En} (h : BstR now r l k i) (hx : l[i]? = some x) (hy : l[k]? = some y) (hlt : ¬ y.vis < x.vis) : BstR now r l (k + 1) i := by
  rcases h with ⟨e, _⟩ | ⟨i', x', e, hi, hx', hxg, h⟩
  · omega
  · obtain rfl : i = i' := by omega
    rw [hx] at hx'
    obtain rfl := Option.some.inj hx'
    refine .inr ⟨i, x, rfl, by omega, hx, hxg, fun j z hj hz hzg => ?_⟩
    by_cases h1 : j < k
    · exact h j z h1 hz hzg
    · obtain rfl : j = k := by omega
      rw [hy] at hz
      obtain rfl := Option.some.inj hz
      by_cases h2 : x.vis < y.vis
      · exact .inl h2
      · exact .inr ⟨by omega, by omega⟩
end
/-- In the loop: r have become dead letters, cur wait. -/
structure AccI (s : QS) (now : Int) (cur r : List En) : Prop where
  srt : r.Pairwise betE
  ahead : ∀ a ∈ r, ∀ b ∈ cur, goneB now s.r b = true → betE a b
  perm : (r ++ cur.filter (goneB now s.r)).Perm (s.l.filter (goneB now s.r))
  rest : cur.filter (fun x => !goneB now s.r x) = s.l.filter (fun x => !goneB now s.r x)
  sub : cur.Sublist s.l
section
variable {s : QS} {now : Int} {cur r : List En}
theorem AccI.zero (s : QS) (now : Int) : AccI s now s.l [] := ⟨List.Pairwise.nil, by simp, List.Perm.refl _, rfl, List.Sublist.refl _⟩
theorem AccI.len (h : AccI s now cur r) : r.length + cur.length = s.l.length := by
  have h1 := h.perm.length_eq
  have h2 := congrArg List.length h.rest
  have h3 := part_len (goneB now s.r) cur
  have h4 := part_len (goneB now s.r) s.l
  simp only [List.length_append] at h1
  omega
theorem AccI.step (h : AccI s now cur r) (hord : s.l.Pairwise (fun a b => a.arr < b.arr)) {i : Nat} {x : En} (hx : cur[i]? = some x) (hb : BstR now s.r cur cur.length i) : AccI s now (cur.eraseIdx i) (r ++ [x]) := by
  have hi := (List.getElem?_eq_some_iff.1 hx).1
  have hx2 := (List.getElem?_eq_some_iff.1 hx).2
  rcases hb with ⟨e, _⟩ | ⟨i', x', e, -, hx', hxg, hmin⟩
  · omega
  · obtain rfl : i = i' := by omega
    rw [hx] at hx'
    obtain rfl := Option.some.inj hx'
    have hsp : cur = cur.take i ++ x :: cur.drop (i + 1) := by
      rw [← hx2, ← List.drop_eq_getElem_cons hi, List.take_append_drop]
    have her : cur.eraseIdx i = cur.take i ++ cur.drop (i + 1) := List.eraseIdx_eq_take_drop_succ ..
    have hxm := List.mem_of_getElem? hx
    refine ⟨List.pairwise_append.2 ⟨h.srt, by simp, fun a ha b hb => ?_⟩, fun a ha b hb hbg => ?_, ?_, ?_, (eraseIdx_sub _ _).trans h.sub⟩
    · rw [List.mem_singleton.1 hb]
      exact h.ahead a ha x hxm hxg
    · rcases List.mem_append.1 ha with ha | ha
      · exact h.ahead a ha b ((eraseIdx_sub _ _).subset hb) hbg
      · rw [List.mem_singleton.1 ha]
        obtain ⟨j, hj⟩ := List.mem_iff_getElem?.1 hb
        have hj' : ∃ j', j' ≠ i ∧ cur[j']? = some b := by
          rw [List.getElem?_eraseIdx] at hj
          split at hj
          · exact ⟨j, by omega, hj⟩
          · exact ⟨j + 1, by omega, hj⟩
        obtain ⟨j', hne, hj'⟩ := hj'
        have hjl := (List.getElem?_eq_some_iff.1 hj').1
        have hj2 := (List.getElem?_eq_some_iff.1 hj').2
        rcases hmin j' b hjl hj' hbg with h1 | ⟨h1, h2⟩
        · exact .inl h1
        · refine .inr ⟨h1, ?_⟩
          have := List.pairwise_iff_getElem.1 (hord.sublist h.sub) i j' hi hjl (by omega)
          rw [hx2, hj2] at this
          exact this
    · refine List.Perm.trans ?_ h.perm
      rw [List.append_assoc]
      refine List.Perm.append_left _ ?_
      rw [her]
      conv => rhs; rw [hsp]
      rw [List.filter_append, List.filter_append, List.filter_cons_of_pos hxg]
      exact (List.perm_middle (a := x) (l₁ := List.filter (goneB now s.r) (List.take i cur)) (l₂ := List.filter (goneB now s.r) (List.drop (i + 1) cur))).symm
    · rw [← h.rest, her]
      conv => rhs; rw [hsp]
      rw [List.filter_append, List.filter_append, List.filter_cons_of_neg (by rw [hxg]; decide)]
theorem AccI.done (h : AccI s now cur r) (hb : BstR now s.r cur cur.length (-1)) : AccR s now { s with now := now, l := cur, d := s.d ++ r.map En.ev } := by
  rcases hb with ⟨-, hb⟩ | ⟨i, x, e, _⟩
  · have hg : ∀ y ∈ cur, goneB now s.r y = false := fun y hy => by
      obtain ⟨j, hj⟩ := List.mem_iff_getElem?.1 hy
      exact hb j y (List.getElem?_eq_some_iff.1 hj).1 hj
    have h1 : cur.filter (goneB now s.r) = [] := List.filter_eq_nil_iff.2 fun y hy => by rw [hg y hy]; decide
    have h2 : cur.filter (fun x => !goneB now s.r x) = cur := List.filter_eq_self.2 fun y hy => by rw [hg y hy]; rfl
    have hp := h.perm
    rw [h1, List.append_nil] at hp
    refine ⟨r, ⟨hp, h.srt⟩, ?_⟩
    unfold accS
    rw [← h.rest, h2]
  · omega
end
/-! ### the deliveries -/
theorem rcvGo_append {now v : Int} : ∀ (is : List Nat) (l : List En) (js : List Nat), (∀ i ∈ is, i < l.length) → rcvGo now v (is ++ js) l = ((rcvGo now v is l).1 ++ (rcvGo now v js (rcvGo now v is l).2).1, (rcvGo now v js (rcvGo now v is l).2).2)
  | [], l, js, _ => rfl
  | i :: is, l, js, h => by
    have hx := List.getElem?_eq_getElem (h i (List.mem_cons_self ..))
    rw [List.cons_append, rcvGo_cons hx, rcvGo_cons hx, rcvGo_append is _ js (fun j hj => by rw [List.length_set]; exact h j (List.mem_cons_of_mem _ hj))]
    rfl
theorem rcvGo_evs {now v : Int} : ∀ (is : List Nat) (l : List En), (∀ i ∈ is, i < l.length) → (rcvGo now v is l).2.map En.ev = l.map En.ev
  | [], l, _ => rfl
  | i :: is, l, h => by
    have hx := List.getElem?_eq_getElem (h i (List.mem_cons_self ..))
    rw [rcvGo_cons hx, rcvGo_evs is _ (fun j hj => by rw [List.length_set]; exact h j (List.mem_cons_of_mem _ hj))]
    rw [List.map_set]
    refine List.ext_getElem? fun j => ?_
    rw [List.getElem?_set]
    split
    · rename_i e
      subst e
      simp only [List.length_map, List.getElem?_map, hx]
      rw [if_pos (h i (List.mem_cons_self ..))]
      rfl
    · rfl
theorem keyAt_evs {l l' : List En} (h : l'.map En.ev = l.map En.ev) (k : Nat) (t : ByteArray) : keyAt l' k t = keyAt l k t := by
  have e : ∀ m : List En, ((m.take k).any fun y => eqS t y.ev.key) = (((m.map En.ev).take k).any fun y => eqS t y.key) := fun m => by
    rw [← List.map_take, List.any_map]
    rfl
  unfold keyAt
  rw [e, e, h]
section
variable {s : QS} {k : Nat} {x : En}
/-- Behind the first k waiting events. -/
def rkD (s : QS) (k : Nat) : List De := (rcvGo s.now s.v (rdyL s.now s.l k) s.l).1
def rkL (s : QS) (k : Nat) : List En := (rcvGo s.now s.v (rdyL s.now s.l k) s.l).2
theorem rdyL_in (hk : k ≤ s.l.length) : ∀ i ∈ rdyL s.now s.l k, i < s.l.length := fun i hi => by
  have := (rdy_mem hi).1
  omega
theorem rk_zero (s : QS) : rkD s 0 = [] ∧ rkL s 0 = s.l := ⟨rfl, rfl⟩
theorem rk_len (hk : k ≤ s.l.length) : (rkD s k).length = (rdyL s.now s.l k).length ∧ (rkL s k).length = s.l.length := rcvGo_len _ _ (rdyL_in hk)
theorem rk_evs (hk : k ≤ s.l.length) : (rkL s k).map En.ev = s.l.map En.ev := rcvGo_evs _ _ (rdyL_in hk)
theorem rk_at (hk : k ≤ s.l.length) : (rkL s k)[k]? = s.l[k]? := by
  unfold rkL
  rw [rcvGo_at _ _ (rdy_nodup _ _ _) (rdyL_in hk)]
  have hn : k ∉ rdyL s.now s.l k := fun h => by have := (rdy_mem h).1; omega
  simp only [if_neg hn, Option.map_id']
theorem rk_key (hk : k ≤ s.l.length) (t : ByteArray) : keyAt (rkL s k) k t = keyAt s.l k t := keyAt_evs (rk_evs hk) k t
theorem rk_yes (hx : s.l[k]? = some x) (h : rdyB s.now s.l k = true) : rkD s (k + 1) = rkD s k ++ [(x.got s.now s.v).del] ∧ rkL s (k + 1) = (rkL s k).set k (x.got s.now s.v) := by
  have hk := (List.getElem?_eq_some_iff.1 hx).1
  have h1 : (rcvGo s.now s.v (rdyL s.now s.l k) s.l).2[k]? = some x := (rk_at (Nat.le_of_lt hk)).trans hx
  unfold rkD rkL
  rw [rdyL_yes h, rcvGo_append _ _ _ (rdyL_in (Nat.le_of_lt hk)), rcvGo_cons h1]
  exact ⟨rfl, rfl⟩
theorem rk_no (h : rdyB s.now s.l k = false) : rkD s (k + 1) = rkD s k ∧ rkL s (k + 1) = rkL s k := by
  unfold rkD rkL
  rw [rdyL_no h]
  exact ⟨rfl, rfl⟩
theorem rdyL_pre (now : Int) (l : List En) (k m : Nat) : ∃ t, rdyL now l (k + m) = rdyL now l k ++ t := by
  unfold rdyL
  rw [List.range_add, List.filter_append]
  exact ⟨_, rfl⟩
theorem rk_end {most : Int} (hk : k ≤ s.l.length) (hm : (rdyL s.now s.l k).length ≤ most.toNat) (h : k = s.l.length ∨ most.toNat ≤ (rdyL s.now s.l k).length) : rcvD s most = rkD s k ∧ rcvS s most = { s with l := rkL s k } := by
  have e : takeI s.now s.l most = rdyL s.now s.l k := by
    unfold takeI
    rcases h with rfl | h
    · exact List.take_of_length_le hm
    · obtain ⟨t, ht⟩ := rdyL_pre s.now s.l k (s.l.length - k)
      rw [show k + (s.l.length - k) = s.l.length by omega] at ht
      rw [ht]
      exact List.take_left' (by omega)
  unfold rcvD rcvS rkD rkL
  rw [e]
  exact ⟨rfl, rfl⟩
end
end Go.Proofs.YtbofclohnmojmaaGreatDoor
