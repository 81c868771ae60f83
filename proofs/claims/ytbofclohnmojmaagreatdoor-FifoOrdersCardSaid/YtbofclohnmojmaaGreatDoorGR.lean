/- The law's own list of what was sent: plain; the law FifoKeeps, plain. -/
import Derived.Test.YtbofclohnmojmaaGreatDoorGP
namespace Go.Proofs.YtbofclohnmojmaaGreatDoor
open Go.RowKit
open Go.Sort (grow)

structure Sn where
  id : ByteArray
  key : ByteArray
  gone : Bool
  times : Int
def Sn.cells (x : Sn) : List Value := [.string x.id, .string x.key, .bool x.gone, .int .i64 x.times]
theorem Sn.len (x : Sn) : x.cells.length = 4 := rfl
theorem Sn.one (x : Sn) : ∀ u ∈ x.cells, u.oneCell' = true := by
  intro u hu
  simp only [Sn.cells, List.mem_cons, List.not_mem_nil, or_false] at hu
  rcases hu with rfl | rfl | rfl | rfl <;> rfl
/-- An event with an identifier that was not deleted. -/
def onB (id : ByteArray) (x : Sn) : Bool := eqS x.id id && !x.gone
def fnAt (l : List Sn) (id : ByteArray) : Nat → Int
  | 0 => -1
  | k + 1 => match l[k]? with
    | none => fnAt l id k
    | some x => if onB id x = true then (k : Int) else fnAt l id k
/-- find. -/
def fnS (l : List Sn) (id : ByteArray) : Int := fnAt l id l.length
section
variable {l l' : List Sn} {id : ByteArray} {k i : Nat} {x y : Sn}
theorem onB_iff : onB id x = true ↔ x.id = id ∧ x.gone = false := by unfold onB; rw [Bool.and_eq_true, eqS_iff]; simp
theorem fnAt_yes (h : l[k]? = some x) (hx : onB id x = true) : fnAt l id (k + 1) = k := by show (match l[k]? with | none => fnAt l id k | some x => if onB id x = true then (k : Int) else fnAt l id k) = _; rw [h]; exact if_pos hx
theorem fnAt_no (h : l[k]? = some x) (hx : onB id x = false) : fnAt l id (k + 1) = fnAt l id k := by show (match l[k]? with | none => fnAt l id k | some x => if onB id x = true then (k : Int) else fnAt l id k) = _; rw [h]; exact if_neg (by rw [hx]; decide)
theorem fnAt_congr : ∀ k : Nat, (∀ j, j < k → (l[j]?).map (onB id) = (l'[j]?).map (onB id)) → fnAt l id k = fnAt l' id k
  | 0, _ => rfl
  | k + 1, h => by
    have ih := fnAt_congr k (fun j hj => h j (by omega))
    have hk := h k (by omega)
    show (match l[k]? with | none => fnAt l id k | some x => if onB id x = true then (k : Int) else fnAt l id k) = (match l'[k]? with | none => fnAt l' id k | some x => if onB id x = true then (k : Int) else fnAt l' id k)
    cases h1 : l[k]? with
    | none =>
      cases h2 : l'[k]? with
      | none => exact ih
      | some b => rw [h1, h2] at hk; simp at hk
    | some a =>
      cases h2 : l'[k]? with
      | none => rw [h1, h2] at hk; simp at hk
      | some b =>
        rw [h1, h2] at hk
        have : onB id a = onB id b := by simpa using hk
        simp only [this, ih]
theorem fnAt_spec : ∀ k : Nat, k ≤ l.length → (fnAt l id k = -1 ∧ ∀ (j : Nat) (x : Sn), j < k → l[j]? = some x → onB id x = false) ∨ ∃ (i : Nat) (x : Sn), i < k ∧ fnAt l id k = (i : Nat) ∧ l[i]? = some x ∧ onB id x = true ∧ ∀ (j : Nat) (y : Sn), i < j → j < k → l[j]? = some y → onB id y = false
  | 0, _ => .inl ⟨rfl, fun j _ h => absurd h (by omega)⟩
  | k + 1, hk => by
    have hx := List.getElem?_eq_getElem (show k < l.length by omega)
    cases ho : onB id l[k] with
    | true => exact .inr ⟨k, _, by omega, fnAt_yes hx ho, hx, ho, fun j y h1 h2 => by omega⟩
    | false =>
      rw [fnAt_no hx ho]
      rcases fnAt_spec k (by omega) with ⟨e, h⟩ | ⟨i, x, hi, e, h1, h2, h3⟩
      · refine .inl ⟨e, fun j y hj hy => ?_⟩
        rcases Nat.lt_or_ge j k with h' | h'
        · exact h j y h' hy
        · obtain rfl : j = k := by omega
          rw [hx] at hy; injection hy with hy; subst hy; exact ho
      · refine .inr ⟨i, x, by omega, e, h1, h2, fun j y hj hj2 hy => ?_⟩
        rcases Nat.lt_or_ge j k with h' | h'
        · exact h3 j y hj h' hy
        · obtain rfl : j = k := by omega
          rw [hx] at hy; injection hy with hy; subst hy; exact ho
theorem fnS_uniq (h : l[i]? = some x) (hx : onB id x = true) (hu : ∀ (j : Nat) (y : Sn), l[j]? = some y → onB id y = true → j = i) : fnS l id = i := by
  have hlt := (List.getElem?_eq_some_iff.1 h).1
  rcases fnAt_spec (l := l) (id := id) l.length (Nat.le_refl _) with ⟨_, hn⟩ | ⟨j, y, _, e, h1, h2, _⟩
  · have := hn i x hlt h; rw [hx] at this; cases this
  · have := hu j y h1 h2; subst this; exact e
theorem fnS_none (hu : ∀ (j : Nat) (y : Sn), l[j]? = some y → onB id y = false) : fnS l id = -1 := by
  rcases fnAt_spec (l := l) (id := id) l.length (Nat.le_refl _) with ⟨e, _⟩ | ⟨j, y, _, _, h1, h2, _⟩
  · exact e
  · have := hu j y h1; rw [h2] at this; cases this
theorem fnS_push (hx : onB id x = true) : fnS (l ++ [x]) id = l.length := by
  unfold fnS
  rw [List.length_append]
  exact fnAt_yes (by simp) hx
theorem fnS_push_no (hx : onB id x = false) : fnS (l ++ [x]) id = fnS l id := by
  unfold fnS
  rw [List.length_append]
  show fnAt _ id (l.length + 1) = _
  rw [fnAt_no (x := x) (by simp) hx]
  exact fnAt_congr _ fun j hj => by rw [List.getElem?_append_left hj]
theorem fnS_set (h : l[i]? = some x) (hy : onB id y = onB id x) : fnS (l.set i y) id = fnS l id := by
  unfold fnS
  rw [List.length_set]
  refine fnAt_congr _ fun j hj => ?_
  by_cases hij : i = j
  · subst hij
    rw [List.getElem?_set_self hj, h]
    simp [hy]
  · rw [List.getElem?_set_ne hij]
end
theorem rcvGo_fst {now v : Int} : ∀ (is : List Nat) (l : List En), is.Nodup → (∀ i ∈ is, i < l.length) → ∀ k : Nat, (rcvGo now v is l).1[k]? = (is[k]?).bind fun i => (l[i]?).map fun x => (x.got now v).del
  | [], l, _, _, k => by simp [rcvGo]
  | i :: is, l, hn, hl, k => by
    obtain ⟨x, hx⟩ : ∃ x, l[i]? = some x := ⟨_, List.getElem?_eq_getElem (hl i (List.mem_cons_self ..))⟩
    have hni : i ∉ is := (List.nodup_cons.1 hn).1
    rw [rcvGo_cons hx]
    cases k with
    | zero => simp [hx]
    | succ k =>
      show (rcvGo now v is (l.set i (x.got now v))).1[k]? = (is[k]?).bind _
      rw [rcvGo_fst is _ (List.nodup_cons.1 hn).2 (fun j hj => by rw [List.length_set]; exact hl j (List.mem_cons_of_mem _ hj)) k]
      cases hk : is[k]? with
      | none => rfl
      | some j =>
        have hj := List.mem_of_getElem? hk
        show ((l.set i (x.got now v))[j]?).map _ = (l[j]?).map _
        rw [List.getElem?_set_ne (fun e => hni (by rw [e]; exact hj))]
theorem rcvD_at (s : QS) (most : Int) (k : Nat) : (rcvD s most)[k]? = ((takeI s.now s.l most)[k]?).bind fun i => (s.l[i]?).map fun x => (x.got s.now s.v).del :=
  rcvGo_fst _ _ (take_nodup _ _ _) (fun _ hi => (take_mem hi).1) k
/-- What is told of a delivery. -/
theorem dlv_at {s : QS} {most : Int} {r : List De} (hr : r.map De.core = (rcvD s most).map De.core) {k : Nat} {d : De} (hd : r[k]? = some d) :
    ∃ (i : Nat) (x : En), (takeI s.now s.l most)[k]? = some i ∧ s.l[i]? = some x ∧ rdyB s.now s.l i = true ∧ d.rc = rcpS x.ev.id (x.rcv + 1) ∧ d.cnt = x.rcv + 1 ∧ d.ev.id = x.ev.id ∧ d.ev.key = x.ev.key := by
  have h1 : (r.map De.core)[k]? = some d.core := by rw [List.getElem?_map, hd]; rfl
  rw [hr, List.getElem?_map] at h1
  obtain ⟨d', h2, e⟩ := Option.map_eq_some_iff.1 h1
  rw [rcvD_at] at h2
  obtain ⟨i, hi, h3⟩ := Option.bind_eq_some_iff.1 h2
  obtain ⟨x, hx, h4⟩ := Option.map_eq_some_iff.1 h3
  subst h4
  refine ⟨i, x, hi, hx, (take_mem (List.mem_of_getElem? hi)).2, ?_, ?_, ?_, ?_⟩
  · have := congrArg De.rc e; exact this.symm
  · have := congrArg De.cnt e; exact this.symm
  · have := congrArg (fun d => d.ev.id) e; exact this.symm
  · have := congrArg (fun d => d.ev.key) e; exact this.symm
theorem dlv_len {s : QS} {most : Int} {r : List De} (hr : r.map De.core = (rcvD s most).map De.core) : r.length = (takeI s.now s.l most).length ∧ r.length ≤ most.toNat := by
  have h1 : r.length = (takeI s.now s.l most).length := by rw [← rcvD_len]; simpa using congrArg List.length hr
  refine ⟨h1, ?_⟩
  rw [h1]
  unfold takeI
  rw [List.length_take]
  omega
theorem AccR.sub {s s1 : QS} {now : Int} (h : AccR s now s1) : s1.l.Sublist s.l := by
  obtain ⟨r, -, rfl⟩ := h
  exact List.filter_sublist
/-! ### the law FifoKeeps -/
structure KpI (s : QS) (all : List Sn) (inn : Int) : Prop where
  inn : inn = s.l.length + s.d.length
  ids : (s.l.map fun x => x.ev.id).Nodup
  at_ : ∀ x ∈ s.l, ∃ (i : Nat) (y : Sn), fnS all x.ev.id = i ∧ all[i]? = some y ∧ y.id = x.ev.id ∧ (x.rcv = 0 ∨ y.times = x.rcv)
  szs : ∀ x ∈ s.l, x.ev.id.size ≤ 64
theorem chk_id {x : Ev} (h : chkE x = 0) : idL x.id = true := by
  unfold chkE at h
  split at h
  · cases h
  · rename_i hn
    have hn' : namesB x = true := by cases hb : namesB x; exact absurd hb hn; rfl
    unfold namesB at hn'
    simp only [Bool.and_eq_true] at hn'
    exact hn'.1.1.1.1
section
variable {s s1 : QS} {all : List Sn} {inn : Int}
theorem KpI.new (v r : Int) : KpI ⟨v, r, 0, 0, [], []⟩ [] 0 := ⟨rfl, List.nodup_nil, by simp, by simp⟩
theorem KpI.acc {now : Int} (h : KpI s all inn) (ha : AccR s now s1) : KpI s1 all inn := by
  have hs := ha.sub
  exact ⟨by have := ha.len; have := h.inn; omega, h.ids.sublist (hs.map _), fun x hx => h.at_ x (hs.subset hx), fun x hx => h.szs x (hs.subset hx)⟩
theorem hasL_no {l : List En} {id : ByteArray} (h : hasL l id = false) {x : En} (hx : x ∈ l) : x.ev.id ≠ id := by
  intro e
  unfold hasL at h
  rw [List.any_eq_false] at h
  exact h x hx ((eqS_iff _ _).2 e)
theorem KpI.send {x : Ev} {now : Int} {Ay : Option Addr} {cy : Nat} (h : KpI s all inn) (he : sndE s x = 0) (key : ByteArray) : KpI (sndS s x now Ay cy) (all ++ [⟨x.id, key, false, 0⟩]) (inn + 1) := by
  obtain ⟨hc, -, hl, -⟩ := snd0 he
  unfold sndS
  rw [if_pos he]
  refine ⟨?_, ?_, ?_, ?_⟩
  · have := h.inn; simp only [List.length_append, List.length_cons, List.length_nil]; omega
  · simp only [List.map_append, List.map_cons, List.map_nil]
    rw [List.nodup_append]
    refine ⟨h.ids, by simp, fun a ha b hb => ?_⟩
    rw [List.mem_singleton] at hb
    subst hb
    obtain ⟨y, hy, rfl⟩ := List.mem_map.1 ha
    exact hasL_no hl hy
  · intro y hy
    rcases List.mem_append.1 hy with hy | hy
    · obtain ⟨i, z, e1, e2, e3, e4⟩ := h.at_ y hy
      have hne := hasL_no hl hy
      have ho : onB y.ev.id (⟨x.id, key, false, 0⟩ : Sn) = false := by
        cases hb : onB y.ev.id (⟨x.id, key, false, 0⟩ : Sn) with
        | false => rfl
        | true => exact absurd (onB_iff.1 hb).1.symm hne
      refine ⟨i, z, by rw [fnS_push_no ho]; exact e1, ?_, e3, e4⟩
      rw [List.getElem?_append_left (List.getElem?_eq_some_iff.1 e2).1]
      exact e2
    · rw [List.mem_singleton] at hy
      subst hy
      exact ⟨all.length, _, fnS_push (onB_iff.2 ⟨rfl, rfl⟩), by simp; rfl, rfl, .inl rfl⟩
  · intro y hy
    rcases List.mem_append.1 hy with hy | hy
    · exact h.szs y hy
    · rw [List.mem_singleton] at hy
      subst hy
      exact idL_size (chk_id hc)
theorem sndS_no {x : Ev} {now : Int} {Ay : Option Addr} {cy : Nat} (he : sndE s x ≠ 0) : sndS s x now Ay cy = s := by unfold sndS; rw [if_neg he]
theorem delS_no {rc : ByteArray} (he : (fndS s.now s.l rc).2 ≠ 0) : delS s rc = s := by unfold delS; rw [if_neg he]
theorem KpI.del {rc : ByteArray} (h : KpI s all inn) (he : (fndS s.now s.l rc).2 = 0) : KpI (delS s rc) all (inn - 1) := by
  obtain ⟨i, hi, e⟩ := fnd_ok he
  unfold delS
  rw [if_pos he, e]
  have hs := eraseIdx_sub s.l ((i : Int).toNat)
  have hlen : (s.l.eraseIdx (i : Int).toNat).length = s.l.length - 1 := by rw [List.length_eraseIdx]; simp [hi]
  refine ⟨by have := h.inn; show inn - 1 = ((s.l.eraseIdx (i : Int).toNat).length : Int) + s.d.length; rw [hlen]; omega, h.ids.sublist (hs.map _), fun x hx => h.at_ x (hs.subset hx), fun x hx => h.szs x (hs.subset hx)⟩
theorem KpI.ret {rc : ByteArray} {v : Int} (h : KpI s all inn) : KpI (retS s rc v) all inn := by
  unfold retS
  split
  · refine ⟨by have := h.inn; simpa using this, ?_, fun y hy => ?_, fun y hy => ?_⟩
    · show ((s.l.modify _ _).map fun x => x.ev.id).Nodup
      rw [modify_map (f := En.back v) (g := fun x => x.ev.id) (fun _ => rfl)]
      exact h.ids
    · obtain ⟨x, hx, rfl | rfl⟩ := modify_mem hy
      · exact h.at_ _ hx
      · exact h.at_ x hx
    · obtain ⟨x, hx, rfl | rfl⟩ := modify_mem hy
      · exact h.szs _ hx
      · exact h.szs x hx
  · exact h
/-- When k deliveries have been told. -/
structure KpM (s : QS) (n : Int) (k : Nat) (all : List Sn) : Prop where
  at_ : ∀ (j : Nat) (x : En), s.l[j]? = some x → ∃ (i : Nat) (y : Sn), fnS all x.ev.id = i ∧ all[i]? = some y ∧ y.id = x.ev.id ∧ ((j ∈ (takeI s.now s.l n).take k ∧ y.times = x.rcv + 1) ∨ (j ∉ (takeI s.now s.l n).take k ∧ (x.rcv = 0 ∨ y.times = x.rcv)))
theorem KpM.start {n : Int} (h : KpI s all inn) : KpM s n 0 all := ⟨fun j x hx => by
  obtain ⟨i, y, e1, e2, e3, e4⟩ := h.at_ x (List.mem_of_getElem? hx)
  exact ⟨i, y, e1, e2, e3, .inr ⟨by simp, e4⟩⟩⟩
theorem nodup_at {α : Type} {l : List α} (hn : l.Nodup) {i j : Nat} {x : α} (hi : l[i]? = some x) (hj : l[j]? = some x) : i = j := by
  obtain ⟨h1, e1⟩ := List.getElem?_eq_some_iff.1 hi
  obtain ⟨h2, e2⟩ := List.getElem?_eq_some_iff.1 hj
  have hp := List.pairwise_iff_getElem.1 hn
  rcases Nat.lt_trichotomy i j with h | h | h
  · exact absurd (e1.trans e2.symm) (hp i j h1 h2 h)
  · exact h
  · exact absurd (e2.trans e1.symm) (hp j i h2 h1 h)
theorem take_not {is : List Nat} (hn : is.Nodup) {k i : Nat} (h : is[k]? = some i) : i ∉ is.take k := by
  intro hm
  obtain ⟨j, hj⟩ := List.getElem?_of_mem hm
  rw [List.getElem?_take] at hj
  split at hj
  · rename_i hjk
    have := nodup_at hn hj h
    omega
  · cases hj
theorem take_snocs {α : Type} {l : List α} {k : Nat} {x : α} (h : l[k]? = some x) : l.take (k + 1) = l.take k ++ [x] := by
  rw [List.take_add_one, h]
  rfl
/-- Two waiting events have two identifiers. -/
theorem ids_at (h : (s.l.map fun x => x.ev.id).Nodup) {i j : Nat} {x y : En} (hi : s.l[i]? = some x) (hj : s.l[j]? = some y) (e : x.ev.id = y.ev.id) : i = j :=
  nodup_at h (x := x.ev.id) (by rw [List.getElem?_map, hi]; rfl) (by rw [List.getElem?_map, hj, e]; rfl)
theorem KpM.step {n : Int} {k j : Nat} {x : En} (h : KpM s n k all) (hn : (s.l.map fun x => x.ev.id).Nodup) (hk : (takeI s.now s.l n)[k]? = some j) (hx : s.l[j]? = some x) :
    ∃ (i : Nat) (y : Sn), fnS all x.ev.id = i ∧ all[i]? = some y ∧ (x.rcv = 0 ∨ y.times = x.rcv) ∧ KpM s n (k + 1) (all.set i { y with times := x.rcv + 1 }) := by
  obtain ⟨i, y, e1, e2, e3, e4⟩ := h.at_ j x hx
  have hnot := take_not (take_nodup s.now s.l n) hk
  have e4' : x.rcv = 0 ∨ y.times = x.rcv := by
    rcases e4 with ⟨hm, _⟩ | ⟨_, h⟩
    · exact absurd hm hnot
    · exact h
  have hlt := (List.getElem?_eq_some_iff.1 e2).1
  have hf : ∀ id, fnS (all.set i { y with times := x.rcv + 1 }) id = fnS all id := fun id => fnS_set e2 rfl
  refine ⟨i, y, e1, e2, e4', ⟨fun j' x' hx' => ?_⟩⟩
  rw [hf, take_snocs hk]
  by_cases hj : j' = j
  · subst hj
    rw [hx] at hx'
    injection hx' with hx'
    subst hx'
    exact ⟨i, _, e1, List.getElem?_set_self hlt, e3, .inl ⟨by simp, rfl⟩⟩
  · obtain ⟨i', y', f1, f2, f3, f4⟩ := h.at_ j' x' hx'
    have hii : i ≠ i' := by
      rintro rfl
      rw [e2] at f2
      injection f2 with f2
      subst f2
      exact hj (ids_at hn hx' hx (f3.symm.trans e3))
    refine ⟨i', y', f1, by rw [List.getElem?_set_ne hii]; exact f2, f3, ?_⟩
    simp only [List.mem_append, List.mem_singleton, hj, or_false]
    exact f4
theorem KpM.done {n : Int} {k : Nat} (h : KpM s n k all) (hk : (takeI s.now s.l n).length ≤ k) (hI : inn = s.l.length + s.d.length) (hn : (s.l.map fun x => x.ev.id).Nodup) (hz : ∀ x ∈ s.l, x.ev.id.size ≤ 64) : KpI (rcvS s n) all inn := by
  have hid : ((rcvS s n).l.map fun x => x.ev.id) = s.l.map fun x => x.ev.id := by
    refine List.ext_getElem? fun k => ?_
    rw [List.getElem?_map, List.getElem?_map, rcvS_at]
    cases s.l[k]? with
    | none => rfl
    | some x => simp only [Option.map_some]; split <;> rfl
  refine ⟨by rw [rcvS_len]; exact hI, by rw [hid]; exact hn, fun y hy => ?_, fun y hy => ?_⟩
  · obtain ⟨j, hj⟩ := List.getElem?_of_mem hy
    rw [rcvS_at] at hj
    obtain ⟨x, hx, e⟩ := Option.map_eq_some_iff.1 hj
    obtain ⟨i, z, e1, e2, e3, e4⟩ := h.at_ j x hx
    rw [List.take_of_length_le hk] at e4
    rcases e4 with ⟨hm, e4⟩ | ⟨hm, e4⟩
    · rw [if_pos hm] at e
      subst e
      exact ⟨i, z, e1, e2, e3, .inr e4⟩
    · rw [if_neg hm] at e
      subst e
      exact ⟨i, z, e1, e2, e3, e4⟩
  · obtain ⟨x, hx, rfl | ⟨-, rfl⟩⟩ := rcvS_mem hy
    · exact hz _ hx
    · exact hz x hx
/-- What is delivered was not received too often. -/
theorem rdy_rcv {now : Int} (ha : AccR s now s1) {i : Nat} {x : En} (hx : s1.l[i]? = some x) (hr : rdyB s1.now s1.l i = true) : x.rcv + 1 ≤ s1.r := by
  obtain ⟨e1, e2, e3, e4, hg⟩ := ha.stay
  have h2 := hg x (List.mem_of_getElem? hx)
  have hv := rdyB_vis hr hx
  rw [e1] at hv
  unfold goneB at h2
  rw [decide_eq_true hv, Bool.true_and] at h2
  have h4 := of_decide_eq_false h2
  omega
end
end Go.Proofs.YtbofclohnmojmaaGreatDoor
