/- The law FifoOrders: deliveries, plain. -/
import Derived.Test.YtbofclohnmojmaaGreatDoorGX
namespace Go.Proofs.YtbofclohnmojmaaGreatDoor
open Go.RowKit
open Go.Sort (grow)

section
variable {s s1 : QS} {all : List Sn} {T I : List ByteArray} {n : Int} {r : List De}
theorem rcv_ids (s : QS) (n : Int) : ((rcvS s n).l.map fun x => (x.ev.id, x.ev.key)) = s.l.map fun x => (x.ev.id, x.ev.key) := by
  refine List.ext_getElem? fun k => ?_
  rw [List.getElem?_map, List.getElem?_map, rcvS_at]
  cases s.l[k]? with
  | none => rfl
  | some x => simp only [Option.map_some]; split <;> rfl
theorem wait_map : ∀ (l l' : List En) (key : ByteArray), (l'.map fun x => (x.ev.id, x.ev.key)) = (l.map fun x => (x.ev.id, x.ev.key)) → waitS l' key = waitS l key
  | [], l', key, h => by
    have h0 : l' = [] := by simpa using h
    subst h0
    rfl
  | x :: l, [], key, h => by simp at h
  | x :: l, x' :: l', key, h => by
    simp only [List.map_cons, List.cons.injEq, Prod.mk.injEq] at h
    have ih := wait_map l l' key h.2
    unfold waitS at ih ⊢
    rw [List.filter_cons, List.filter_cons, h.1.2]
    split
    · rw [List.map_cons, List.map_cons, ih, h.1.1]
    · exact ih
/-- The first one that waits with a key. -/
theorem wait_head {l : List En} {i : Nat} {x : En} (hx : l[i]? = some x) (hk : keyAt l i x.ev.key = false) : ∃ R, waitS l x.ev.key = x.ev.id :: R := by
  have hlt := (List.getElem?_eq_some_iff.1 hx).1
  have hno : (l.take i).filter (fun y => eqS y.ev.key x.ev.key) = [] := by
    rw [List.filter_eq_nil_iff]
    intro y hy hyx
    unfold keyAt at hk
    rw [List.any_eq_false] at hk
    exact hk y hy ((eqS_iff _ _).2 ((eqS_iff _ _).1 hyx).symm)
  have hd : l = l.take i ++ x :: l.drop (i + 1) := by
    conv => lhs; rw [← List.take_append_drop i l]
    congr 1
    rw [List.drop_eq_getElem_cons hlt]
    congr 1
    rw [List.getElem?_eq_getElem hlt] at hx
    injection hx
  refine ⟨((l.drop (i + 1)).filter (fun y => eqS y.ev.key x.ev.key)).map fun y => y.ev.id, ?_⟩
  unfold waitS
  conv => lhs; rw [hd]
  rw [List.filter_append, hno, List.nil_append, List.filter_cons_of_pos (p := fun y : En => eqS y.ev.key x.ev.key) ((eqS_iff _ _).2 rfl), List.map_cons]
/-- What the law asks of a delivery. -/
theorem OrI.dlv (h : OrI s1 all T I) (hr : r.map De.core = (rcvD s1 n).map De.core) {j : Nat} {d : De} (hd : r[j]? = some d) :
    ∃ (p : Nat) (y : Sn) (R : List ByteArray), fnS all d.ev.id = p ∧ all[p]? = some y ∧ y.key = d.ev.key ∧ waitS (rcvS s1 n).l d.ev.key = d.ev.id :: R ∧
      ∀ (q : Nat) (z : Sn), q < p → all[q]? = some z → z.key = y.key → z.gone = false → hasD s1.d z.id = true := by
  obtain ⟨i, x, ht, hx, hrd, e1, e2, e3, e4⟩ := dlv_at hr hd
  obtain ⟨P, hP⟩ := h.emb
  obtain ⟨p, y, a1, a2, a3, a4, a5⟩ := hP.at_ hx
  have hkey : keyAt s1.l i x.ev.key = false := by
    unfold rdyB at hrd
    rw [hx] at hrd
    simp only [Bool.and_eq_true] at hrd
    simpa using hrd.1
  obtain ⟨R, hw⟩ := wait_head hx hkey
  refine ⟨p, y, R, ?_, a2, by rw [e4]; exact a4, ?_, fun q z hq hz hzk hg => ?_⟩
  · rw [e3]
    exact fnS_uniq a2 (onB_iff.2 ⟨a3, a5⟩) fun j z hz hon => h.one j p z y hz a2 (onB_iff.1 hon).2 a5 ((onB_iff.1 hon).1.trans a3.symm)
  · rw [e3, e4, wait_map _ _ _ (rcv_ids s1 n)]
    exact hw
  · rcases h.mem q z hz hg with ⟨x', hx', e'⟩ | ⟨v, hv, e'⟩
    · exfalso
      obtain ⟨i', hi'⟩ := List.getElem?_of_mem hx'
      obtain ⟨p', y', b1, b2, b3, b4, b5⟩ := hP.at_ hi'
      have hpq := h.one p' q y' z b2 hz b5 hg (b3.trans e')
      subst hpq
      rw [b2] at hz
      injection hz with hz
      subst hz
      have hii : i' < i := by
        rcases Nat.lt_trichotomy i' i with h' | h' | h'
        · exact h'
        · subst h'
          rw [a1] at b1
          injection b1 with b1
          omega
        · have := hP.lt h' a1 b1
          omega
      unfold keyAt at hkey
      rw [List.any_eq_false] at hkey
      have hm : x' ∈ s1.l.take i := List.mem_of_getElem? (i := i') (by rw [List.getElem?_take_of_lt hii]; exact hi')
      exact hkey x' hm ((eqS_iff _ _).2 (a4.symm.trans (hzk.symm.trans b4)))
    · unfold hasD
      rw [List.any_eq_true]
      exact ⟨v, hv, (eqS_iff _ _).2 e'⟩
theorem OrI.recv (h : OrI s1 all T I) (hok : s1.ok) (hr : r.map De.core = (rcvD s1 n).map De.core) : OrI (rcvS s1 n) all (T ++ r.map De.rc) (I ++ r.map fun d => d.ev.id) := by
  obtain ⟨P, hP⟩ := h.emb
  refine ⟨⟨P, hP.map (rcv_ids s1 n)⟩, fun p y hp hg => ?_, h.one, by simp [h.len], fun k t id ht hi => ?_, fun y hy h1 => ?_, fun y hy => ?_⟩
  · rcases h.mem p y hp hg with ⟨x, hx, e⟩ | h'
    · left
      obtain ⟨j, hj⟩ := List.getElem?_of_mem hx
      have h2 : ((rcvS s1 n).l.map fun x => (x.ev.id, x.ev.key))[j]? = some (x.ev.id, x.ev.key) := by rw [rcv_ids, List.getElem?_map, hj]; rfl
      rw [List.getElem?_map] at h2
      obtain ⟨z, hz, e2⟩ := Option.map_eq_some_iff.1 h2
      injection e2 with e2 _
      exact ⟨z, List.mem_of_getElem? hz, e2.trans e⟩
    · exact .inr h'
  · rcases Nat.lt_or_ge k T.length with hk | hk
    · rw [List.getElem?_append_left hk] at ht
      rw [List.getElem?_append_left (by rw [← h.len]; exact hk)] at hi
      exact h.told k t id ht hi
    · rw [List.getElem?_append_right hk, List.getElem?_map] at ht
      rw [List.getElem?_append_right (by rw [← h.len]; exact hk), List.getElem?_map, ← h.len] at hi
      obtain ⟨d, hd, e1⟩ := Option.map_eq_some_iff.1 ht
      obtain ⟨d', hd', e2⟩ := Option.map_eq_some_iff.1 hi
      rw [hd] at hd'
      injection hd' with hd'
      subst hd'
      obtain ⟨i, x, ht', hx, hrd, f1, f2, f3, f4⟩ := dlv_at hr hd
      have hb := hok.rcv x (List.mem_of_getElem? hx)
      refine ⟨x.rcv + 1, by rw [← e1, f1, ← e2, f3], by omega, by omega, ?_⟩
      rw [← e2, f3]
      exact h.ids x (List.mem_of_getElem? hx)
  · obtain ⟨j, hj⟩ := List.getElem?_of_mem hy
    rw [rcvS_at] at hj
    obtain ⟨x, hx, e⟩ := Option.map_eq_some_iff.1 hj
    by_cases hm : j ∈ takeI s1.now s1.l n
    · rw [if_pos hm] at e
      subst e
      obtain ⟨k, hk⟩ := List.getElem?_of_mem hm
      have hkl : k < r.length := by rw [(dlv_len hr).1]; exact (List.getElem?_eq_some_iff.1 hk).1
      obtain ⟨i, x', ht', hx', hrd, f1, f2, f3, f4⟩ := dlv_at hr (List.getElem?_eq_getElem hkl)
      rw [hk] at ht'
      injection ht' with ht'
      subst ht'
      rw [hx] at hx'
      injection hx' with hx'
      subst hx'
      refine ⟨T.length + k, ?_, ?_⟩
      · rw [List.getElem?_append_right (by omega), List.getElem?_map, Nat.add_sub_cancel_left, List.getElem?_eq_getElem hkl]
        exact congrArg some f1
      · rw [List.getElem?_append_right (by rw [← h.len]; omega), List.getElem?_map, ← h.len, Nat.add_sub_cancel_left, List.getElem?_eq_getElem hkl]
        exact congrArg some f3
    · rw [if_neg hm] at e
      subst e
      obtain ⟨k, h2, h3⟩ := h.rc x (List.mem_of_getElem? hx) h1
      refine ⟨k, ?_, ?_⟩
      · rw [List.getElem?_append_left (List.getElem?_eq_some_iff.1 h2).1]; exact h2
      · rw [List.getElem?_append_left (List.getElem?_eq_some_iff.1 h3).1]; exact h3
  · obtain ⟨x, hx, rfl | ⟨-, rfl⟩⟩ := rcvS_mem hy
    · exact h.ids _ hx
    · exact h.ids x hx
/-- When j deliveries of a call have been told. -/
def OrL (s' : QS) (r : List De) (T0 I0 : List ByteArray) (all : List Sn) : Prop :=
  (r = [] ∧ OrI s' all T0 I0) ∨ ∃ (s0 s1 : QS) (now n : Int), AccR s0 now s1 ∧ s1.ok ∧ s' = rcvS s1 n ∧ r.map De.core = (rcvD s1 n).map De.core ∧ OrI s1 all T0 I0
theorem OrL.of {s' : QS} (h : OrI s' all T I) : OrL s' [] T I all := .inl ⟨rfl, h⟩
theorem OrL.done {s' : QS} (h : OrL s' r T I all) : OrI s' all (T ++ r.map De.rc) (I ++ r.map fun d => d.ev.id) := by
  rcases h with ⟨rfl, h⟩ | ⟨s0, s1, now, n, ha, hok, rfl, hr, h⟩
  · simpa using h
  · exact h.recv hok hr
theorem OrL.dlv {s' : QS} (h : OrL s' r T I all) {j : Nat} {d : De} (hd : r[j]? = some d) :
    ∃ (p : Nat) (y : Sn) (R : List ByteArray), fnS all d.ev.id = p ∧ all[p]? = some y ∧ y.key = d.ev.key ∧ waitS s'.l d.ev.key = d.ev.id :: R ∧ d.rc.size ≤ 1000 ∧ d.ev.id.size ≤ 64 ∧
      ∀ (q : Nat) (z : Sn), q < p → all[q]? = some z → z.key = y.key → z.gone = false → hasD s'.d z.id = true := by
  rcases h with ⟨rfl, h⟩ | ⟨s0, s1, now, n, ha, hok, rfl, hr, h⟩
  · simp at hd
  · obtain ⟨p, y, R, b1, b2, b3, b4, b5⟩ := h.dlv hr hd
    obtain ⟨i, x, ht, hx, hrd, e1, e2, e3, e4⟩ := dlv_at hr hd
    have hrc := hok.rcv x (List.mem_of_getElem? hx)
    have hid := idL_size (h.ids x (List.mem_of_getElem? hx))
    exact ⟨p, y, R, b1, b2, b3, b4, by rw [e1]; exact rcpS_size _ _ hid (by omega) (by omega), by rw [e3]; exact hid, b5⟩
/-- A call of a script, as the law FifoOrders looks at it. -/
theorem StepR.or {s s' : QS} {x : Cl} {z : Int} (h : StepR s x T z r s') (hI : OrI s all T I) (hok : s.ok) :
    (x.k = 0 → z = 0 → OrL s' r T I (all ++ [⟨x.e.id, x.e.key, false, 0⟩])) ∧
    (x.k = 2 ∨ x.k = 4 → z = 0 → r = [] ∧ ∃ (id : ByteArray) (p : Nat) (y : Sn), OrD all (x.rc T) T I id p y ∧ OrI s' (all.set p { y with gone := true }) T I) ∧
    (¬ (x.k = 0 ∧ z = 0) → ¬ ((x.k = 2 ∨ x.k = 4) ∧ z = 0) → OrL s' r T I all) ∧ r.length ≤ 256 := by
  cases h with
  | sendE hk hc => exact ⟨fun _ h => absurd h hc, fun h => by omega, fun _ _ => .of hI, by simp⟩
  | recvE hk hc => exact ⟨fun h => by omega, fun h => by omega, fun _ _ => .of hI, by simp⟩
  | delE hk hc => exact ⟨fun h => by omega, fun _ h => absurd h hc, fun _ _ => .of hI, by simp⟩
  | retE hk hc => exact ⟨fun h => by omega, fun h => by omega, fun _ _ => .of hI, by simp⟩
  | send s1 Ay cy hk hc ha =>
    refine ⟨fun _ hz => .of ((hI.acc ha).send hz), fun h => by omega, fun hn _ => ?_, by simp⟩
    rw [sndS_no (fun h0 => hn ⟨hk, h0⟩)]
    exact .of (hI.acc ha)
  | recv s1 r hk hc ha hr =>
    have hn := clk0 hc
    have hok1 := ha.ok hok ⟨hn.1, hn.2.1⟩
    have hl : r.length ≤ 256 := by
      rw [(dlv_len hr).1]
      have := hok1.len
      have h5 : (takeI s1.now s1.l x.n).length ≤ s1.l.length := by
        unfold takeI
        rw [List.length_take]
        have := rdyL_len s1.now s1.l s1.l.length
        omega
      omega
    exact ⟨fun h => by omega, fun h => by omega, fun _ _ => .inr ⟨s, s1, x.now, x.n, ha, hok1, rfl, hr, hI.acc ha⟩, hl⟩
  | del s1 hk hc ha =>
    refine ⟨fun h => by omega, fun _ hz => ⟨rfl, (hI.acc ha).del hz⟩, fun _ hn => ?_, by simp⟩
    rw [delS_no (fun h0 => hn ⟨hk, h0⟩)]
    exact .of (hI.acc ha)
  | ret s1 hk hc ha =>
    exact ⟨fun h => by omega, fun h => by omega, fun _ _ => .of (hI.acc ha).ret, by simp⟩
end
end Go.Proofs.YtbofclohnmojmaaGreatDoor
