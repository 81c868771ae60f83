/- What a call does is the same for equal queues, wherever the bodies of their events lie. -/
import Derived.Test.YtbofclohnmojmaaGreatDoorRD0
namespace Go.Proofs.YtbofclohnmojmaaGreatDoor
open Go.RowKit

def En.kore (x : En) : En := { x with ev := x.ev.core }
/-- A queue without the places of its events' bodies. -/
def QS.kore (s : QS) : QS := { s with l := s.l.map En.kore, d := s.d.map Ev.core }
section
variable {s t s1 t1 : QS}
theorem kore_eq (hv : s.v = t.v) (hr : s.r = t.r) (hn : s.now = t.now) (ha : s.arr = t.arr) (hl : s.l.map En.kore = t.l.map En.kore) (hd : s.d.map Ev.core = t.d.map Ev.core) : s.kore = t.kore := by
  unfold QS.kore
  rw [hv, hr, hn, ha, hl, hd]
theorem kore_all (h : s.kore = t.kore) : s.v = t.v ∧ s.r = t.r ∧ s.now = t.now ∧ s.arr = t.arr :=
  ⟨show s.kore.v = t.kore.v by rw [h], show s.kore.r = t.kore.r by rw [h], show s.kore.now = t.kore.now by rw [h], show s.kore.arr = t.kore.arr by rw [h]⟩
theorem kore_l (h : s.kore = t.kore) : s.l.map En.kore = t.l.map En.kore := show s.kore.l = t.kore.l by rw [h]
theorem kore_d (h : s.kore = t.kore) : s.d.map Ev.core = t.d.map Ev.core := show s.kore.d = t.kore.d by rw [h]
theorem kore_ll (h : s.kore = t.kore) : s.l.length = t.l.length := by have := congrArg List.length (kore_l h); simpa using this
theorem kore_dl (h : s.kore = t.kore) : s.d.length = t.d.length := by have := congrArg List.length (kore_d h); simpa using this
theorem betE_no {x y : En} (h : betE x y) (g : betE y x) : False := by unfold betE at *; omega
theorem srt_one : ∀ {a b : List En}, a.Perm b → a.Pairwise betE → b.Pairwise betE → a = b
  | [], b, h, _, _ => (List.nil_perm.1 h).symm
  | x :: a, [], h, _, _ => absurd (List.perm_nil.1 h) (by simp)
  | x :: a, y :: b, h, ha, hb => by
    have ha' := List.pairwise_cons.1 ha
    have hb' := List.pairwise_cons.1 hb
    have e : x = y := by
      refine Classical.byContradiction fun hne => ?_
      have h1 : y ∈ a := (List.mem_cons.1 (h.mem_iff.2 (List.mem_cons_self ..))).resolve_left (fun e => hne e.symm)
      have h2 : x ∈ b := (List.mem_cons.1 (h.mem_iff.1 (List.mem_cons_self ..))).resolve_left hne
      exact betE_no (ha'.1 y h1) (hb'.1 x h2)
    subst e
    rw [srt_one ((List.perm_cons x).1 h) ha'.2 hb'.2]
theorem filt_kore (p : En → Bool) (hp : ∀ x, p x.kore = p x) (l : List En) : (l.filter p).map En.kore = (l.map En.kore).filter p := by
  rw [List.filter_map]
  congr 1
  refine List.filter_congr fun x _ => (hp x).symm
theorem AccR.kore {now : Int} (h : AccR s now s1) (g : AccR t now t1) (e : s.kore = t.kore) : s1.kore = t1.kore := by
  obtain ⟨r, hr, rfl⟩ := h
  obtain ⟨q, hq, rfl⟩ := g
  have er := (kore_all e).2.1
  have el := kore_l e
  have hG : (s.l.filter (goneB now s.r)).map En.kore = (t.l.filter (goneB now t.r)).map En.kore := by
    rw [filt_kore _ (fun _ => rfl), filt_kore _ (fun _ => rfl), el, er]
  have hN : (s.l.filter (fun x => !goneB now s.r x)).map En.kore = (t.l.filter (fun x => !goneB now t.r x)).map En.kore := by
    rw [filt_kore _ (fun _ => rfl), filt_kore _ (fun _ => rfl), el, er]
  have hp : (r.map En.kore).Perm (q.map En.kore) := ((hr.1.map En.kore).trans (by rw [hG])).trans (hq.1.map En.kore).symm
  have hq' : r.map En.kore = q.map En.kore := srt_one hp (List.pairwise_map.2 hr.2) (List.pairwise_map.2 hq.2)
  refine kore_eq ((kore_all e).1) er rfl ((kore_all e).2.2.2) hN ?_
  show (s.d ++ r.map En.ev).map Ev.core = (t.d ++ q.map En.ev).map Ev.core
  have h3 := congrArg (List.map En.ev) hq'
  rw [List.map_map, List.map_map] at h3
  rw [List.map_append, List.map_append, kore_d e, List.map_map, List.map_map]
  congr 1
theorem hasD_kore (d : List Ev) (id : ByteArray) : hasD (d.map Ev.core) id = hasD d id := by
  unfold hasD
  rw [List.any_map]
  rfl
theorem hasL_kore (l : List En) (id : ByteArray) : hasL (l.map En.kore) id = hasL l id := by
  unfold hasL
  rw [List.any_map]
  rfl
theorem sndE_kore (e : s.kore = t.kore) (x : Ev) : sndE s x = sndE t x := by
  unfold sndE
  rw [← hasD_kore s.d, ← hasD_kore t.d, ← hasL_kore s.l, ← hasL_kore t.l, kore_d e, kore_l e, kore_ll e, kore_dl e]
theorem sndS_kore (e : s.kore = t.kore) (x : Ev) (now : Int) (A A' : Option Addr) (c c' : Nat) : (sndS s x now A c).kore = (sndS t x now A' c').kore := by
  unfold sndS
  rw [sndE_kore e x]
  split
  · have ed := kore_d e
    refine kore_eq ((kore_all e).1) ((kore_all e).2.1) ((kore_all e).2.2.1) (by show s.arr + 1 = t.arr + 1; rw [(kore_all e).2.2.2]) ?_ ed
    show (s.l ++ [_]).map En.kore = (t.l ++ [_]).map En.kore
    rw [List.map_append, List.map_append, kore_l e]
    have := (kore_all e).2.2.2
    simp [En.kore, Ev.core, this]
  · exact e
theorem keyAt_kore (l : List En) (k : Nat) (z : ByteArray) : keyAt (l.map En.kore) k z = keyAt l k z := by
  unfold keyAt
  rw [← List.map_take, List.any_map]
  rfl
theorem rdyB_kore (now : Int) (l : List En) (i : Nat) : rdyB now (l.map En.kore) i = rdyB now l i := by
  unfold rdyB
  rw [List.getElem?_map]
  cases l[i]? with
  | none => rfl
  | some x =>
    simp only [Option.map_some, keyAt_kore]
    rfl
theorem rdyL_kore (now : Int) (l : List En) (n : Nat) : rdyL now (l.map En.kore) n = rdyL now l n := by
  unfold rdyL
  exact List.filter_congr fun i _ => rdyB_kore now l i
theorem rcvGo_kore (now v : Int) : ∀ (is : List Nat) (l : List En), (rcvGo now v is l).1.map De.core = (rcvGo now v is (l.map En.kore)).1 ∧ (rcvGo now v is l).2.map En.kore = (rcvGo now v is (l.map En.kore)).2
  | [], l => ⟨rfl, rfl⟩
  | i :: is, l => by
    rw [rcvGo, rcvGo, List.getElem?_map]
    cases l[i]? with
    | none => exact ⟨rfl, rfl⟩
    | some x =>
      simp only [Option.map_some]
      have ih := rcvGo_kore now v is (l.set i (x.got now v))
      rw [List.map_set] at ih
      refine ⟨?_, ih.2⟩
      rw [List.map_cons, ih.1]
      rfl
theorem takeI_kore (now : Int) (l : List En) (n : Int) : takeI now (l.map En.kore) n = takeI now l n := by
  unfold takeI
  rw [rdyL_kore, List.length_map]
theorem rcvS_kore (e : s.kore = t.kore) (n : Int) : (rcvS s n).kore = (rcvS t n).kore := by
  have ed := kore_d e
  refine kore_eq ((kore_all e).1) ((kore_all e).2.1) ((kore_all e).2.2.1) ((kore_all e).2.2.2) ?_ ed
  show (rcvGo s.now s.v (takeI s.now s.l n) s.l).2.map En.kore = (rcvGo t.now t.v (takeI t.now t.l n) t.l).2.map En.kore
  rw [(rcvGo_kore _ _ _ _).2, (rcvGo_kore _ _ _ _).2, ← takeI_kore s.now s.l, ← takeI_kore t.now t.l, kore_l e, (kore_all e).2.2.1, (kore_all e).1]
theorem rcvD_kore (e : s.kore = t.kore) (n : Int) : (rcvD s n).map De.core = (rcvD t n).map De.core := by
  unfold rcvD
  rw [(rcvGo_kore _ _ _ _).1, (rcvGo_kore _ _ _ _).1, ← takeI_kore s.now s.l, ← takeI_kore t.now t.l, kore_l e, (kore_all e).2.2.1, (kore_all e).1]
theorem fndS_kore (now : Int) (l : List En) (rc : ByteArray) : fndS now (l.map En.kore) rc = fndS now l rc := by
  have h1 : ∀ p : En → Bool, (∀ x, p x.kore = p x) → (l.map En.kore).findIdx? p = l.findIdx? p := fun p hp => by
    rw [List.findIdx?_map]
    congr 1
    funext x
    exact hp x
  have h2 : ∀ n i, fndE now (l.map En.kore) n i = fndE now l n i := fun n i => by
    unfold fndE
    rw [List.getElem?_map]
    cases l[i]? with
    | none => rfl
    | some x => rfl
  unfold fndS
  rw [h1 _ (fun _ => rfl)]
  simp only [h2]
theorem fnd_kore (e : s.kore = t.kore) (rc : ByteArray) : fndS s.now s.l rc = fndS t.now t.l rc := by
  rw [← fndS_kore s.now s.l, ← fndS_kore t.now t.l, kore_l e, (kore_all e).2.2.1]
theorem eraseIdx_kore : ∀ (l : List En) (i : Nat), (l.eraseIdx i).map En.kore = (l.map En.kore).eraseIdx i
  | [], _ => rfl
  | _ :: _, 0 => rfl
  | x :: l, i + 1 => by
    rw [List.eraseIdx_cons_succ, List.map_cons, List.map_cons, List.eraseIdx_cons_succ, eraseIdx_kore l i]
theorem delS_kore (e : s.kore = t.kore) (rc : ByteArray) : (delS s rc).kore = (delS t rc).kore := by
  unfold delS
  rw [fnd_kore e rc]
  split
  · have ed := kore_d e
    refine kore_eq ((kore_all e).1) ((kore_all e).2.1) ((kore_all e).2.2.1) ((kore_all e).2.2.2) ?_ ed
    show (s.l.eraseIdx _).map En.kore = (t.l.eraseIdx _).map En.kore
    rw [eraseIdx_kore, eraseIdx_kore, kore_l e]
  · exact e
theorem modify_kore (v : Int) (l : List En) (i : Nat) : (l.modify i (En.back v)).map En.kore = (l.map En.kore).modify i (En.back v) := by
  refine List.ext_getElem? fun j => ?_
  rw [List.getElem?_map, List.getElem?_modify, List.getElem?_modify, List.getElem?_map]
  cases l[j]? with
  | none => rfl
  | some x =>
    by_cases hij : i = j
    · simp [hij, En.kore, En.back]
    · simp [hij, En.kore]
theorem retS_kore (e : s.kore = t.kore) (rc : ByteArray) (v : Int) : (retS s rc v).kore = (retS t rc v).kore := by
  unfold retS
  rw [fnd_kore e rc]
  split
  · have ed := kore_d e
    refine kore_eq ((kore_all e).1) ((kore_all e).2.1) ((kore_all e).2.2.1) ((kore_all e).2.2.2) ?_ ed
    show (s.l.modify _ _).map En.kore = (t.l.modify _ _).map En.kore
    rw [modify_kore, modify_kore, kore_l e]
  · exact e
theorem waitS_kore (e : s.kore = t.kore) (key : ByteArray) : waitS s.l key = waitS t.l key := by
  have h : ∀ l : List En, waitS l key = ((l.map En.kore).filter fun x => eqS x.ev.key key).map fun x => x.ev.id := fun l => by
    rw [← filt_kore _ (fun _ => rfl), List.map_map]
    rfl
  rw [h, h, kore_l e]
theorem keysS_kore (e : s.kore = t.kore) : keysS s = keysS t := by
  have h : ∀ l : List En, ∀ i, keyOf' l i = keyOf' (l.map En.kore) i := fun l i => by
    unfold keyOf'
    rw [List.getElem?_map]
    cases l[i]? with
    | none => rfl
    | some x => rfl
  unfold keysS
  rw [← rdyL_kore s.now s.l, ← rdyL_kore t.now t.l, kore_l e, (kore_all e).2.2.1, kore_ll e]
  refine List.map_congr_left fun i _ => ?_
  rw [h s.l, h t.l, kore_l e]
/-- Equal queues do the same. -/
theorem StepR.same {s' t' : QS} {x : Cl} {T : List ByteArray} {z z' : Int} {D D' : List De} (h : StepR s x T z D s') (g : StepR t x T z' D' t') (e : s.kore = t.kore) : z = z' ∧ D.map De.core = D'.map De.core ∧ s'.kore = t'.kore := by
  have en := (kore_all e).2.2.1
  cases h with
  | sendE hk hc =>
    cases g with
    | sendE hk2 hc2 => exact ⟨by rw [en], rfl, e⟩
    | send t1 Ay cy hk2 hc2 ha2 => exact absurd (by rw [en]; exact hc2) hc
    | recvE hk2 hc2 => omega
    | recv t1 r hk2 hc2 ha2 hr2 => omega
    | delE hk2 hc2 => omega
    | del t1 hk2 hc2 ha2 => omega
    | retE hk2 hc2 => omega
    | ret t1 hk2 hc2 ha2 => omega
  | send s1 Ay cy hk hc ha =>
    cases g with
    | sendE hk2 hc2 => exact absurd (by rw [← en]; exact hc) hc2
    | send t1 Ay2 cy2 hk2 hc2 ha2 =>
      have e1 := ha.kore ha2 e
      exact ⟨sndE_kore e1 _, rfl, sndS_kore e1 _ _ _ _ _ _⟩
    | recvE hk2 hc2 => omega
    | recv t1 r hk2 hc2 ha2 hr2 => omega
    | delE hk2 hc2 => omega
    | del t1 hk2 hc2 ha2 => omega
    | retE hk2 hc2 => omega
    | ret t1 hk2 hc2 ha2 => omega
  | recvE hk hc =>
    cases g with
    | sendE hk2 hc2 => omega
    | send t1 Ay cy hk2 hc2 ha2 => omega
    | recvE hk2 hc2 => exact ⟨rfl, rfl, e⟩
    | recv t1 r hk2 hc2 ha2 hr2 => exact absurd (by rw [en]; exact hc2) hc
    | delE hk2 hc2 => omega
    | del t1 hk2 hc2 ha2 => omega
    | retE hk2 hc2 => omega
    | ret t1 hk2 hc2 ha2 => omega
  | recv s1 r hk hc ha hr =>
    cases g with
    | sendE hk2 hc2 => omega
    | send t1 Ay cy hk2 hc2 ha2 => omega
    | recvE hk2 hc2 => exact absurd (by rw [← en]; exact hc) hc2
    | recv t1 r2 hk2 hc2 ha2 hr2 =>
      have e1 := ha.kore ha2 e
      exact ⟨rfl, by rw [hr, hr2, rcvD_kore e1], rcvS_kore e1 _⟩
    | delE hk2 hc2 => omega
    | del t1 hk2 hc2 ha2 => omega
    | retE hk2 hc2 => omega
    | ret t1 hk2 hc2 ha2 => omega
  | delE hk hc =>
    cases g with
    | sendE hk2 hc2 => omega
    | send t1 Ay cy hk2 hc2 ha2 => omega
    | recvE hk2 hc2 => omega
    | recv t1 r hk2 hc2 ha2 hr2 => omega
    | delE hk2 hc2 => exact ⟨by rw [en], rfl, e⟩
    | del t1 hk2 hc2 ha2 => exact absurd (by rw [en]; exact hc2) hc
    | retE hk2 hc2 => omega
    | ret t1 hk2 hc2 ha2 => omega
  | del s1 hk hc ha =>
    cases g with
    | sendE hk2 hc2 => omega
    | send t1 Ay cy hk2 hc2 ha2 => omega
    | recvE hk2 hc2 => omega
    | recv t1 r hk2 hc2 ha2 hr2 => omega
    | delE hk2 hc2 => exact absurd (by rw [← en]; exact hc) hc2
    | del t1 hk2 hc2 ha2 =>
      have e1 := ha.kore ha2 e
      exact ⟨by rw [fnd_kore e1], rfl, delS_kore e1 _⟩
    | retE hk2 hc2 => omega
    | ret t1 hk2 hc2 ha2 => omega
  | retE hk hc =>
    cases g with
    | sendE hk2 hc2 => omega
    | send t1 Ay cy hk2 hc2 ha2 => omega
    | recvE hk2 hc2 => omega
    | recv t1 r hk2 hc2 ha2 hr2 => omega
    | delE hk2 hc2 => omega
    | del t1 hk2 hc2 ha2 => omega
    | retE hk2 hc2 => exact ⟨by rw [en], rfl, e⟩
    | ret t1 hk2 hc2 ha2 => exact absurd (by rw [en]; exact hc2) hc
  | ret s1 hk hc ha =>
    cases g with
    | sendE hk2 hc2 => omega
    | send t1 Ay cy hk2 hc2 ha2 => omega
    | recvE hk2 hc2 => omega
    | recv t1 r hk2 hc2 ha2 hr2 => omega
    | delE hk2 hc2 => omega
    | del t1 hk2 hc2 ha2 => omega
    | retE hk2 hc2 => exact absurd (by rw [← en]; exact hc) hc2
    | ret t1 hk2 hc2 ha2 =>
      have e1 := ha.kore ha2 e
      exact ⟨by rw [fnd_kore e1], rfl, retS_kore e1 _ _⟩
end
end Go.Proofs.YtbofclohnmojmaaGreatDoor
