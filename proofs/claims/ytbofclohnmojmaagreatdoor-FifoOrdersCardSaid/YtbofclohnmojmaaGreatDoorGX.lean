/- The law FifoOrders: what its loop keeps, plain. -/
import Derived.Test.YtbofclohnmojmaaGreatDoorGW
namespace Go.Proofs.YtbofclohnmojmaaGreatDoor
open Go.RowKit
open Go.Sort (grow)

structure OrI (s : QS) (all : List Sn) (T I : List ByteArray) : Prop where
  emb : ∃ P, EmbR all s.l P
  mem : ∀ (p : Nat) (y : Sn), all[p]? = some y → y.gone = false → (∃ x ∈ s.l, x.ev.id = y.id) ∨ (∃ e ∈ s.d, e.id = y.id)
  one : ∀ (p p' : Nat) (y y' : Sn), all[p]? = some y → all[p']? = some y' → y.gone = false → y'.gone = false → y.id = y'.id → p = p'
  len : T.length = I.length
  told : ∀ (k : Nat) (t id : ByteArray), T[k]? = some t → I[k]? = some id → ∃ n : Int, t = rcpS id n ∧ 0 ≤ n ∧ n ≤ 1000 ∧ idL id = true
  rc : ∀ x ∈ s.l, 1 ≤ x.rcv → ∃ k : Nat, T[k]? = some (rcpS x.ev.id x.rcv) ∧ I[k]? = some x.ev.id
  ids : ∀ x ∈ s.l, idL x.ev.id = true
section
variable {s s1 : QS} {all : List Sn} {T I : List ByteArray}
theorem OrI.new (v r : Int) : OrI ⟨v, r, 0, 0, [], []⟩ [] [] [] :=
  ⟨⟨[], .nil⟩, by simp, by simp, rfl, by simp, by simp, by simp⟩
/-- Two waiting events have two identifiers. -/
theorem OrI.ids_at (h : OrI s all T I) {i j : Nat} {x y : En} (hi : s.l[i]? = some x) (hj : s.l[j]? = some y) (e : x.ev.id = y.ev.id) : i = j := by
  obtain ⟨P, hP⟩ := h.emb
  obtain ⟨p, y1, a1, a2, a3, _, a4⟩ := hP.at_ hi
  obtain ⟨p', y2, b1, b2, b3, _, b4⟩ := hP.at_ hj
  have hpp := h.one p p' y1 y2 a2 b2 a4 b4 (a3.trans (e.trans b3.symm))
  subst hpp
  rcases Nat.lt_trichotomy i j with h' | h' | h'
  · have := hP.lt h' a1 b1; omega
  · exact h'
  · have := hP.lt h' b1 a1; omega
theorem AccR.gone {now : Int} (h : AccR s now s1) {x : En} (hx : x ∈ s.l) : x ∈ s1.l ∨ x.ev ∈ s1.d := by
  obtain ⟨r, ⟨hp, -⟩, rfl⟩ := h
  cases hg : goneB now s.r x with
  | false => exact .inl (List.mem_filter.2 ⟨hx, by simp [hg]⟩)
  | true => exact .inr (List.mem_append_right _ (List.mem_map.2 ⟨x, hp.mem_iff.2 (List.mem_filter.2 ⟨hx, hg⟩), rfl⟩))
theorem AccR.dsub {now : Int} (h : AccR s now s1) {e : Ev} (he : e ∈ s.d) : e ∈ s1.d := by
  obtain ⟨r, -, rfl⟩ := h
  exact List.mem_append_left _ he
theorem OrI.acc {now : Int} (h : OrI s all T I) (ha : AccR s now s1) : OrI s1 all T I := by
  have hs := ha.sub
  obtain ⟨P, hP⟩ := h.emb
  obtain ⟨P', -, hP'⟩ := hP.sub hs
  refine ⟨⟨P', hP'⟩, fun p y hp hg => ?_, h.one, h.len, h.told, fun x hx => h.rc x (hs.subset hx), fun x hx => h.ids x (hs.subset hx)⟩
  rcases h.mem p y hp hg with ⟨x, hx, e⟩ | ⟨d, hd, e⟩
  · rcases ha.gone hx with h1 | h1
    · exact .inl ⟨x, h1, e⟩
    · exact .inr ⟨x.ev, h1, e⟩
  · exact .inr ⟨d, ha.dsub hd, e⟩
theorem hasD_no {l : List Ev} {id : ByteArray} (h : hasD l id = false) {x : Ev} (hx : x ∈ l) : x.id ≠ id := by
  intro e
  unfold hasD at h
  rw [List.any_eq_false] at h
  exact h x hx ((eqS_iff _ _).2 e)
theorem OrI.send {x : Ev} {now : Int} {Ay : Option Addr} {cy : Nat} (h : OrI s all T I) (he : sndE s x = 0) : OrI (sndS s x now Ay cy) (all ++ [⟨x.id, x.key, false, 0⟩]) T I := by
  obtain ⟨hc, hd, hl, -⟩ := snd0 he
  unfold sndS
  rw [if_pos he]
  obtain ⟨P, hP⟩ := h.emb
  have hkeep : ∀ p, p < all.length → (all ++ [(⟨x.id, x.key, false, 0⟩ : Sn)])[p]? = all[p]? := fun p hp => List.getElem?_append_left hp
  have hlast : (all ++ [(⟨x.id, x.key, false, 0⟩ : Sn)])[all.length]? = some ⟨x.id, x.key, false, 0⟩ := by simp
  have hcase : ∀ (p : Nat) (y : Sn), (all ++ [(⟨x.id, x.key, false, 0⟩ : Sn)])[p]? = some y → all[p]? = some y ∨ (p = all.length ∧ y = ⟨x.id, x.key, false, 0⟩) := by
    intro p y hp
    rcases Nat.lt_or_ge p all.length with h' | h'
    · rw [hkeep p h'] at hp; exact .inl hp
    · have hb := (List.getElem?_eq_some_iff.1 hp).1
      rw [List.length_append] at hb
      simp only [List.length_cons, List.length_nil] at hb
      obtain rfl : p = all.length := by omega
      rw [hlast] at hp
      injection hp with hp
      exact .inr ⟨rfl, hp.symm⟩
  have hnew : ∀ (p : Nat) (y : Sn), all[p]? = some y → y.gone = false → y.id ≠ x.id := by
    intro p y hp hg e
    rcases h.mem p y hp hg with ⟨z, hz, e'⟩ | ⟨z, hz, e'⟩
    · exact hasL_no hl hz (e'.trans e)
    · exact hasD_no hd hz (e'.trans e)
  refine ⟨⟨P ++ [all.length], (hP.keep fun p hp => hkeep p (hP.bnd hp)).snoc hlast rfl rfl rfl fun p hp => hP.bnd hp⟩, fun p y hp hg => ?_, fun p p' y y' hp hp' hg hg' e => ?_, h.len, h.told, fun y hy h1 => ?_, fun y hy => ?_⟩
  · rcases hcase p y hp with hp | ⟨-, rfl⟩
    · rcases h.mem p y hp hg with ⟨z, hz, e'⟩ | h'
      · exact .inl ⟨z, List.mem_append_left _ hz, e'⟩
      · exact .inr h'
    · exact .inl ⟨_, List.mem_append_right _ (List.mem_singleton.2 rfl), rfl⟩
  · rcases hcase p y hp with hp | ⟨h1, h2⟩ <;> rcases hcase p' y' hp' with hp' | ⟨h3, h4⟩
    · exact h.one p p' y y' hp hp' hg hg' e
    · subst h4
      exact absurd e (hnew p y hp hg)
    · subst h2
      exact absurd e.symm (hnew p' y' hp' hg')
    · omega
  · rcases List.mem_append.1 hy with hy | hy
    · exact h.rc y hy h1
    · rw [List.mem_singleton] at hy
      subst hy
      simp at h1
  · rcases List.mem_append.1 hy with hy | hy
    · exact h.ids y hy
    · rw [List.mem_singleton] at hy
      subst hy
      exact chk_id hc
theorem OrI.ret {rc : ByteArray} {v : Int} (h : OrI s all T I) : OrI (retS s rc v) all T I := by
  unfold retS
  split
  · obtain ⟨P, hP⟩ := h.emb
    have hids : (s.l.modify (fndS s.now s.l rc).1.toNat (En.back v)).map (fun x => (x.ev.id, x.ev.key)) = s.l.map fun x => (x.ev.id, x.ev.key) := modify_map (f := En.back v) (g := fun x => (x.ev.id, x.ev.key)) (fun _ => rfl) _ _
    refine ⟨⟨P, hP.map hids⟩, fun p y hp hg => ?_, h.one, h.len, h.told, fun y hy h1 => ?_, fun y hy => ?_⟩
    · rcases h.mem p y hp hg with ⟨x, hx, e⟩ | h'
      · left
        obtain ⟨j, hj⟩ := List.getElem?_of_mem hx
        have h2 : ((s.l.modify (fndS s.now s.l rc).1.toNat (En.back v)).map (fun x => (x.ev.id, x.ev.key)))[j]? = some (x.ev.id, x.ev.key) := by rw [hids, List.getElem?_map, hj]; rfl
        rw [List.getElem?_map] at h2
        obtain ⟨z, hz, e2⟩ := Option.map_eq_some_iff.1 h2
        injection e2 with e2 _
        exact ⟨z, List.mem_of_getElem? hz, e2.trans e⟩
      · exact .inr h'
    · obtain ⟨x, hx, rfl | rfl⟩ := modify_mem hy
      · exact h.rc _ hx h1
      · exact h.rc x hx h1
    · obtain ⟨x, hx, rfl | rfl⟩ := modify_mem hy
      · exact h.ids _ hx
      · exact h.ids x hx
  · exact h
/-! ### a deletion -/
/-- While a receipt is looked for: nothing is marked yet, or the one event is. -/
def OrM (all : List Sn) (rc : ByteArray) (T : List ByteArray) (p : Nat) (y : Sn) (k : Nat) (allk : List Sn) : Prop :=
  (allk = all ∧ ∀ k' : Nat, k' < k → T[k']? ≠ some rc) ∨ allk = all.set p { y with gone := true }
/-- What a deletion finds. -/
structure OrD (all : List Sn) (rc : ByteArray) (T I : List ByteArray) (id : ByteArray) (p : Nat) (y : Sn) : Prop where
  yes : fnS all id = p
  at_ : all[p]? = some y
  no : fnS (all.set p { y with gone := true }) id = -1
  is : ∀ (k : Nat) (z : ByteArray), T[k]? = some rc → I[k]? = some z → z = id
  ex : ∃ k : Nat, T[k]? = some rc
theorem OrM.len {rc : ByteArray} {p k : Nat} {y : Sn} {allk : List Sn} (h : OrM all rc T p y k allk) : allk.length = all.length := by
  rcases h with ⟨rfl, _⟩ | rfl
  · rfl
  · rw [List.length_set]
theorem OrM.start {rc : ByteArray} {p : Nat} {y : Sn} : OrM all rc T p y 0 all := .inl ⟨rfl, fun k' h => by omega⟩
theorem OrM.skip {rc t : ByteArray} {p k : Nat} {y : Sn} {allk : List Sn} (h : OrM all rc T p y k allk) (ht : T[k]? = some t) (hne : t ≠ rc) : OrM all rc T p y (k + 1) allk := by
  rcases h with ⟨e, hn⟩ | h
  · refine .inl ⟨e, fun k' hk => ?_⟩
    rcases Nat.lt_or_ge k' k with h' | h'
    · exact hn k' h'
    · obtain rfl : k' = k := by omega
      rw [ht]
      intro e2
      injection e2 with e2
      exact hne e2
  · exact .inr h
theorem OrM.hit {rc id : ByteArray} {p k : Nat} {y : Sn} {allk : List Sn} (h : OrM all rc T p y k allk) (hD : OrD all rc T I id p y) : (fnS allk id = p ∧ allk[p]? = some y ∧ OrM all rc T p y (k + 1) (allk.set p { y with gone := true })) ∨ (fnS allk id = -1 ∧ OrM all rc T p y (k + 1) allk) := by
  rcases h with ⟨rfl, hn⟩ | rfl
  · exact .inl ⟨hD.yes, hD.at_, .inr rfl⟩
  · exact .inr ⟨hD.no, .inr rfl⟩
theorem OrM.done {rc id : ByteArray} {p : Nat} {y : Sn} {allk : List Sn} (h : OrM all rc T p y T.length allk) (hD : OrD all rc T I id p y) : allk = all.set p { y with gone := true } := by
  rcases h with ⟨_, hn⟩ | h
  · obtain ⟨k, hk⟩ := hD.ex
    exact absurd hk (hn k (List.getElem?_eq_some_iff.1 hk).1)
  · exact h
theorem OrI.del {rc : ByteArray} (h : OrI s all T I) (he : (fndS s.now s.l rc).2 = 0) :
    ∃ (id : ByteArray) (p : Nat) (y : Sn), OrD all rc T I id p y ∧ OrI (delS s rc) (all.set p { y with gone := true }) T I := by
  obtain ⟨i, x, e, hx, hrc, h1⟩ := fnd_rc he
  obtain ⟨P, hP⟩ := h.emb
  obtain ⟨p, y, a1, a2, a3, a4, a5⟩ := hP.at_ hx
  have hlt := (List.getElem?_eq_some_iff.1 a2).1
  have hxm := List.mem_of_getElem? hx
  have hset : ∀ (p' : Nat) (z : Sn), (all.set p { y with gone := true })[p']? = some z → (p' = p ∧ z.gone = true) ∨ (p' ≠ p ∧ all[p']? = some z) := by
    intro p' z hz
    by_cases hpp : p = p'
    · subst hpp
      rw [List.getElem?_set_self hlt] at hz
      injection hz with hz
      subst hz
      exact .inl ⟨rfl, rfl⟩
    · rw [List.getElem?_set_ne hpp] at hz
      exact .inr ⟨fun e => hpp e.symm, hz⟩
  refine ⟨x.ev.id, p, y, ⟨fnS_uniq a2 (onB_iff.2 ⟨a3, a5⟩) (fun j z hz hon => ?_), a2, fnS_none (fun j z hz => ?_), fun k z ht hz => ?_, ?_⟩, ?_⟩
  · obtain ⟨hz1, hz2⟩ := onB_iff.1 hon
    exact h.one j p z y hz a2 hz2 a5 (hz1.trans a3.symm)
  · cases hon : onB x.ev.id z with
    | false => rfl
    | true =>
      obtain ⟨hz1, hz2⟩ := onB_iff.1 hon
      rcases hset j z hz with ⟨-, hg⟩ | ⟨hne, hz'⟩
      · rw [hg] at hz2; cases hz2
      · exact absurd (h.one j p z y hz' a2 hz2 a5 (hz1.trans a3.symm)) hne
  · obtain ⟨n, ht', -, -, hid⟩ := h.told k rc z ht hz
    rw [hrc] at ht'
    exact (rcp_inj (h.ids x hxm) hid ht').symm
  · obtain ⟨k, hk, -⟩ := h.rc x hxm h1
    exact ⟨k, by rw [hk, hrc]⟩
  · unfold delS
    rw [if_pos he, e]
    simp only [Int.toNat_natCast]
    have hs := eraseIdx_sub s.l i
    obtain ⟨P', hPs, hP'⟩ := hP.sub hs
    have hne : ∀ z ∈ s.l.eraseIdx i, z.ev.id ≠ x.ev.id := by
      intro z hz e'
      obtain ⟨j, hj, hji⟩ := List.mem_eraseIdx_iff_getElem?.1 hz
      exact hj (h.ids_at hji hx e')
    refine ⟨⟨P', hP'.keep fun q hq => ?_⟩, fun q z hz hg => ?_, fun q q' z z' hz hz' hg hg' e' => ?_, h.len, h.told, fun z hz => h.rc z (hs.subset hz), fun z hz => h.ids z (hs.subset hz)⟩
    · refine List.getElem?_set_ne (fun e' => ?_)
      subst e'
      obtain ⟨j, hj⟩ := List.getElem?_of_mem hq
      obtain ⟨z, y', b1, b2, b3⟩ := hP'.back hj
      rw [a2] at b2
      injection b2 with b2
      subst b2
      exact hne z (List.mem_of_getElem? b1) (b3.symm.trans a3)
    · rcases hset q z hz with ⟨-, hg2⟩ | ⟨hqp, hz'⟩
      · rw [hg2] at hg; cases hg
      · rcases h.mem q z hz' hg with ⟨x', hx', e'⟩ | h'
        · left
          obtain ⟨j, hj⟩ := List.getElem?_of_mem hx'
          refine ⟨x', List.mem_eraseIdx_iff_getElem?.2 ⟨j, fun hji => ?_, hj⟩, e'⟩
          subst hji
          rw [hx] at hj
          injection hj with hj
          subst hj
          exact hqp (h.one q p z y hz' a2 hg a5 (e'.symm.trans a3.symm))
        · exact .inr h'
    · rcases hset q z hz with ⟨-, hg2⟩ | ⟨-, hz2⟩
      · rw [hg2] at hg; cases hg
      · rcases hset q' z' hz' with ⟨-, hg2⟩ | ⟨-, hz2'⟩
        · rw [hg2] at hg'; cases hg'
        · exact h.one q q' z z' hz2 hz2' hg hg' e'
end
end Go.Proofs.YtbofclohnmojmaaGreatDoor
