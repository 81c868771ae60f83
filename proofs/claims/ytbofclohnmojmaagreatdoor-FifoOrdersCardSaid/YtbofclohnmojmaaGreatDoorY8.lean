/- A full queue; a nil and a zero queue. -/
import Derived.Test.YtbofclohnmojmaaGreatDoorY7
import Derived.Laws.IdiomStrings
import Derived.WalkSmall
namespace Go.Proofs.YtbofclohnmojmaaGreatDoor
open Go.RowKit
open Go.Sort (grow)

/-! ### the examples' events -/
def idF (i : Nat) : ByteArray := ⟨#[UInt8.ofNat (97 + i / 16), UInt8.ofNat (97 + i % 16)]⟩
def enF (i : Nat) (A : Option Addr) (c : Nat) : En := ⟨{ evE (idF i) ⟨#[]⟩ A with cp := c }, 0, 0, false, i⟩
theorem idF_len (i : Nat) : (idF i).size = 2 := rfl
theorem u8_inj {a b : Nat} (ha : a < 256) (hb : b < 256) (h : UInt8.ofNat a = UInt8.ofNat b) : a = b := by
  have := congrArg UInt8.toNat h
  rw [UInt8.toNat_ofNat', UInt8.toNat_ofNat'] at this
  omega
theorem idF_inj {i j : Nat} (hi : i < 256) (hj : j < 256) (h : idF i = idF j) : i = j := by
  unfold idF at h
  injection h with h
  injection h with h
  injection h with h1 h
  injection h with h2 _
  have e1 := u8_inj (by omega) (by omega) h1
  have e2 := u8_inj (by omega) (by omega) h2
  omega
theorem idF_ids : ((List.range 256).all fun i => idL (idF i)) = true := by kernel_rfl
theorem idF_id {i : Nat} (h : i < 256) : idL (idF i) = true := List.all_eq_true.1 idF_ids i (List.mem_range.2 h)
theorem chkV_null : chkV [⟨1, 0, ⟨#[]⟩, 0⟩] = 0 := by kernel_rfl
theorem chkE_evE {id : ByteArray} (h : idL id = true) (A : Option Addr) : chkE (evE id ⟨#[]⟩ A) = 0 := by
  have hn : namesB (evE id ⟨#[]⟩ A) = true := by
    unfold namesB evE
    rw [h]
    kernel_rfl
  unfold chkE
  rw [hn, if_neg (by decide), if_neg (by show ¬ timeB 0 = false; decide)]
  exact chkV_null
theorem chkE_evK {id key : ByteArray} (h : idL id = true) (hk : idL key = true) (A : Option Addr) : chkE (evE id key A) = 0 := by
  have hn : namesB (evE id key A) = true := by
    unfold namesB evE optB
    rw [h, hk, Bool.or_true]
    kernel_rfl
  unfold chkE
  rw [hn, if_neg (by decide), if_neg (by show ¬ timeB 0 = false; decide)]
  exact chkV_null
theorem okC_null : okC ⟨1, 0, ⟨#[]⟩, 0⟩ := ⟨⟨by decide, by decide⟩, ⟨by decide, by decide⟩, by decide⟩
theorem evSz_evE {id key : ByteArray} (h : id.size ≤ 64) (hk : key.size ≤ 64) (A : Option Addr) (c : Nat) : evSz { evE id key A with cp := c } := by
  have d1 : (⟨#[116]⟩ : ByteArray).size ≤ 1048576 := by decide
  have d2 : (⟨#[115]⟩ : ByteArray).size ≤ 1048576 := by decide
  have d3 : (⟨#[]⟩ : ByteArray).size ≤ 1048576 := by decide
  have d4 : 1 ≤ 1048576 := by decide
  refine ⟨by show id.size ≤ _; omega, d1, d2, by show key.size ≤ _; omega, d3, d4, ?_⟩
  intro c hc
  have : c = ⟨1, 0, ⟨#[]⟩, 0⟩ := List.mem_singleton.1 hc
  subst this
  exact okC_null
theorem evB_evE {id key : ByteArray} (h : id.size ≤ 64) (hk : key.size ≤ 64) (A : Option Addr) (c : Nat) : evB { evE id key A with cp := c } := (evSz_evE h hk A c).big
/-- A queue of the first k events. -/
structure FullS (k : Nat) (s : QS) : Prop where
  v : s.v = 10
  r : s.r = 1
  now : s.now = 0
  arr : s.arr = k
  d : s.d = []
  len : s.l.length = k
  el : ∀ i x, s.l[i]? = some x → ∃ A c, x = enF i A c
theorem FullS.mem {k : Nat} {s : QS} (h : FullS k s) {x : En} (hx : x ∈ s.l) : ∃ i A c, i < k ∧ x = enF i A c := by
  obtain ⟨i, hi⟩ := List.getElem?_of_mem hx
  obtain ⟨A, c, e⟩ := h.el i x hi
  exact ⟨i, A, c, by rw [← h.len]; exact (List.getElem?_eq_some_iff.1 hi).1, e⟩
theorem FullS.ok {k : Nat} {s : QS} (h : FullS k s) (hk : k ≤ 256) : s.ok := by
  refine ⟨by rw [h.v]; decide, by rw [h.r]; decide, by rw [h.now]; decide, by rw [h.arr]; omega, by rw [h.len, h.d]; simpa using hk, ?_, ?_, ?_, ?_, ?_, ?_⟩
  · rw [List.pairwise_iff_getElem]
    intro i j hi hj hij
    obtain ⟨A, c, e⟩ := h.el i _ (List.getElem?_eq_getElem hi)
    obtain ⟨A', c', e'⟩ := h.el j _ (List.getElem?_eq_getElem hj)
    rw [e, e']
    show (i : Int) < j
    omega
  · intro x hx
    obtain ⟨i, A, c, hi, rfl⟩ := h.mem hx
    rw [h.arr]
    show (i : Int) < k
    omega
  · intro x hx
    obtain ⟨i, A, c, hi, rfl⟩ := h.mem hx
    have d1 : (0 : Int) ≤ 0 ∧ (0 : Int) ≤ 10 ∧ (0 : Int) ≤ 4294967296 := by decide
    exact ⟨d1.1, by first | exact d1.2.1 | exact d1.2.2⟩
  · intro x hx
    obtain ⟨i, A, c, hi, rfl⟩ := h.mem hx
    have d1 : (0 : Int) ≤ 0 ∧ (0 : Int) ≤ 10 ∧ (0 : Int) ≤ 4294967296 := by decide
    exact ⟨d1.1, by first | exact d1.2.1 | exact d1.2.2⟩
  · intro x hx
    obtain ⟨i, A, c, hi, rfl⟩ := h.mem hx
    exact evSz_evE (by rw [idF_len]; omega) (by decide) A c
  · intro e he
    rw [h.d] at he
    cases he
theorem FullS.none {k : Nat} {s : QS} (h : FullS k s) : s.l.filter (goneB 0 s.r) = [] := by
  rw [List.filter_eq_nil_iff]
  intro x hx
  obtain ⟨i, A, c, hi, rfl⟩ := h.mem hx
  rw [h.r]
  show ¬ (decide ((0 : Int) ≤ 0) && decide ((1 : Int) ≤ 0)) = true
  decide
theorem FullS.acc {k : Nat} {s s1 : QS} (h : FullS k s) (ha : AccR s 0 s1) : s1 = s := by
  obtain ⟨r, ⟨hp, -⟩, rfl⟩ := ha
  rw [h.none] at hp
  have hr := List.Perm.eq_nil hp
  subst hr
  have hf : s.l.filter (fun x => !goneB 0 s.r x) = s.l := by
    rw [List.filter_eq_self]
    intro x hx
    have := List.filter_eq_nil_iff.1 h.none x hx
    simpa using this
  unfold accS
  rw [hf]
  cases s
  have := h.now
  simp_all
theorem FullS.noD {k : Nat} {s : QS} (h : FullS k s) (id : ByteArray) : hasD s.d id = false := by rw [h.d]; rfl
theorem FullS.noL {k : Nat} {s : QS} (h : FullS k s) {id : ByteArray} (hid : ∀ i, i < k → idF i ≠ id) : hasL s.l id = false := by
  unfold hasL
  rw [List.any_eq_false]
  intro x hx he
  obtain ⟨i, A, c, hi, rfl⟩ := h.mem hx
  exact hid i hi ((eqS_iff _ _).1 he)
/-- One more. -/
theorem FullS.send {k : Nat} {s : QS} (h : FullS k s) (hk : k < 256) (A : Option Addr) : sndE s (evE (idF k) ⟨#[]⟩ A) = 0 := by
  have h1 := h.noL (id := idF k) (fun i hi e => by have := idF_inj (by omega) hk e; omega)
  unfold sndE
  rw [chkE_evE (idF_id hk), if_neg (by simp), show (evE (idF k) ⟨#[]⟩ A).id = idF k from rfl, h1, h.noD, if_neg (by decide), if_neg (by rw [h.len, h.d]; simp; omega)]
theorem FullS.step {k : Nat} {s : QS} (h : FullS k s) (hk : k < 256) (A Ay : Option Addr) (cy : Nat) : FullS (k + 1) (sndS s (evE (idF k) ⟨#[]⟩ A) 0 Ay cy) := by
  unfold sndS
  rw [if_pos (h.send hk A)]
  refine ⟨h.v, h.r, h.now, by show s.arr + 1 = _; rw [h.arr]; omega, h.d, by show (s.l ++ _).length = _; rw [List.length_append, h.len]; rfl, ?_⟩
  intro i x hx
  rcases Nat.lt_or_ge i s.l.length with hi | hi
  · rw [List.getElem?_append_left hi] at hx
    exact h.el i x hx
  · rw [List.getElem?_append_right hi] at hx
    have hi2 : i - s.l.length = 0 := by
      have := (List.getElem?_eq_some_iff.1 hx).1
      simp at this
      omega
    rw [hi2] at hx
    have e : i = k := by have := h.len; omega
    subst e
    refine ⟨Ay, cy, ?_⟩
    have := Option.some.inj hx
    rw [← this]
    show (⟨_, _, _, _, _⟩ : En) = ⟨_, _, _, _, _⟩
    rw [h.arr]
    rfl
theorem FullS.new : FullS 0 ⟨10, 1, 0, 0, [], []⟩ := ⟨rfl, rfl, rfl, rfl, rfl, rfl, fun i x hx => by simp at hx⟩
def idZ : ByteArray := ⟨#[122]⟩
def idA : ByteArray := ⟨#[97, 97]⟩
theorem FullS.z {s : QS} (h : FullS 256 s) (A : Option Addr) : sndE s (evE idZ ⟨#[]⟩ A) = 3 := by
  have h1 := h.noL (id := idZ) (fun i hi e => by have := congrArg ByteArray.size e; rw [idF_len] at this; exact absurd this (by decide))
  unfold sndE
  rw [chkE_evE (by kernel_rfl), if_neg (by simp), show (evE idZ ⟨#[]⟩ A).id = idZ from rfl, h1, h.noD, if_neg (by decide), if_pos (by rw [h.len, h.d]; decide)]
theorem FullS.aa {s : QS} (h : FullS 256 s) (A : Option Addr) : sndE s (evE idA ⟨#[]⟩ A) = 6 := by
  have h1 : hasL s.l idA = true := by
    obtain ⟨x, hx⟩ : ∃ x, s.l[0]? = some x := ⟨_, List.getElem?_eq_getElem (by rw [h.len]; decide)⟩
    obtain ⟨A, c, rfl⟩ := h.el 0 x hx
    unfold hasL
    rw [List.any_eq_true]
    exact ⟨_, List.mem_of_getElem? hx, (eqS_iff _ _).2 (by kernel_rfl)⟩
  unfold sndE
  rw [chkE_evE (by kernel_rfl), if_neg (by simp), show (evE idA ⟨#[]⟩ A).id = idA from rfl, h1, Bool.or_true, if_pos rfl]
end Go.Proofs.YtbofclohnmojmaaGreatDoor
namespace Go.Proofs.YtbofclohnmojmaaGreatDoor
open Go.RowKit
open Go.Sort (grow)

theorem rcvGo_at {now v : Int} : ∀ (is : List Nat) (l : List En), is.Nodup → (∀ i ∈ is, i < l.length) → ∀ k : Nat, (rcvGo now v is l).2[k]? = (l[k]?).map fun x => if k ∈ is then x.got now v else x
  | [], l, _, _, k => by simp [rcvGo]
  | i :: is, l, hn, hl, k => by
    obtain ⟨x, hx⟩ : ∃ x, l[i]? = some x := ⟨_, List.getElem?_eq_getElem (hl i (List.mem_cons_self ..))⟩
    have hni : i ∉ is := (List.nodup_cons.1 hn).1
    rw [rcvGo_cons hx]
    show (rcvGo now v is (l.set i (x.got now v))).2[k]? = _
    rw [rcvGo_at is _ (List.nodup_cons.1 hn).2 (fun j hj => by rw [List.length_set]; exact hl j (List.mem_cons_of_mem _ hj)) k]
    by_cases hk : i = k
    · subst hk
      rw [List.getElem?_set_self (hl i (List.mem_cons_self ..)), hx]
      simp [hni]
    · rw [List.getElem?_set_ne hk]
      have hm : k ∈ i :: is ↔ k ∈ is := by simp [List.mem_cons, show k ≠ i from fun e => hk e.symm]
      simp only [hm]
theorem rcvGo_len {now v : Int} : ∀ (is : List Nat) (l : List En), (∀ i ∈ is, i < l.length) → (rcvGo now v is l).1.length = is.length ∧ (rcvGo now v is l).2.length = l.length
  | [], l, _ => ⟨rfl, rfl⟩
  | i :: is, l, hl => by
    obtain ⟨x, hx⟩ : ∃ x, l[i]? = some x := ⟨_, List.getElem?_eq_getElem (hl i (List.mem_cons_self ..))⟩
    have h := rcvGo_len (now := now) (v := v) is (l.set i (x.got now v)) (fun j hj => by rw [List.length_set]; exact hl j (List.mem_cons_of_mem _ hj))
    rw [rcvGo_cons hx]
    exact ⟨by show (_ :: _).length = _; rw [List.length_cons, List.length_cons, h.1], by show (rcvGo now v is (l.set i (x.got now v))).2.length = _; rw [h.2, List.length_set]⟩
theorem rdy_mem {now : Int} {l : List En} {n i : Nat} (h : i ∈ rdyL now l n) : i < n ∧ rdyB now l i = true := by
  unfold rdyL at h
  obtain ⟨h1, h2⟩ := List.mem_filter.1 h
  exact ⟨List.mem_range.1 h1, h2⟩
theorem rdy_nodup (now : Int) (l : List En) (n : Nat) : (rdyL now l n).Nodup := by
  unfold rdyL
  exact List.nodup_range.sublist List.filter_sublist
theorem take_nodup (now : Int) (l : List En) (most : Int) : (takeI now l most).Nodup := by
  unfold takeI
  exact (rdy_nodup now l _).sublist (List.take_sublist _ _)
theorem take_mem {now : Int} {l : List En} {most : Int} {i : Nat} (h : i ∈ takeI now l most) : i < l.length ∧ rdyB now l i = true := rdy_mem (List.mem_of_mem_take h)
theorem rdyB_vis {now : Int} {l : List En} {i : Nat} {x : En} (h : rdyB now l i = true) (hx : l[i]? = some x) : x.vis ≤ now := by
  unfold rdyB at h
  rw [hx] at h
  simp only [Bool.and_eq_true, decide_eq_true_eq] at h
  exact h.2
/-- The entries behind Receive. -/
theorem rcvS_at (s : QS) (most : Int) (k : Nat) : (rcvS s most).l[k]? = (s.l[k]?).map fun x => if k ∈ takeI s.now s.l most then x.got s.now s.v else x :=
  rcvGo_at _ _ (take_nodup _ _ _) (fun _ hi => (take_mem hi).1) k
theorem rcvS_len (s : QS) (most : Int) : (rcvS s most).l.length = s.l.length := (rcvGo_len _ _ (fun _ hi => (take_mem hi).1)).2
theorem rcvD_len (s : QS) (most : Int) : (rcvD s most).length = (takeI s.now s.l most).length := (rcvGo_len _ _ (fun _ hi => (take_mem hi).1)).1
theorem rcvS_mem {s : QS} {most : Int} {y : En} (h : y ∈ (rcvS s most).l) : ∃ x ∈ s.l, y = x ∨ (x.vis ≤ s.now ∧ y = x.got s.now s.v) := by
  obtain ⟨k, hk⟩ := List.getElem?_of_mem h
  rw [rcvS_at] at hk
  obtain ⟨x, hx, e⟩ := Option.map_eq_some_iff.1 hk
  refine ⟨x, List.mem_of_getElem? hx, ?_⟩
  by_cases hm : k ∈ takeI s.now s.l most
  · rw [if_pos hm] at e
    exact .inr ⟨rdyB_vis (take_mem hm).2 hx, e.symm⟩
  · rw [if_neg hm] at e
    exact .inl e.symm
theorem AccR.stay {s s1 : QS} {now : Int} (h : AccR s now s1) : s1.now = now ∧ s1.v = s.v ∧ s1.r = s.r ∧ s1.arr = s.arr ∧ ∀ x ∈ s1.l, goneB now s.r x = false := by
  obtain ⟨r, hr, rfl⟩ := h
  refine ⟨rfl, rfl, rfl, rfl, fun x hx => ?_⟩
  have := (List.mem_filter.1 hx).2
  simpa using this
theorem got_arr (x : En) (now v : Int) : (x.got now v).arr = x.arr := rfl
theorem rcvS_ok {s s1 : QS} {now most : Int} (ha : AccR s now s1) (hok : s1.ok) (hn : 0 ≤ now ∧ now ≤ 1073741824) : (rcvS s1 most).ok := by
  obtain ⟨e1, e2, e3, e4, hg⟩ := ha.stay
  refine ⟨hok.v, hok.r, hok.now, hok.arr, by rw [rcvS_len]; exact hok.len, ?_, ?_, ?_, ?_, ?_, hok.dels⟩
  · rw [List.pairwise_iff_getElem]
    intro i j hi hj hij
    have hi' : i < s1.l.length := by rw [rcvS_len] at hi; exact hi
    have hj' : j < s1.l.length := by rw [rcvS_len] at hj; exact hj
    have h1 := rcvS_at s1 most i
    have h2 := rcvS_at s1 most j
    rw [List.getElem?_eq_getElem hi, List.getElem?_eq_getElem hi'] at h1
    rw [List.getElem?_eq_getElem hj, List.getElem?_eq_getElem hj'] at h2
    have a1 : ((rcvS s1 most).l[i]).arr = s1.l[i].arr := by
      rw [Option.some.inj h1]
      split <;> rfl
    have a2 : ((rcvS s1 most).l[j]).arr = s1.l[j].arr := by
      rw [Option.some.inj h2]
      split <;> rfl
    rw [a1, a2]
    exact List.pairwise_iff_getElem.1 hok.ord i j hi' hj' hij
  · intro y hy
    obtain ⟨x, hx, rfl | ⟨-, rfl⟩⟩ := rcvS_mem hy
    · exact hok.arrs _ hx
    · exact hok.arrs x hx
  · intro y hy
    obtain ⟨x, hx, rfl | ⟨hv, rfl⟩⟩ := rcvS_mem hy
    · exact hok.rcv _ hx
    · have h1 := hok.rcv x hx
      have h2 := hg x hx
      have h3 := hok.r
      rw [e1] at hv
      unfold goneB at h2
      rw [decide_eq_true hv, Bool.true_and] at h2
      have h4 := of_decide_eq_false h2
      rw [← e3] at h4
      show 0 ≤ x.rcv + 1 ∧ x.rcv + 1 ≤ 10
      omega
  · intro y hy
    obtain ⟨x, hx, rfl | ⟨hv, rfl⟩⟩ := rcvS_mem hy
    · exact hok.vis _ hx
    · have h1 := hok.now
      have h2 := hok.v
      show 0 ≤ s1.now + s1.v ∧ s1.now + s1.v ≤ 4294967296
      omega
  · intro y hy
    obtain ⟨x, hx, rfl | ⟨hv, rfl⟩⟩ := rcvS_mem hy
    · exact hok.els _ hx
    · exact hok.els x hx
end Go.Proofs.YtbofclohnmojmaaGreatDoor
namespace Go.Proofs.YtbofclohnmojmaaGreatDoor
open Go.RowKit
open Go.Sort (grow)

structure FullR (s : QS) : Prop where
  v : s.v = 10
  r : s.r = 1
  now : s.now = 1
  arr : s.arr = 256
  d : s.d = []
  len : s.l.length = 256
  el0 : ∃ A c, s.l[0]? = some ((enF 0 A c).got 1 10)
  el : ∀ i x, 0 < i → s.l[i]? = some x → ∃ A c, x = enF i A c
theorem FullS.acc1 {k : Nat} {s s1 : QS} (h : FullS k s) (ha : AccR s 1 s1) : s1 = { s with now := 1 } := by
  obtain ⟨r, ⟨hp, -⟩, rfl⟩ := ha
  have hno : s.l.filter (goneB 1 s.r) = [] := by
    rw [List.filter_eq_nil_iff]
    intro x hx
    obtain ⟨i, A, c, hi, rfl⟩ := h.mem hx
    rw [h.r]
    show ¬ (decide ((0 : Int) ≤ 1) && decide ((1 : Int) ≤ 0)) = true
    decide
  rw [hno] at hp
  have hr := List.Perm.eq_nil hp
  subst hr
  have hf : s.l.filter (fun x => !goneB 1 s.r x) = s.l := by
    rw [List.filter_eq_self]
    intro x hx
    have := List.filter_eq_nil_iff.1 hno x hx
    simpa using this
  unfold accS
  rw [hf]
  simp
theorem full_take {s : QS} (h : FullS 256 s) : takeI 1 s.l 1 = [0] := by
  obtain ⟨x, hx⟩ : ∃ x, s.l[0]? = some x := ⟨_, List.getElem?_eq_getElem (by rw [h.len]; decide)⟩
  obtain ⟨A, c, rfl⟩ := h.el 0 x hx
  have h0 : rdyB 1 s.l 0 = true := by
    unfold rdyB keyAt
    rw [hx]
    simp [enF]
  unfold takeI rdyL
  rw [h.len, show (256 : Nat) = 255 + 1 from rfl, List.range_succ_eq_map, List.filter_cons_of_pos h0]
  rfl
theorem full_rcv {s s1 : QS} (h : FullS 256 s) (ha : AccR s 1 s1) : (rcvD s1 1).length = 1 ∧ FullR (rcvS s1 1) := by
  have e := h.acc1 ha
  have ht := full_take h
  have hl : s1.l = s.l := by rw [e]
  have hnow : s1.now = 1 := by rw [e]
  have hv : s1.v = 10 := by rw [e]; exact h.v
  have hat := rcvS_at s1 1
  rw [hnow, hl, ht, hv] at hat
  refine ⟨by rw [rcvD_len, hnow, hl, ht]; rfl, hv, by show s1.r = 1; rw [e]; exact h.r, hnow, by show s1.arr = 256; rw [e]; exact h.arr, by show s1.d = []; rw [e]; exact h.d, by rw [rcvS_len, hl]; exact h.len, ?_, ?_⟩
  · obtain ⟨x, hx⟩ : ∃ x, s.l[0]? = some x := ⟨_, List.getElem?_eq_getElem (by rw [h.len]; decide)⟩
    obtain ⟨A, c, rfl⟩ := h.el 0 x hx
    refine ⟨A, c, ?_⟩
    rw [hat 0, hx]
    simp
  · intro i y hi hy
    rw [hat i] at hy
    obtain ⟨x, hx, e2⟩ := Option.map_eq_some_iff.1 hy
    rw [if_neg (by simp; omega)] at e2
    subst e2
    exact h.el i _ hx
theorem FullR.last {s s1 : QS} (h : FullR s) (ha : AccR s 20 s1) (A : Option Addr) : sndE s1 (evE idZ ⟨#[]⟩ A) = 3 ∧ s1.l.length = 255 ∧ s1.d.length = 1 := by
  obtain ⟨A0, c0, h0⟩ := h.el0
  obtain ⟨x0, rest, hs⟩ : ∃ x0 rest, s.l = x0 :: rest := by
    cases hl : s.l with
    | nil => rw [hl] at h0; cases h0
    | cons a b => exact ⟨a, b, rfl⟩
  have e0 : x0 = (enF 0 A0 c0).got 1 10 := by rw [hs] at h0; exact Option.some.inj h0
  have hlr : rest.length = 255 := by have := h.len; rw [hs, List.length_cons] at this; omega
  have hrest : ∀ x ∈ rest, ∃ i A c, x = enF (i + 1) A c ∧ i < 255 := fun x hx => by
    obtain ⟨i, hi⟩ := List.getElem?_of_mem hx
    obtain ⟨A, c, e⟩ := h.el (i + 1) x (by omega) (by rw [hs, List.getElem?_cons_succ]; exact hi)
    exact ⟨i, A, c, e, by rw [← hlr]; exact (List.getElem?_eq_some_iff.1 hi).1⟩
  have hg0 : goneB 20 s.r x0 = true := by
    rw [h.r, e0]
    show (decide ((1 : Int) + 10 ≤ 20) && decide ((1 : Int) ≤ 0 + 1)) = true
    decide
  have hgr : ∀ x ∈ rest, goneB 20 s.r x = false := fun x hx => by
    obtain ⟨i, A, c, rfl, -⟩ := hrest x hx
    rw [h.r]
    show (decide ((0 : Int) ≤ 20) && decide ((1 : Int) ≤ 0)) = false
    decide
  have hf1 : s.l.filter (goneB 20 s.r) = [x0] := by
    rw [hs, List.filter_cons_of_pos hg0, List.filter_eq_nil_iff.2 (fun x hx => by rw [hgr x hx]; decide)]
  have hf2 : s.l.filter (fun x => !goneB 20 s.r x) = rest := by
    rw [hs, List.filter_cons_of_neg (by rw [hg0]; decide), List.filter_eq_self.2 (fun x hx => by rw [hgr x hx]; rfl)]
  obtain ⟨r, ⟨hp, -⟩, rfl⟩ := ha
  rw [hf1] at hp
  have hr := List.perm_singleton.1 hp
  subst hr
  have hD : (accS s 20 [x0]).d = [x0.ev] := by unfold accS; rw [h.d]; rfl
  have hL : (accS s 20 [x0]).l = rest := hf2
  have hn : ∀ i, i < 256 → eqS (idF i) idZ = false := fun i _ => by
    cases he : eqS (idF i) idZ with
    | false => rfl
    | true =>
      have := congrArg ByteArray.size ((eqS_iff _ _).1 he)
      rw [idF_len] at this
      exact absurd this (by decide)
  have k1 : hasD (accS s 20 [x0]).d idZ = false := by
    rw [hD, e0]
    unfold hasD
    rw [List.any_cons, List.any_nil, Bool.or_false]
    exact hn 0 (by decide)
  have k2 : hasL (accS s 20 [x0]).l idZ = false := by
    rw [hL]
    unfold hasL
    rw [List.any_eq_false]
    intro x hx
    obtain ⟨i, A, c, rfl, hi⟩ := hrest x hx
    have := hn (i + 1) (by omega)
    intro he
    exact absurd (this.symm.trans he) (by decide)
  refine ⟨?_, by rw [hL]; exact hlr, by rw [hD]; rfl⟩
  unfold sndE
  rw [chkE_evE (by kernel_rfl), if_neg (by simp), show (evE idZ ⟨#[]⟩ A).id = idZ from rfl, k1, k2, if_neg (by decide), if_pos (by rw [hL, hD, hlr]; show 256 ≤ 255 + 1; decide)]
end Go.Proofs.YtbofclohnmojmaaGreatDoor
namespace Go.Proofs.YtbofclohnmojmaaGreatDoor
open Go.RowKit
open Go.Sort (grow)

theorem cv_F (wr : World) (k : Nat) (hk : k < 256) : (convert 86 9 (.slice (some ⟨wr.heap.size, 0, none⟩) 2 2)).run Tryz.prog (wr.alloc (.cells #[.int .u8 (97 + (k : Int) / 16), .int .u8 (97 + (k : Int) % 16)] 5)) = .ok (.string (idF k)) (wr.alloc (.cells #[.int .u8 (97 + (k : Int) / 16), .int .u8 (97 + (k : Int) % 16)] 5)) := by
  refine run_convert_bytes_back (P := Tryz.prog) _ 86 9 5 ⟨wr.heap.size, 0, none⟩ 2 [UInt8.ofNat (97 + k / 16), UInt8.ofNat (97 + k % 16)] Tryz.underlying86 Tryz.underlying5 Tryz.underlying9 (fun j hj => ?_)
  refine cells_new_at (w := wr) (cs := [.int .u8 (97 + (k : Int) / 16), .int .u8 (97 + (k : Int) % 16)]) (e := 5) rfl j _ ?_
  have e1 : (97 + (k : Int) / 16) = ((UInt8.ofNat (97 + k / 16)).toNat : Int) := by rw [UInt8.toNat_ofNat']; omega
  have e2 : (97 + (k : Int) % 16) = ((UInt8.ofNat (97 + k % 16)).toNat : Int) := by rw [UInt8.toNat_ofNat']; omega
  rw [e1, e2]
  match j, hj with
  | 0, _ => rfl
  | 1, _ => rfl
def FulRel (w : World) (q : Nat) (v3 : Value) (wr : World) : Prop := ∃ (k : Nat) (s : QS) (A : Option Addr) (c : Nat) (A' : Option Addr) (c' : Nat), k ≤ 256 ∧ v3 = .int .i64 k ∧ FullS k s ∧ FQ wr w.heap.size q A c A' c' s ∧ Below w.heap.size w wr
set_option maxHeartbeats 16000000 in
set_option maxRecDepth 20000 in
theorem full_any (w : World) (hX : LaidB w w.heap.size) : Calls Tryz.prog 24 #[] w fun e w' => e = .returned (.bool true) ∧ Below w.heap.size w w' := by
  have HX := Lib.hid hX
  clear hX
  go_enter Tryz.func24, Tryz.ntmps24
  go_wp2_with fail
  refine (New_any 10 1 _).mono ?_
  rintro e w1 ⟨hb1, (⟨hne, -⟩ | ⟨-, q, rfl, hq⟩)⟩
  · exact absurd (by decide) hne
  have HB1 := Lib.hid hb1
  have HQ1 := Lib.hid hq
  clear hb1 hq
  go_wp2_with fail
  go_loopw [3] (fun v3 wr => FulRel w q v3 wr) (fun v3 _ => 256 - (intOf v3).toNat)
  case atStart => exact ⟨0, _, _, _, _, _, Nat.zero_le _, rfl, FullS.new, HQ1.out, HB1.out⟩
  case round =>
    obtain ⟨k, s, A, c, A', c', hk, rfl, hs, hq, hb⟩ := hrel
    have HS := Lib.hid hs
    have HQ := Lib.hid hq
    have HB := Lib.hid hb
    clear hs hq hb
    by_cases hlt : k < 256
    · have hki : (k : Int) < 256 := by omega
      have hk0 : (0 : Int) ≤ k := by omega
      have hcv := cv_F wr k hlt
      have HST := Lib.hid (fun A Ay cy => HS.out.step hlt A Ay cy)
      have HSE := Lib.hid (fun A => HS.out.send hlt A)
      have HK1 := Lib.hid (show k + 1 ≤ 256 from hlt)
      have HKW := Lib.hid (w64 (x := (k : Int) + 1) (by omega) (by omega))
      have HAR := Lib.hid (show s.arr < 1000000 by rw [HS.out.arr]; omega)
      have HOK := Lib.hid (HS.out.ok (by omega))
      have HNW := Lib.hid HS.out.now
      go_wp2_with fail
      refine (event_any (idF k) ⟨#[]⟩ _).mono ?_
      rintro e w2 ⟨Ae, rfl, hin, hb2⟩
      have hb2' := (al_new wr (.cells #[.int .u8 (97 + (k : Int) / 16), .int .u8 (97 + (k : Int) % 16)] 5)).trans (hb2.mono (by simp))
      have HQ2 := Lib.hid (HQ.out.below hb2')
      have HB2 := Lib.hid (HB.out.trans (hb2'.mono HB.out.size))
      have HIN := Lib.hid hin
      have HX2 := Lib.hid (HX.out.on HB2.out)
      have hz2 : w.heap.size ≤ w2.heap.size := HB2.out.size
      clear hcv hin hb2 hb2'
      go_wp2_with fail
      refine (Send_gen hz2 HQ2.out HOK.out HAR.out (evE (idF k) ⟨#[]⟩ Ae) (HIN.out.stay HQ2.out) (evB_evE (by show 2 ≤ 64; decide) (by decide) Ae 1) 0 HX2.out).mono ?_
      rintro e w3 (⟨hc, -⟩ | ⟨-, s1, Ay, cy, hacc, rfl, A2, c2, A3, c3, hq3, hch, -⟩)
      · exact absurd (by rw [HNW.out]; decide) hc
      have hs1 := HS.out.acc hacc
      subst hs1
      have HQ3 := Lib.hid hq3
      have HB3 := Lib.hid (HB2.out.trans (hch.toBelow (B := w.heap.size) (fun j hj => (HQ2.out.foot_lt j hj).1) hz2))
      rw [HSE.out]
      obtain ⟨wk1, wk2⟩ := HKW.out
      clear hq3 hch hacc
      go_wp2_with fail
      clear wk1 wk2
      go_roundw
      case rel => exact ⟨k + 1, _, _, _, _, _, HK1.out, by first | rfl | go_num, HST.out _ _ _, HQ3.out, HB3.out⟩
      case measure => exact meas_lt hlt
    · obtain rfl : k = 256 := by omega
      have HOK := Lib.hid (HS.out.ok (Nat.le_refl _))
      have HAR := Lib.hid (show s.arr < 1000000 by rw [HS.out.arr]; omega)
      have HNW := Lib.hid HS.out.now
      go_wp2_with fail
      refine (event_any idZ ⟨#[]⟩ _).mono ?_
      rintro e w2 ⟨Aw2, rfl, hin, hb2⟩
      have HQw2 := Lib.hid (HQ.out.below hb2)
      have HBw2 := Lib.hid (HB.out.trans (hb2.mono HB.out.size))
      have HINw2 := Lib.hid (EvQ.stay HQw2.out hin)
      have HXw2 := Lib.hid (HX.out.on HBw2.out)
      have hzw2 : w.heap.size ≤ w2.heap.size := HBw2.out.size
      clear hin hb2
      go_wp2_with fail
      refine (Send_gen hzw2 HQw2.out HOK.out HAR.out (evE idZ ⟨#[]⟩ Aw2) HINw2.out (evB_evE (by show ByteArray.size idZ ≤ 64; decide) (by decide) Aw2 1) 0 HXw2.out).mono ?_
      rintro e w3 (⟨hc, -⟩ | ⟨-, s1, Ay, cy, hacc, rfl, A2, c2, A3, c3, hq3, hch, -⟩)
      · exact absurd (by rw [HNW.out]; decide) hc
      obtain rfl := (HS.out.acc hacc).symm
      have hE := HS.out.z Aw2
      have hst : ∀ Ay cy, sndS s (evE idZ ⟨#[]⟩ Aw2) 0 Ay cy = s := fun Ay cy => by unfold sndS; rw [hE, if_neg (by decide)]
      rw [hst] at hq3
      rw [hE]
      clear hE hst
      have HQw3 := Lib.hid hq3
      have HBw3 := Lib.hid (HBw2.out.trans (hch.toBelow (B := w.heap.size) (fun j hj => (HQw2.out.foot_lt j hj).1) hzw2))
      have hzw3 : w.heap.size ≤ w3.heap.size := HBw3.out.size
      clear hq3 hch hacc
      go_wp2_with fail
      refine (event_any idA ⟨#[]⟩ _).mono ?_
      rintro e w4 ⟨Aw4, rfl, hin, hb2⟩
      have HQw4 := Lib.hid (HQw3.out.below hb2)
      have HBw4 := Lib.hid (HBw3.out.trans (hb2.mono HBw3.out.size))
      have HINw4 := Lib.hid (EvQ.stay HQw4.out hin)
      have HXw4 := Lib.hid (HX.out.on HBw4.out)
      have hzw4 : w.heap.size ≤ w4.heap.size := HBw4.out.size
      clear hin hb2
      go_wp2_with fail
      refine (Send_gen hzw4 HQw4.out HOK.out HAR.out (evE idA ⟨#[]⟩ Aw4) HINw4.out (evB_evE (by show ByteArray.size idA ≤ 64; decide) (by decide) Aw4 1) 0 HXw4.out).mono ?_
      rintro e w5 (⟨hc, -⟩ | ⟨-, s1, Ay, cy, hacc, rfl, A2, c2, A3, c3, hq3, hch, -⟩)
      · exact absurd (by rw [HNW.out]; decide) hc
      obtain rfl := (HS.out.acc hacc).symm
      have hE := HS.out.aa Aw4
      have hst : ∀ Ay cy, sndS s (evE idA ⟨#[]⟩ Aw4) 0 Ay cy = s := fun Ay cy => by unfold sndS; rw [hE, if_neg (by decide)]
      rw [hst] at hq3
      rw [hE]
      clear hE hst
      have HQw5 := Lib.hid hq3
      have HBw5 := Lib.hid (HBw4.out.trans (hch.toBelow (B := w.heap.size) (fun j hj => (HQw4.out.foot_lt j hj).1) hzw4))
      have hzw5 : w.heap.size ≤ w5.heap.size := HBw5.out.size
      clear hq3 hch hacc
      go_wp2_with fail
      refine (Receive_any hzw5 HQw5.out HOK.out 1 1 (HX.out.on HBw5.out)).mono ?_
      rintro e w6 (⟨hc, -⟩ | ⟨-, s1, v, r, hacc, rfl, hown, hcore, -, A6, c6, A7, c7, hq6, hch, -⟩)
      · exact absurd (by rw [HNW.out]; decide) hc
      have hFR := full_rcv HS.out hacc
      have hok6 := rcvS_ok (most := 1) hacc (hacc.ok HOK.out (by decide)) (by decide)
      have hr1 : r.length = 1 := by have := congrArg List.length hcore; rw [List.length_map, List.length_map, hFR.1] at this; exact this
      have HQw6 := Lib.hid hq6
      have HBw6 := Lib.hid (HBw5.out.trans (hch.toBelow (B := w.heap.size) (fun j hj => (HQw5.out.foot_lt j hj).1) hzw5))
      have HFR := Lib.hid hFR.2
      have HOK6 := Lib.hid hok6
      obtain ⟨Ad, cd, rfl⟩ := own_slice hown
      rw [hr1]
      clear hq6 hch hacc hcore hown hFR hok6 hr1
      generalize rcvS s1 1 = s6 at *
      have HAR6 := Lib.hid (show s6.arr < 1000000 by rw [HFR.out.arr]; decide)
      have HNW6 := Lib.hid HFR.out.now
      go_wp2_with fail
      refine (event_any idZ ⟨#[]⟩ _).mono ?_
      rintro e w7 ⟨Aw7, rfl, hin, hb2⟩
      have HQw7 := Lib.hid (HQw6.out.below hb2)
      have HBw7 := Lib.hid (HBw6.out.trans (hb2.mono HBw6.out.size))
      have HINw7 := Lib.hid (EvQ.stay HQw7.out hin)
      have HXw7 := Lib.hid (HX.out.on HBw7.out)
      have hzw7 : w.heap.size ≤ w7.heap.size := HBw7.out.size
      clear hin hb2
      go_wp2_with fail
      refine (Send_gen hzw7 HQw7.out HOK6.out HAR6.out (evE idZ ⟨#[]⟩ Aw7) HINw7.out (evB_evE (by show ByteArray.size idZ ≤ 64; decide) (by decide) Aw7 1) 20 HXw7.out).mono ?_
      rintro e w8 (⟨hc, -⟩ | ⟨-, s1, Ay, cy, hacc, rfl, A2, c2, A3, c3, hq3, hch, -⟩)
      · exact absurd (by rw [HNW6.out]; decide) hc
      obtain ⟨hE, hl8, hd8⟩ := HFR.out.last hacc Aw7
      have hst : ∀ Ay cy, sndS s1 (evE idZ ⟨#[]⟩ Aw7) 20 Ay cy = s1 := fun Ay cy => by unfold sndS; rw [hE, if_neg (by decide)]
      rw [hst] at hq3
      rw [hE]
      have HOK8 := Lib.hid (hacc.ok HOK6.out (by decide))
      have HL8 := Lib.hid hl8
      have HD8 := Lib.hid hd8
      clear hE hst hl8 hd8
      have HQw8 := Lib.hid hq3
      have HBw8 := Lib.hid (HBw7.out.trans (hch.toBelow (B := w.heap.size) (fun j hj => (HQw7.out.foot_lt j hj).1) hzw7))
      have hzw8 : w.heap.size ≤ w8.heap.size := HBw8.out.size
      clear hq3 hch hacc
      have hr8 : 0 < s1.r := by have := HOK8.out.r; omega
      go_wp2_with fail
      refine (Len_any HQw8.out hr8).mono ?_
      rintro e wq ⟨rfl, hq⟩
      obtain rfl := hq.symm
      rw [HL8.out]
      go_wp2_with fail
      refine (Dead_any HQw8.out hr8 (by rw [HD8.out]; decide) (fun e he => (HOK8.out.dels e he).2.2.2.2.2.1)).mono ?_
      rintro e w9 ⟨v9, r9, rfl, hown, hcore, -, hb9⟩
      have hr9 : r9.length = 1 := by have := congrArg List.length hcore; rw [List.length_map, List.length_map, HD8.out] at this; exact this
      obtain ⟨A9, c9, rfl⟩ := own_slice hown
      rw [hr9]
      have HBw9 := Lib.hid (HBw8.out.trans (hb9.mono hzw8))
      clear hown hcore hb9 hr9
      go_wp2_with fail
      go_ret
      exact ⟨rfl, HBw9.out⟩
end Go.Proofs.YtbofclohnmojmaaGreatDoor
namespace Go.Proofs.YtbofclohnmojmaaGreatDoor
open Go.RowKit
open Go.Sort (grow)

section
variable {w : World} {B : Nat} {v t : Value} {T : List ByteArray}
theorem clOn_at (x : Cl) (w : World) {w' : World} (hb : Below (x.at_ w).heap.size (x.at_ w) w') : ClOn x w.heap.size w' := by
  have b := (Blk.new w 42 #[.int .i64 x.k, .string x.e.id, .string x.e.tn, .string x.e.src, .string x.e.key, .int .i64 x.e.at_, .string x.e.cause, .slice x.e.A x.e.body.length x.e.cp, .string x.s, .int .i64 x.now, .int .i64 x.n]).on hb
  exact ⟨b.cell 9, b.cell 10⟩
theorem callN_any (hv : NoQ w v) (x : Cl) (hT : OwnS w B t T) (hl : T.length ≤ 9223372036854775807) :
    Calls Tryz.prog 11 #[v, .agg #[.int .i64 x.k, .string x.e.id, .string x.e.tn, .string x.e.src, .string x.e.key, .int .i64 x.e.at_, .string x.e.cause, .slice x.e.A x.e.body.length x.e.cp, .string x.s, .int .i64 x.now, .int .i64 x.n], t] w fun e w' => ∃ u z, e = .returned (.tuple #[u, .int .i64 z]) ∧ u = .slice none 0 0 ∧ (x.k ≠ 1 → z = 10) ∧ Below w.heap.size w w' := by
  have hb : Below w.heap.size w (x.at_ w) := al_new w _
  have hn := hv.on hb
  have hW : ∀ W, (W = x.at_ w ∨ W = (x.at_ w).drew) → Below (x.at_ w).heap.size (x.at_ w) W := by
    rintro W (rfl | rfl)
    · exact Below.refl _ _
    · exact below_drew' _
  refine call_gen x (fun u z w' => u = .slice none 0 0 ∧ (x.k ≠ 1 → z = 10) ∧ Below w.heap.size w w') hT hl ?_ ?_ ?_ ?_
  · intro _
    refine (SendN_any hn x.e x.now).mono ?_
    rintro e w' ⟨rfl, h⟩
    exact ⟨_, rfl, rfl, fun _ => rfl, hb.trans (h.mono hb.size)⟩
  · intro h1
    refine (ReceiveN_any hn x.now x.n).mono ?_
    rintro e w' ⟨rfl, rfl⟩
    exact ⟨_, rfl, rfl, fun h => absurd h1 h, hb⟩
  · intro W h _
    refine (DeleteN_any (hn.on (hW W h)) (x.rc T) x.now).mono ?_
    rintro e w' ⟨rfl, rfl⟩
    exact ⟨_, rfl, ⟨rfl, fun _ => rfl, hb.trans ((hW _ h).mono hb.size)⟩, clOn_at x w (hW _ h)⟩
  · intro W h _
    refine (ReturnN_any (hn.on (hW W h)) (x.rc T) x.now x.n).mono ?_
    rintro e w' ⟨rfl, rfl⟩
    exact ⟨_, rfl, ⟨rfl, fun _ => rfl, hb.trans ((hW _ h).mono hb.size)⟩, clOn_at x w (hW _ h)⟩
end
end Go.Proofs.YtbofclohnmojmaaGreatDoor
namespace Go.Proofs.YtbofclohnmojmaaGreatDoor
open Go.RowKit
open Go.Sort (grow)

theorem ErrV.below_ {w : World} (h : ErrV w) : ErrB w w.heap.size := by
  intro w' hb
  obtain ⟨tp, p, hv⟩ := h
  have hv0 := hv
  unfold World.var? at hv0
  cases hg : Tryz.prog.globalNamed "strconv.ErrRange" with
  | none => rw [hg] at hv0; simp at hv0
  | some g =>
    rw [hg] at hv0
    simp only [Option.bind_some] at hv0
    have hgB : g < w.heap.size := by
      by_cases h : g < w.heap.size
      · exact h
      · rw [Array.getElem?_eq_none (by omega)] at hv0
        simp at hv0
    exact ⟨tp, p, var?_below hb hg hgB hv⟩
theorem built_q0 (W : World) : (Instr.build 57 #[]).run Tryz.prog W = .ok (.agg #[.int .i64 0, .int .i64 0, .int .i64 0, .int .i64 0, .slice none 0 0, .slice none 0 0]) W := run_build W _ _ _ (by kernel_rfl)
attribute [local go_sem ↓] built_q0
set_option maxHeartbeats 16000000 in
set_option maxRecDepth 20000 in
theorem FifoNone_any (haw : ∀ w, LaidW w → ErrV w → Calls Tryz.prog 10 #[] w fun e w' => e = .returned (.bool true) ∧ Below w.heap.size w w') (w : World) (x : Cl) (hX : LaidW w) (hE : ErrV w) :
    Calls Tryz.prog 4 #[.agg #[.int .i64 x.k, .string x.e.id, .string x.e.tn, .string x.e.src, .string x.e.key, .int .i64 x.e.at_, .string x.e.cause, .slice x.e.A x.e.body.length x.e.cp, .string x.s, .int .i64 x.now, .int .i64 x.n]] w fun e w' => e = .returned (.bool true) ∧ Below w.heap.size w w' := by
  have HAW := Lib.hid haw
  have HX := Lib.hid hX.below_
  have HE := Lib.hid hE.below_
  have bx := (Blk.new w 42 #[.int .i64 x.k, .string x.e.id, .string x.e.tn, .string x.e.src, .string x.e.key, .int .i64 x.e.at_, .string x.e.cause, .slice x.e.A x.e.body.length x.e.cp, .string x.s, .int .i64 x.now, .int .i64 x.n]).alloc (.cells #[.int .i64 0, .int .i64 0, .int .i64 0, .int .i64 0, .slice none 0 0, .slice none 0 0] 57)
  have bz := Blk.new1 w (.cells #[.int .i64 x.k, .string x.e.id, .string x.e.tn, .string x.e.src, .string x.e.key, .int .i64 x.e.at_, .string x.e.cause, .slice x.e.A x.e.body.length x.e.cp, .string x.s, .int .i64 x.now, .int .i64 x.n] 42) 57 #[.int .i64 0, .int .i64 0, .int .i64 0, .int .i64 0, .slice none 0 0, .slice none 0 0]
  have hb : Below w.heap.size w ((w.alloc (.cells #[.int .i64 x.k, .string x.e.id, .string x.e.tn, .string x.e.src, .string x.e.key, .int .i64 x.e.at_, .string x.e.cause, .slice x.e.A x.e.body.length x.e.cp, .string x.s, .int .i64 x.now, .int .i64 x.n] 42)).alloc (.cells #[.int .i64 0, .int .i64 0, .int .i64 0, .int .i64 0, .slice none 0 0, .slice none 0 0] 57)) := (al_new w _).alloc (by simp) _
  have HB := Lib.hid hb
  have HBX := Lib.hid bx
  have HBZ := Lib.hid bz
  have hn1 : NoQ ((w.alloc (.cells #[.int .i64 x.k, .string x.e.id, .string x.e.tn, .string x.e.src, .string x.e.key, .int .i64 x.e.at_, .string x.e.cause, .slice x.e.A x.e.body.length x.e.cp, .string x.s, .int .i64 x.now, .int .i64 x.n] 42)).alloc (.cells #[.int .i64 0, .int .i64 0, .int .i64 0, .int .i64 0, .slice none 0 0, .slice none 0 0] 57)) (.pointer none) := .inl rfl
  have hn2 : NoQ ((w.alloc (.cells #[.int .i64 x.k, .string x.e.id, .string x.e.tn, .string x.e.src, .string x.e.key, .int .i64 x.e.at_, .string x.e.cause, .slice x.e.A x.e.body.length x.e.cp, .string x.s, .int .i64 x.now, .int .i64 x.n] 42)).alloc (.cells #[.int .i64 0, .int .i64 0, .int .i64 0, .int .i64 0, .slice none 0 0, .slice none 0 0] 57)) (.pointer (some ⟨w.heap.size + 1, 0, none⟩)) := .inr ⟨_, rfl, bz.cell 1⟩
  have HN1 := Lib.hid hn1
  have HN2 := Lib.hid hn2
  clear haw hX hE bz hb hn1 hn2
  go_enter Tryz.func4, Tryz.ntmps4
  go_upto_region 3 with fail
  have q0 : ((w.alloc (.cells #[.int .i64 x.k, .string x.e.id, .string x.e.tn, .string x.e.src, .string x.e.key, .int .i64 x.e.at_, .string x.e.cause, .slice x.e.A x.e.body.length x.e.cp, .string x.s, .int .i64 x.now, .int .i64 x.n] 42)).alloc (.cells #[.int .i64 0, .int .i64 0, .int .i64 0, .int .i64 0, .slice none 0 0, .slice none 0 0] 57)).cell? ⟨w.heap.size, 0, none⟩ = some (.int .i64 x.k) := bx.cell 0
  have q1 : ((w.alloc (.cells #[.int .i64 x.k, .string x.e.id, .string x.e.tn, .string x.e.src, .string x.e.key, .int .i64 x.e.at_, .string x.e.cause, .slice x.e.A x.e.body.length x.e.cp, .string x.s, .int .i64 x.now, .int .i64 x.n] 42)).alloc (.cells #[.int .i64 0, .int .i64 0, .int .i64 0, .int .i64 0, .slice none 0 0, .slice none 0 0] 57)).cell? ⟨w.heap.size, 1, none⟩ = some (.string x.e.id) := bx.cell 1
  have q2 : ((w.alloc (.cells #[.int .i64 x.k, .string x.e.id, .string x.e.tn, .string x.e.src, .string x.e.key, .int .i64 x.e.at_, .string x.e.cause, .slice x.e.A x.e.body.length x.e.cp, .string x.s, .int .i64 x.now, .int .i64 x.n] 42)).alloc (.cells #[.int .i64 0, .int .i64 0, .int .i64 0, .int .i64 0, .slice none 0 0, .slice none 0 0] 57)).cell? ⟨w.heap.size, 2, none⟩ = some (.string x.e.tn) := bx.cell 2
  have q3 : ((w.alloc (.cells #[.int .i64 x.k, .string x.e.id, .string x.e.tn, .string x.e.src, .string x.e.key, .int .i64 x.e.at_, .string x.e.cause, .slice x.e.A x.e.body.length x.e.cp, .string x.s, .int .i64 x.now, .int .i64 x.n] 42)).alloc (.cells #[.int .i64 0, .int .i64 0, .int .i64 0, .int .i64 0, .slice none 0 0, .slice none 0 0] 57)).cell? ⟨w.heap.size, 3, none⟩ = some (.string x.e.src) := bx.cell 3
  have q4 : ((w.alloc (.cells #[.int .i64 x.k, .string x.e.id, .string x.e.tn, .string x.e.src, .string x.e.key, .int .i64 x.e.at_, .string x.e.cause, .slice x.e.A x.e.body.length x.e.cp, .string x.s, .int .i64 x.now, .int .i64 x.n] 42)).alloc (.cells #[.int .i64 0, .int .i64 0, .int .i64 0, .int .i64 0, .slice none 0 0, .slice none 0 0] 57)).cell? ⟨w.heap.size, 4, none⟩ = some (.string x.e.key) := bx.cell 4
  have q5 : ((w.alloc (.cells #[.int .i64 x.k, .string x.e.id, .string x.e.tn, .string x.e.src, .string x.e.key, .int .i64 x.e.at_, .string x.e.cause, .slice x.e.A x.e.body.length x.e.cp, .string x.s, .int .i64 x.now, .int .i64 x.n] 42)).alloc (.cells #[.int .i64 0, .int .i64 0, .int .i64 0, .int .i64 0, .slice none 0 0, .slice none 0 0] 57)).cell? ⟨w.heap.size, 5, none⟩ = some (.int .i64 x.e.at_) := bx.cell 5
  have q6 : ((w.alloc (.cells #[.int .i64 x.k, .string x.e.id, .string x.e.tn, .string x.e.src, .string x.e.key, .int .i64 x.e.at_, .string x.e.cause, .slice x.e.A x.e.body.length x.e.cp, .string x.s, .int .i64 x.now, .int .i64 x.n] 42)).alloc (.cells #[.int .i64 0, .int .i64 0, .int .i64 0, .int .i64 0, .slice none 0 0, .slice none 0 0] 57)).cell? ⟨w.heap.size, 6, none⟩ = some (.string x.e.cause) := bx.cell 6
  have q7 : ((w.alloc (.cells #[.int .i64 x.k, .string x.e.id, .string x.e.tn, .string x.e.src, .string x.e.key, .int .i64 x.e.at_, .string x.e.cause, .slice x.e.A x.e.body.length x.e.cp, .string x.s, .int .i64 x.now, .int .i64 x.n] 42)).alloc (.cells #[.int .i64 0, .int .i64 0, .int .i64 0, .int .i64 0, .slice none 0 0, .slice none 0 0] 57)).cell? ⟨w.heap.size, 7, none⟩ = some (.slice x.e.A x.e.body.length x.e.cp) := bx.cell 7
  have q8 : ((w.alloc (.cells #[.int .i64 x.k, .string x.e.id, .string x.e.tn, .string x.e.src, .string x.e.key, .int .i64 x.e.at_, .string x.e.cause, .slice x.e.A x.e.body.length x.e.cp, .string x.s, .int .i64 x.now, .int .i64 x.n] 42)).alloc (.cells #[.int .i64 0, .int .i64 0, .int .i64 0, .int .i64 0, .slice none 0 0, .slice none 0 0] 57)).cell? ⟨w.heap.size, 8, none⟩ = some (.string x.s) := bx.cell 8
  have q9 : ((w.alloc (.cells #[.int .i64 x.k, .string x.e.id, .string x.e.tn, .string x.e.src, .string x.e.key, .int .i64 x.e.at_, .string x.e.cause, .slice x.e.A x.e.body.length x.e.cp, .string x.s, .int .i64 x.now, .int .i64 x.n] 42)).alloc (.cells #[.int .i64 0, .int .i64 0, .int .i64 0, .int .i64 0, .slice none 0 0, .slice none 0 0] 57)).cell? ⟨w.heap.size, 9, none⟩ = some (.int .i64 x.now) := bx.cell 9
  have q10 : ((w.alloc (.cells #[.int .i64 x.k, .string x.e.id, .string x.e.tn, .string x.e.src, .string x.e.key, .int .i64 x.e.at_, .string x.e.cause, .slice x.e.A x.e.body.length x.e.cp, .string x.s, .int .i64 x.now, .int .i64 x.n] 42)).alloc (.cells #[.int .i64 0, .int .i64 0, .int .i64 0, .int .i64 0, .slice none 0 0, .slice none 0 0] 57)).cell? ⟨w.heap.size, 10, none⟩ = some (.int .i64 x.n) := bx.cell 10
  clear bx
  generalize (w.alloc (.cells #[.int .i64 x.k, .string x.e.id, .string x.e.tn, .string x.e.src, .string x.e.key, .int .i64 x.e.at_, .string x.e.cause, .slice x.e.A x.e.body.length x.e.cp, .string x.s, .int .i64 x.now, .int .i64 x.n] 42)).alloc (.cells #[.int .i64 0, .int .i64 0, .int .i64 0, .int .i64 0, .slice none 0 0, .slice none 0 0] 57) = w0 at *
  go_wp2_with fail
  have HN1w0 := Lib.hid HN1.out
  have HN2w0 := Lib.hid HN2.out
  have HBXw0 := Lib.hid HBX.out
  have HBw0 := Lib.hid HB.out
  clear HN1 HN2 HBX HB
  refine (callN_any HN1w0.out x (T := []) (B := 0) (OwnS.nil _ _) (by decide)).mono ?_
  rintro e w1 ⟨u, z1, rfl, rfl, hz1, hb1⟩
  have HN1w1 := Lib.hid (HN1w0.out.on hb1)
  have HN2w1 := Lib.hid (HN2w0.out.on hb1)
  have HBXw1 := Lib.hid (HBXw0.out.on hb1)
  have HBw1 := Lib.hid (HBw0.out.trans (hb1.mono HBw0.out.size))
  have Hz1 := Lib.hid hz1
  clear hb1 hz1
  have qw1_0 : w1.cell? ⟨w.heap.size, 0, none⟩ = some (.int .i64 x.k) := HBXw1.out.cell 0
  have qw1_1 : w1.cell? ⟨w.heap.size, 1, none⟩ = some (.string x.e.id) := HBXw1.out.cell 1
  have qw1_2 : w1.cell? ⟨w.heap.size, 2, none⟩ = some (.string x.e.tn) := HBXw1.out.cell 2
  have qw1_3 : w1.cell? ⟨w.heap.size, 3, none⟩ = some (.string x.e.src) := HBXw1.out.cell 3
  have qw1_4 : w1.cell? ⟨w.heap.size, 4, none⟩ = some (.string x.e.key) := HBXw1.out.cell 4
  have qw1_5 : w1.cell? ⟨w.heap.size, 5, none⟩ = some (.int .i64 x.e.at_) := HBXw1.out.cell 5
  have qw1_6 : w1.cell? ⟨w.heap.size, 6, none⟩ = some (.string x.e.cause) := HBXw1.out.cell 6
  have qw1_7 : w1.cell? ⟨w.heap.size, 7, none⟩ = some (.slice x.e.A x.e.body.length x.e.cp) := HBXw1.out.cell 7
  have qw1_8 : w1.cell? ⟨w.heap.size, 8, none⟩ = some (.string x.s) := HBXw1.out.cell 8
  have qw1_9 : w1.cell? ⟨w.heap.size, 9, none⟩ = some (.int .i64 x.now) := HBXw1.out.cell 9
  have qw1_10 : w1.cell? ⟨w.heap.size, 10, none⟩ = some (.int .i64 x.n) := HBXw1.out.cell 10
  go_wp2_with fail
  refine (callN_any HN2w1.out x (T := []) (B := 0) (OwnS.nil _ _) (by decide)).mono ?_
  rintro e w2 ⟨u, z2, rfl, rfl, hz2, hb1⟩
  have HN1w2 := Lib.hid (HN1w1.out.on hb1)
  have HN2w2 := Lib.hid (HN2w1.out.on hb1)
  have HBXw2 := Lib.hid (HBXw1.out.on hb1)
  have HBw2 := Lib.hid (HBw1.out.trans (hb1.mono HBw1.out.size))
  have Hz2 := Lib.hid hz2
  clear hb1 hz2
  have qw2_0 : w2.cell? ⟨w.heap.size, 0, none⟩ = some (.int .i64 x.k) := HBXw2.out.cell 0
  have qw2_1 : w2.cell? ⟨w.heap.size, 1, none⟩ = some (.string x.e.id) := HBXw2.out.cell 1
  have qw2_2 : w2.cell? ⟨w.heap.size, 2, none⟩ = some (.string x.e.tn) := HBXw2.out.cell 2
  have qw2_3 : w2.cell? ⟨w.heap.size, 3, none⟩ = some (.string x.e.src) := HBXw2.out.cell 3
  have qw2_4 : w2.cell? ⟨w.heap.size, 4, none⟩ = some (.string x.e.key) := HBXw2.out.cell 4
  have qw2_5 : w2.cell? ⟨w.heap.size, 5, none⟩ = some (.int .i64 x.e.at_) := HBXw2.out.cell 5
  have qw2_6 : w2.cell? ⟨w.heap.size, 6, none⟩ = some (.string x.e.cause) := HBXw2.out.cell 6
  have qw2_7 : w2.cell? ⟨w.heap.size, 7, none⟩ = some (.slice x.e.A x.e.body.length x.e.cp) := HBXw2.out.cell 7
  have qw2_8 : w2.cell? ⟨w.heap.size, 8, none⟩ = some (.string x.s) := HBXw2.out.cell 8
  have qw2_9 : w2.cell? ⟨w.heap.size, 9, none⟩ = some (.int .i64 x.now) := HBXw2.out.cell 9
  have qw2_10 : w2.cell? ⟨w.heap.size, 10, none⟩ = some (.int .i64 x.n) := HBXw2.out.cell 10
  by_cases hk : x.k = 1
  · have dk : (x.k != 1) = false := by simpa using hk
    go_wp2_with fail
    refine (LenN_any HN1w2.out).mono ?_
    rintro e wq ⟨rfl, hq⟩
    obtain rfl := hq.symm
    go_wp2_with fail
    refine (LenN_any HN2w2.out).mono ?_
    rintro e wq ⟨rfl, hq⟩
    obtain rfl := hq.symm
    go_wp2_with fail
    refine (KeysN_any HN1w2.out x.now).mono ?_
    rintro e wq ⟨rfl, hq⟩
    obtain rfl := hq.symm
    go_wp2_with fail
    refine (KeysN_any HN2w2.out x.now).mono ?_
    rintro e wq ⟨rfl, hq⟩
    obtain rfl := hq.symm
    go_wp2_with fail
    refine (WaitingN_any HN1w2.out x.s).mono ?_
    rintro e wq ⟨rfl, hq⟩
    obtain rfl := hq.symm
    go_wp2_with fail
    refine (WaitingN_any HN2w2.out x.s).mono ?_
    rintro e wq ⟨rfl, hq⟩
    obtain rfl := hq.symm
    go_wp2_with fail
    refine (DeadN_any HN1w2.out).mono ?_
    rintro e wq ⟨rfl, hq⟩
    obtain rfl := hq.symm
    go_wp2_with fail
    refine (DeadN_any HN2w2.out).mono ?_
    rintro e wq ⟨rfl, hq⟩
    obtain rfl := hq.symm
    go_wp2_with fail
    refine (full_any _ (HX.out.on HBw2.out).at_.below_).mono ?_
    rintro e w3 ⟨rfl, hb3⟩
    have HL3 := Lib.hid ((HX.out.on HBw2.out).on (hb3.mono HBw2.out.size)).at_
    have HE3 := Lib.hid ((HE.out.on HBw2.out).on (hb3.mono HBw2.out.size)).at_
    have HB3 := Lib.hid (HBw2.out.trans (hb3.mono HBw2.out.size))
    clear hb3
    go_wp2_with fail
    refine (HAW.out w3 HL3.out HE3.out).mono ?_
    rintro e w4 ⟨rfl, hb4⟩
    have HB4 := Lib.hid (HB3.out.trans (hb4.mono HB3.out.size))
    clear hb4
    go_wp2_with fail
    go_ret
    exact ⟨rfl, HB4.out⟩
  · have dk : (x.k != 1) = true := by simpa using hk
    obtain rfl := Hz1.out hk
    obtain rfl := Hz2.out hk
    go_wp2_with fail
    refine (LenN_any HN1w2.out).mono ?_
    rintro e wq ⟨rfl, hq⟩
    obtain rfl := hq.symm
    go_wp2_with fail
    refine (LenN_any HN2w2.out).mono ?_
    rintro e wq ⟨rfl, hq⟩
    obtain rfl := hq.symm
    go_wp2_with fail
    refine (KeysN_any HN1w2.out x.now).mono ?_
    rintro e wq ⟨rfl, hq⟩
    obtain rfl := hq.symm
    go_wp2_with fail
    refine (KeysN_any HN2w2.out x.now).mono ?_
    rintro e wq ⟨rfl, hq⟩
    obtain rfl := hq.symm
    go_wp2_with fail
    refine (WaitingN_any HN1w2.out x.s).mono ?_
    rintro e wq ⟨rfl, hq⟩
    obtain rfl := hq.symm
    go_wp2_with fail
    refine (WaitingN_any HN2w2.out x.s).mono ?_
    rintro e wq ⟨rfl, hq⟩
    obtain rfl := hq.symm
    go_wp2_with fail
    refine (DeadN_any HN1w2.out).mono ?_
    rintro e wq ⟨rfl, hq⟩
    obtain rfl := hq.symm
    go_wp2_with fail
    refine (DeadN_any HN2w2.out).mono ?_
    rintro e wq ⟨rfl, hq⟩
    obtain rfl := hq.symm
    go_wp2_with fail
    refine (full_any _ (HX.out.on HBw2.out).at_.below_).mono ?_
    rintro e w3 ⟨rfl, hb3⟩
    have HL3 := Lib.hid ((HX.out.on HBw2.out).on (hb3.mono HBw2.out.size)).at_
    have HE3 := Lib.hid ((HE.out.on HBw2.out).on (hb3.mono HBw2.out.size)).at_
    have HB3 := Lib.hid (HBw2.out.trans (hb3.mono HBw2.out.size))
    clear hb3
    go_wp2_with fail
    refine (HAW.out w3 HL3.out HE3.out).mono ?_
    rintro e w4 ⟨rfl, hb4⟩
    have HB4 := Lib.hid (HB3.out.trans (hb4.mono HB3.out.size))
    clear hb4
    go_wp2_with fail
    go_ret
    exact ⟨rfl, HB4.out⟩
end Go.Proofs.YtbofclohnmojmaaGreatDoor
