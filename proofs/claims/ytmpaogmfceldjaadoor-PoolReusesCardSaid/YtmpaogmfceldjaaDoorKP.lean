/- The pool in plain words: what each call does to its state, what always holds of it. -/
import Derived.Test.YtmpaogmfceldjaaDoorKA
import Derived.Test.YtmpaogmfceldjaaDoorP1
namespace Go.Proofs.YtmpaogmfceldjaaDoor
open Go.RowKit

/-- An instance. -/
structure Ins where
  id : ByteArray
  st : Int
  since : Int
  uses : Int
/-- A policy. -/
structure PP where
  mx : Int
  idle : Int
  us : Int
  boot : Int
/-- A pool. -/
structure PS where
  nm : ByteArray
  p : PP
  now : Int
  bt : Nat
  l : List Ins

theorem itoa_inj {a b : Int} (h : Lib.itoa a = Lib.itoa b) : a = b := by
  have h1 := (itoa_dec a).2
  have h2 := (itoa_dec b).2
  rw [← h1, ← h2, h]
/-- The n-th child of an identifier. -/
def chB (nm : ByteArray) (n : Int) : ByteArray := nm ++ ⟨#[46]⟩ ++ ⟨(Lib.itoa n).toArray⟩
theorem chB_data (nm : ByteArray) (n : Int) : (chB nm n).data.toList = nm.data.toList ++ [46] ++ Lib.itoa n := by
  unfold chB
  rw [Joins.data_append, Joins.data_append]
theorem chB_inj {nm : ByteArray} {a b : Int} (h : chB nm a = chB nm b) : a = b := by
  have h1 := congrArg (fun x : ByteArray => x.data.toList) h
  simp only [chB_data] at h1
  exact itoa_inj (List.append_cancel_left h1)
def chI (nm : ByteArray) (n : Int) : ByteArray × Int :=
  if idL nm = false then (⟨#[]⟩, 4) else if inB n 0 1000000000000 = false then (⟨#[]⟩, 2) else if 64 < (chB nm n).size then (⟨#[]⟩, 3) else (chB nm n, 0)

/-! ### looking up -/
def eqS (a b : ByteArray) : Bool := a.data.toList == b.data.toList
theorem eqS_iff {a b : ByteArray} : eqS a b = true ↔ a = b := by
  unfold eqS
  rw [beq_iff_eq]
  exact ⟨ba_ext, fun h => by rw [h]⟩
theorem eqS_self (a : ByteArray) : eqS a a = true := eqS_iff.2 rfl
theorem eqS_no {a b : ByteArray} (h : a ≠ b) : eqS a b = false := by
  cases e : eqS a b
  · rfl
  · exact absurd (eqS_iff.1 e) h
def lk (l : List Ins) (id : ByteArray) : Option Ins := l.find? fun x => eqS x.id id
/-- The index of an instance, or -1. -/
def fd (l : List Ins) (id : ByteArray) : Int := match l.findIdx? (fun x => eqS x.id id) with | some i => (i : Int) | none => -1
theorem fd_cases (l : List Ins) (id : ByteArray) : (fd l id = -1 ∧ lk l id = none ∧ ∀ x ∈ l, x.id ≠ id) ∨ ∃ (k : Nat) (x : Ins), fd l id = k ∧ l[k]? = some x ∧ x.id = id ∧ lk l id = some x ∧ ∀ j y, j < k → l[j]? = some y → y.id ≠ id := by
  unfold fd lk
  cases h : l.findIdx? (fun x => eqS x.id id) with
  | none =>
    rw [List.findIdx?_eq_none_iff] at h
    refine .inl ⟨rfl, List.find?_eq_none.2 fun x hx => by rw [h x hx]; simp, fun x hx e => ?_⟩
    have := h x hx
    rw [e, eqS_self] at this
    cases this
  | some k =>
    obtain ⟨hk, h1, h2⟩ := List.findIdx?_eq_some_iff_getElem.1 h
    refine .inr ⟨k, l[k], rfl, List.getElem?_eq_getElem hk, eqS_iff.1 h1, ?_, fun j y hj hy e => ?_⟩
    · rw [List.find?_eq_some_iff_getElem]
      exact ⟨h1, k, hk, rfl, fun j hj => by have := h2 j hj; simpa using this⟩
    · have := h2 j hj
      rw [List.getElem?_eq_getElem (by omega)] at hy
      injection hy with hy
      rw [hy, e, eqS_self] at this
      simp at this
theorem lk_some {l : List Ins} {id : ByteArray} {x : Ins} (h : lk l id = some x) : x ∈ l ∧ x.id = id := by
  unfold lk at h
  exact ⟨List.mem_of_find?_eq_some h, eqS_iff.1 (by simpa using List.find?_some h)⟩
theorem ids_ne {l : List Ins} (hn : (l.map Ins.id).Nodup) {i j : Nat} {x y : Ins} (hi : l[i]? = some x) (hj : l[j]? = some y) (e : x.id = y.id) : i = j := by
  have h1 : (l.map Ins.id)[i]? = some x.id := by rw [List.getElem?_map, hi]; rfl
  have h2 : (l.map Ins.id)[j]? = some x.id := by rw [List.getElem?_map, hj, e]; rfl
  have hi' := (List.getElem?_eq_some_iff.1 h1).1
  exact (List.getElem?_inj hi' hn).1 (h1.trans h2.symm)
theorem lk_at {l : List Ins} (hn : (l.map Ins.id).Nodup) {k : Nat} {x : Ins} (hk : l[k]? = some x) : lk l x.id = some x := by
  rcases fd_cases l x.id with ⟨_, _, h⟩ | ⟨j, y, _, hj, e, h, _⟩
  · exact absurd rfl (h x (List.mem_of_getElem? hk))
  · obtain rfl := ids_ne hn hk hj e.symm
    rw [hk] at hj
    injection hj with hj
    rw [h, hj]
theorem fd_at {l : List Ins} (hn : (l.map Ins.id).Nodup) {k : Nat} {x : Ins} (hk : l[k]? = some x) : fd l x.id = k := by
  rcases fd_cases l x.id with ⟨_, _, h⟩ | ⟨j, y, h0, hj, e, h, _⟩
  · exact absurd rfl (h x (List.mem_of_getElem? hk))
  · obtain rfl := ids_ne hn hk hj e.symm
    exact h0
theorem lk_mod {l : List Ins} {f : Ins → Ins} (hn : (l.map Ins.id).Nodup) {k : Nat} {x : Ins} (hk : l[k]? = some x) (hf : ∀ y, (f y).id = y.id) (id : ByteArray) :
    lk (l.modify k f) id = if id = x.id then some (f x) else lk l id := by
  have hm : (l.modify k f).map Ins.id = l.map Ins.id := by
    apply List.ext_getElem?
    intro i
    rw [List.getElem?_map, List.getElem?_modify, List.getElem?_map]
    cases l[i]? with
    | none => rfl
    | some y => by_cases e : k = i <;> simp [e, hf]
  have hn' : ((l.modify k f).map Ins.id).Nodup := by rw [hm]; exact hn
  split
  · rename_i e
    subst e
    have h1 : (l.modify k f)[k]? = some (f x) := by rw [List.getElem?_modify, hk]; simp
    have := lk_at hn' h1
    rw [hf] at this
    exact this
  · rename_i e
    rcases fd_cases l id with ⟨_, h, h2⟩ | ⟨j, y, _, hj, ey, h, _⟩
    · rw [h]
      rcases fd_cases (l.modify k f) id with ⟨_, h', _⟩ | ⟨j, y, _, hj, ey, _, _⟩
      · exact h'
      · rw [List.getElem?_modify] at hj
        cases hl : l[j]? with
        | none => rw [hl] at hj; simp at hj
        | some z =>
          rw [hl] at hj
          simp only [Option.map_eq_map, Option.map_some, Option.some.injEq] at hj
          exfalso
          refine h2 z (List.mem_of_getElem? hl) ?_
          rw [← ey, ← hj]
          split
          · exact (hf z).symm
          · rfl
    · rw [h]
      have hjk : k ≠ j := fun e' => by
        subst e'
        rw [hk] at hj
        injection hj with hj
        subst hj
        exact e ey.symm
      have h1 : (l.modify k f)[j]? = some y := by rw [List.getElem?_modify, hj]; simp [hjk]
      have := lk_at hn' h1
      rw [ey] at this
      exact this
theorem lk_snoc {l : List Ins} {y : Ins} (hy : ∀ x ∈ l, x.id ≠ y.id) (id : ByteArray) : lk (l ++ [y]) id = if id = y.id then some y else lk l id := by
  unfold lk
  rw [List.find?_append]
  split
  · rename_i e
    subst e
    have : l.find? (fun x => eqS x.id y.id) = none := List.find?_eq_none.2 fun x hx => by rw [eqS_no (hy x hx)]; simp
    rw [this]
    simp [eqS_self]
  · rename_i e
    have : List.find? (fun x => eqS x.id id) [y] = none := by simp [eqS_no (fun h => e h.symm)]
    rw [this]
    simp
/-- An instance goes. -/
def drp (l : List Ins) (id : ByteArray) : List Ins := l.filter fun x => !eqS x.id id
theorem lk_drp (l : List Ins) (i id : ByteArray) : lk (drp l i) id = if id = i then none else lk l id := by
  unfold lk drp
  split
  · rename_i e
    subst e
    refine List.find?_eq_none.2 fun x hx => ?_
    have := (List.mem_filter.1 hx).2
    simp only [Bool.not_eq_true'] at this
    rw [this]; simp
  · rename_i e
    rw [List.find?_filter]
    congr 1
    funext x
    by_cases h : x.id = id
    · rw [eqS_iff.2 h, eqS_no (fun h' => e (h.symm.trans h'))]; rfl
    · rw [eqS_no h]; simp
theorem drp_eq {l : List Ins} (hn : (l.map Ins.id).Nodup) {k : Nat} {x : Ins} (hk : l[k]? = some x) : drp l x.id = l.eraseIdx k := by
  induction l generalizing k with
  | nil => simp at hk
  | cons a r ih =>
    rw [List.map_cons, List.nodup_cons] at hn
    unfold drp
    cases k with
    | zero =>
      rw [List.getElem?_cons_zero] at hk
      injection hk with hk
      subst hk
      rw [List.filter_cons, eqS_self, List.eraseIdx_cons_zero]
      simp only [Bool.not_true, Bool.false_eq_true, if_false]
      rw [List.filter_eq_self]
      intro y hy
      rw [eqS_no (fun e => hn.1 (by rw [← e]; exact List.mem_map_of_mem hy))]; rfl
    | succ k =>
      rw [List.getElem?_cons_succ] at hk
      have ha : a.id ≠ x.id := fun e => hn.1 (by rw [e]; exact List.mem_map_of_mem (List.mem_of_getElem? hk))
      rw [List.filter_cons, eqS_no ha, List.eraseIdx_cons_succ]
      simp only [Bool.not_false, if_true]
      congr 1
      exact ih hn.2 hk

/-! ### the calls -/
def rdy (s : PS) (now : Int) : Int := if inB now 0 1073741824 = true then (if now < s.now then 11 else 0) else 2
theorem rdy_cases (s : PS) (now : Int) : (rdy s now = 2 ∧ inB now 0 1073741824 = false) ∨ (rdy s now = 11 ∧ inB now 0 1073741824 = true ∧ now < s.now) ∨ (rdy s now = 0 ∧ inB now 0 1073741824 = true ∧ ¬ now < s.now) := by
  unfold rdy
  cases h : inB now 0 1073741824
  · exact .inl ⟨rfl, rfl⟩
  · by_cases h2 : now < s.now
    · exact .inr (.inl ⟨by rw [if_pos rfl, if_pos h2], rfl, h2⟩)
    · exact .inr (.inr ⟨by rw [if_pos rfl, if_neg h2], rfl, h2⟩)
def sinceAt (l : List Ins) (b : Int) : Int := match l[b.toNat]? with | some y => y.since | none => 0
/-- The best of the first k: its index, or -1. -/
def wk (l : List Ins) : Nat → Int
  | 0 => -1
  | k + 1 => match l[k]? with | some x => if x.st = 2 ∧ (wk l k < 0 ∨ sinceAt l (wk l k) ≤ x.since) then (k : Int) else wk l k | none => wk l k
theorem wk_cases (l : List Ins) : ∀ k, wk l k = -1 ∧ (∀ j x, j < k → l[j]? = some x → x.st ≠ 2) ∨ ∃ (j : Nat) (x : Ins), wk l k = j ∧ j < k ∧ l[j]? = some x ∧ x.st = 2
  | 0 => .inl ⟨rfl, fun j x h => absurd h (by omega)⟩
  | k + 1 => by
    unfold wk
    cases hk : l[k]? with
    | none =>
      simp only
      rcases wk_cases l k with ⟨h1, h2⟩ | ⟨j, x, h1, h2, h3⟩
      · refine .inl ⟨h1, fun j x hj hx => ?_⟩
        by_cases e : j = k
        · subst e; rw [hk] at hx; cases hx
        · exact h2 j x (by omega) hx
      · exact .inr ⟨j, x, h1, by omega, h3⟩
    | some y =>
      simp only
      split
      · rename_i hc
        exact .inr ⟨k, y, rfl, by omega, hk, hc.1⟩
      · rename_i hc
        rcases wk_cases l k with ⟨h1, h2⟩ | ⟨j, x, h1, h2, h3⟩
        · refine .inl ⟨h1, fun j x hj hx => ?_⟩
          by_cases e : j = k
          · subst e
            rw [hk] at hx
            injection hx with hx
            subst hx
            exact fun e => hc ⟨e, .inl (by omega)⟩
          · exact h2 j x (by omega) hx
        · exact .inr ⟨j, x, h1, by omega, h3⟩
def wrm (l : List Ins) : Int := wk l l.length
def tak (now : Int) (x : Ins) : Ins := ⟨x.id, 3, now, x.uses + 1⟩
def bck (now : Int) (x : Ins) : Ins := ⟨x.id, 2, now, x.uses⟩
def idAt (l : List Ins) (k : Nat) : ByteArray := match l[k]? with | some x => x.id | none => ⟨#[]⟩
def acqG (s : PS) (now : Int) : PS × ByteArray × Int × Int :=
  if 0 ≤ wrm s.l then (⟨s.nm, s.p, now, s.bt, s.l.modify (wrm s.l).toNat (tak now)⟩, idAt s.l (wrm s.l).toNat, now, 0)
  else if s.p.mx ≤ s.l.length then (s, ⟨#[]⟩, 0, 17)
  else if 64 < (chB s.nm s.bt).size then (s, ⟨#[]⟩, 0, 3)
  else (⟨s.nm, s.p, now, s.bt + 1, s.l ++ [⟨chB s.nm s.bt, 3, now + s.p.boot, 1⟩]⟩, chB s.nm s.bt, now + s.p.boot, 0)
def acqS (s : PS) (now : Int) : PS × ByteArray × Int × Int := if rdy s now = 0 then acqG s now else (s, ⟨#[]⟩, 0, rdy s now)
def relX (s : PS) (x : Ins) (k : Nat) (now : Int) : PS × Int :=
  if x.st = 2 then (s, 10) else if now < x.since then (s, 11) else if s.p.us ≤ x.uses then (⟨s.nm, s.p, now, s.bt, s.l.eraseIdx k⟩, 0) else (⟨s.nm, s.p, now, s.bt, s.l.modify k (bck now)⟩, 0)
def relG (s : PS) (id : ByteArray) (now : Int) : PS × Int := match lk s.l id with | some x => relX s x (fd s.l id).toNat now | none => (s, 5)
def relS (s : PS) (id : ByteArray) (now : Int) : PS × Int := if rdy s now = 0 then relG s id now else (s, rdy s now)
def craG (s : PS) (id : ByteArray) (now : Int) : PS × Int := match lk s.l id with | some _ => (⟨s.nm, s.p, now, s.bt, s.l.eraseIdx (fd s.l id).toNat⟩, 0) | none => (s, 5)
def craS (s : PS) (id : ByteArray) (now : Int) : PS × Int := if rdy s now = 0 then craG s id now else (s, rdy s now)
def old (p : PP) (now : Int) (x : Ins) : Bool := decide (x.st = 2) && decide (p.idle ≤ now - x.since)
def expG (s : PS) (now : Int) : PS × List ByteArray := (⟨s.nm, s.p, now, s.bt, s.l.filter fun x => !old s.p now x⟩, (s.l.filter (old s.p now)).map Ins.id)
def expS (s : PS) (now : Int) : PS × List ByteArray := if rdy s now = 0 then expG s now else (s, [])
def busyN (l : List Ins) : Nat := (l.filter fun x => decide (x.st = 3)).length
def badP (p : PP) : Bool := decide (p.mx < 1) || decide (32 < p.mx) || decide (p.idle < 1) || decide (1073741824 < p.idle) || decide (p.us < 1) || decide (1073741824 < p.us) || !inB p.boot 0 1073741824
def newE (nm : ByteArray) (p : PP) : Int := if idL nm = true then (if badP p = true then 2 else 0) else 4

/-! ### what always holds -/
structure InsOk (s : PS) (x : Ins) : Prop where
  st : x.st = 2 ∨ x.st = 3
  s0 : 0 ≤ x.since
  s1 : x.since ≤ 2147483648
  u0 : 1 ≤ x.uses
  u1 : x.uses ≤ s.p.us
  u2 : x.st = 2 → x.uses < s.p.us
  id : ∃ k : Nat, k < s.bt ∧ x.id = chB s.nm k
  sz : x.id.size ≤ 64
structure PS.ok (s : PS) : Prop where
  nm : idL s.nm = true
  mx : 1 ≤ s.p.mx ∧ s.p.mx ≤ 32
  idle : 1 ≤ s.p.idle ∧ s.p.idle ≤ 1073741824
  us : 1 ≤ s.p.us ∧ s.p.us ≤ 1073741824
  boot : 0 ≤ s.p.boot ∧ s.p.boot ≤ 1073741824
  now : 0 ≤ s.now ∧ s.now ≤ 1073741824
  len : (s.l.length : Int) ≤ s.p.mx
  els : ∀ x ∈ s.l, InsOk s x
  nodup : (s.l.map Ins.id).Nodup
theorem PS.ok.len32 {s : PS} (h : s.ok) : s.l.length ≤ 32 := by have := h.len; have := h.mx; omega
theorem PS.ok.fresh {s : PS} (h : s.ok) : ∀ x ∈ s.l, x.id ≠ chB s.nm s.bt := by
  intro x hx e
  obtain ⟨k, hk, e2⟩ := (h.els x hx).id
  have := chB_inj (e.symm.trans e2)
  omega
theorem new_ok {nm : ByteArray} {p : PP} (h : newE nm p = 0) : (⟨nm, p, 0, 0, []⟩ : PS).ok := by
  unfold newE at h
  split at h
  · rename_i hn
    split at h
    · exact absurd h (by decide)
    · rename_i hb
      simp only [badP, Bool.or_eq_true, decide_eq_true_eq, Bool.not_eq_true', not_or, Bool.not_eq_false] at hb
      obtain ⟨⟨⟨⟨⟨⟨h1, h2⟩, h3⟩, h4⟩, h5⟩, h6⟩, h7⟩ := hb
      have h8 := inB_iff.1 h7
      exact ⟨hn, ⟨by show 1 ≤ p.mx; omega, by show p.mx ≤ 32; omega⟩, ⟨by show 1 ≤ p.idle; omega, by show p.idle ≤ _; omega⟩, ⟨by show 1 ≤ p.us; omega, by show p.us ≤ _; omega⟩, h8, ⟨by simp, by simp⟩, by show (0 : Int) ≤ p.mx; omega, by simp, by simp⟩
  · exact absurd h (by decide)
theorem mod_ids {l : List Ins} {f : Ins → Ins} (hf : ∀ y, (f y).id = y.id) (k : Nat) : (l.modify k f).map Ins.id = l.map Ins.id := by
  apply List.ext_getElem?
  intro i
  rw [List.getElem?_map, List.getElem?_modify, List.getElem?_map]
  cases l[i]? with
  | none => rfl
  | some y => by_cases e : k = i <;> simp [e, hf]
theorem mem_mod {l : List Ins} {f : Ins → Ins} {k : Nat} {y : Ins} (h : y ∈ l.modify k f) : y ∈ l ∨ ∃ x, l[k]? = some x ∧ y = f x := by
  obtain ⟨i, hi⟩ := List.getElem?_of_mem h
  rw [List.getElem?_modify] at hi
  cases hl : l[i]? with
  | none => rw [hl] at hi; simp at hi
  | some x =>
    rw [hl] at hi
    simp only [Option.map_eq_map, Option.map_some, Option.some.injEq] at hi
    split at hi
    · rename_i e
      subst e
      exact .inr ⟨x, hl, hi.symm⟩
    · subst hi
      exact .inl (List.mem_of_getElem? hl)
/-- The same pool, later, with other instances. -/
theorem PS.ok.turn {s : PS} (h : s.ok) {now : Int} (hn : rdy s now = 0) {bt : Nat} {l : List Ins} (hl : (l.length : Int) ≤ s.p.mx) (he : ∀ x ∈ l, InsOk ⟨s.nm, s.p, now, bt, l⟩ x) (hd : (l.map Ins.id).Nodup) : (⟨s.nm, s.p, now, bt, l⟩ : PS).ok := by
  have hr : inB now 0 1073741824 = true := by
    rcases rdy_cases s now with ⟨h1, _⟩ | ⟨h1, _⟩ | ⟨_, h1, _⟩
    · omega
    · omega
    · exact h1
  exact ⟨h.nm, h.mx, h.idle, h.us, h.boot, inB_iff.1 hr, hl, he, hd⟩
theorem InsOk.more {s : PS} {x : Ins} (h : InsOk s x) {now : Int} {bt : Nat} (hb : s.bt ≤ bt) (l : List Ins) : InsOk ⟨s.nm, s.p, now, bt, l⟩ x :=
  ⟨h.st, h.s0, h.s1, h.u0, h.u1, h.u2, by obtain ⟨k, hk, e⟩ := h.id; exact ⟨k, by show k < bt; omega, e⟩, h.sz⟩
theorem rdy_now {s : PS} {now : Int} (h : rdy s now = 0) : 0 ≤ now ∧ now ≤ 1073741824 ∧ s.now ≤ now := by
  rcases rdy_cases s now with ⟨h1, _⟩ | ⟨h1, _⟩ | ⟨_, h1, h2⟩
  · omega
  · omega
  · have := inB_iff.1 h1; omega
theorem PS.ok.take {s : PS} (h : s.ok) {now : Int} (hn : rdy s now = 0) {k : Nat} {x : Ins} (hk : s.l[k]? = some x) (hx : x.st = 2) : (⟨s.nm, s.p, now, s.bt, s.l.modify k (tak now)⟩ : PS).ok := by
  have ho := h.els x (List.mem_of_getElem? hk)
  have ht := rdy_now hn
  refine h.turn hn (by rw [List.length_modify]; exact h.len) (fun y hy => ?_) (by rw [mod_ids (f := tak now) (fun _ => rfl)]; exact h.nodup)
  rcases mem_mod hy with hy | ⟨x', hx', rfl⟩
  · exact (h.els y hy).more (Nat.le_refl _) _
  · rw [hk] at hx'
    injection hx' with hx'
    subst hx'
    have hu := ho.u2 hx
    have hu0 := ho.u0
    exact ⟨.inr rfl, ht.1, by show now ≤ _; omega, by show 1 ≤ x.uses + 1; omega, by show x.uses + 1 ≤ s.p.us; omega, fun e => absurd e (by show ¬ (3 : Int) = 2; omega), ho.id, ho.sz⟩
theorem PS.ok.bring {s : PS} (h : s.ok) {now : Int} (hn : rdy s now = 0) {k : Nat} {x : Ins} (hk : s.l[k]? = some x) (hx : ¬ s.p.us ≤ x.uses) : (⟨s.nm, s.p, now, s.bt, s.l.modify k (bck now)⟩ : PS).ok := by
  have ho := h.els x (List.mem_of_getElem? hk)
  have ht := rdy_now hn
  refine h.turn hn (by rw [List.length_modify]; exact h.len) (fun y hy => ?_) (by rw [mod_ids (f := bck now) (fun _ => rfl)]; exact h.nodup)
  rcases mem_mod hy with hy | ⟨x', hx', rfl⟩
  · exact (h.els y hy).more (Nat.le_refl _) _
  · rw [hk] at hx'
    injection hx' with hx'
    subst hx'
    exact ⟨.inl rfl, ht.1, by show now ≤ _; omega, ho.u0, ho.u1, fun _ => by show x.uses < s.p.us; omega, ho.id, ho.sz⟩
theorem PS.ok.sub {s : PS} (h : s.ok) {now : Int} (hn : rdy s now = 0) {l : List Ins} (hl : l.Sublist s.l) : (⟨s.nm, s.p, now, s.bt, l⟩ : PS).ok :=
  h.turn hn (by have := hl.length_le; have := h.len; omega) (fun y hy => (h.els y (hl.subset hy)).more (Nat.le_refl _) _) (h.nodup.sublist (hl.map _))
theorem PS.ok.boots {s : PS} (h : s.ok) {now : Int} (hn : rdy s now = 0) (hl : ¬ s.p.mx ≤ s.l.length) (hz : ¬ 64 < (chB s.nm s.bt).size) : (⟨s.nm, s.p, now, s.bt + 1, s.l ++ [⟨chB s.nm s.bt, 3, now + s.p.boot, 1⟩]⟩ : PS).ok := by
  have ht := rdy_now hn
  have hb := h.boot
  have hu := h.us
  refine h.turn hn (by rw [List.length_append]; simp; omega) (fun y hy => ?_) ?_
  · rcases List.mem_append.1 hy with hy | hy
    · exact (h.els y hy).more (by omega) _
    · rw [List.mem_singleton] at hy
      subst hy
      exact ⟨.inr rfl, by show 0 ≤ now + s.p.boot; omega, by show now + s.p.boot ≤ _; omega, by show (1 : Int) ≤ 1; omega, by show (1 : Int) ≤ s.p.us; omega, fun e => absurd e (by show ¬ (3 : Int) = 2; omega), ⟨s.bt, by show s.bt < s.bt + 1; omega, rfl⟩, by show (chB s.nm s.bt).size ≤ 64; omega⟩
  · rw [List.map_append, List.nodup_append]
    refine ⟨h.nodup, by simp, fun a ha b hb' => ?_⟩
    simp only [List.map_cons, List.map_nil, List.mem_singleton] at hb'
    subst hb'
    obtain ⟨x, hx, rfl⟩ := List.mem_map.1 ha
    exact h.fresh x hx
/-- What stays, whatever is called. -/
structure Same (s t : PS) : Prop where
  nm : t.nm = s.nm
  p : t.p = s.p
  bt : t.bt ≤ s.bt + 1
  lo : s.bt ≤ t.bt
theorem Same.refl (s : PS) : Same s s := ⟨rfl, rfl, by omega, by omega⟩
theorem acq_ok {s : PS} (h : s.ok) (now : Int) : (acqS s now).1.ok ∧ Same s (acqS s now).1 := by
  unfold acqS
  split
  · rename_i hr
    unfold acqG
    split
    · rename_i hw
      rcases wk_cases s.l s.l.length with ⟨h1, _⟩ | ⟨j, x, h1, h2, h3, h4⟩
      · exact absurd hw (by unfold wrm; omega)
      · have e : (wrm s.l).toNat = j := by unfold wrm; omega
        rw [e]
        exact ⟨h.take hr h3 h4, ⟨rfl, rfl, by simp, by simp⟩⟩
    · split
      · exact ⟨h, Same.refl s⟩
      · rename_i hl
        split
        · exact ⟨h, Same.refl s⟩
        · rename_i hz
          exact ⟨h.boots hr hl hz, ⟨rfl, rfl, by simp, by simp⟩⟩
  · exact ⟨h, Same.refl s⟩
theorem rel_ok {s : PS} (h : s.ok) (id : ByteArray) (now : Int) : (relS s id now).1.ok ∧ Same s (relS s id now).1 := by
  unfold relS
  split
  · rename_i hr
    unfold relG
    split
    · rename_i x hx
      unfold relX
      rcases fd_cases s.l id with ⟨_, h2, _⟩ | ⟨k, y, h2, h3, h4, h5, _⟩
      · rw [hx] at h2; cases h2
      · rw [hx] at h5
        injection h5 with h5
        subst h5
        rw [h2, Int.toNat_natCast]
        split
        · exact ⟨h, Same.refl s⟩
        · split
          · exact ⟨h, Same.refl s⟩
          · split
            · exact ⟨h.sub hr (List.eraseIdx_sublist _ _), ⟨rfl, rfl, by simp, by simp⟩⟩
            · rename_i hu
              exact ⟨h.bring hr h3 hu, ⟨rfl, rfl, by simp, by simp⟩⟩
    · exact ⟨h, Same.refl s⟩
  · exact ⟨h, Same.refl s⟩
theorem cra_ok {s : PS} (h : s.ok) (id : ByteArray) (now : Int) : (craS s id now).1.ok ∧ Same s (craS s id now).1 := by
  unfold craS
  split
  · rename_i hr
    unfold craG
    split
    · exact ⟨h.sub hr (List.eraseIdx_sublist _ _), ⟨rfl, rfl, by simp, by simp⟩⟩
    · exact ⟨h, Same.refl s⟩
  · exact ⟨h, Same.refl s⟩
theorem exp_ok {s : PS} (h : s.ok) (now : Int) : (expS s now).1.ok ∧ Same s (expS s now).1 := by
  unfold expS
  split
  · rename_i hr
    exact ⟨h.sub hr List.filter_sublist, ⟨rfl, rfl, by simp [expG], by simp [expG]⟩⟩
  · exact ⟨h, Same.refl s⟩
end Go.Proofs.YtmpaogmfceldjaaDoor
