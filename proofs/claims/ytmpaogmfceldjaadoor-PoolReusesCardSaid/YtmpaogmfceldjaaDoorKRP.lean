/- The pool and what was told of it: plain laws for PoolReuses. -/
import Derived.Test.YtmpaogmfceldjaaDoorKWM
namespace Go.Proofs.YtmpaogmfceldjaaDoor
open Go.RowKit

theorem hasB_iff {U : List ByteArray} {y : ByteArray} : hasB U y = true ↔ y ∈ U := by
  unfold hasB
  rw [List.any_eq_true]
  exact ⟨fun ⟨x, hx, e⟩ => by rw [eqS_iff] at e; subst e; exact hx, fun h => ⟨y, h, eqS_self y⟩⟩
theorem hasB_no {U : List ByteArray} {y : ByteArray} : hasB U y = false ↔ ¬ y ∈ U := by rw [← hasB_iff, Bool.not_eq_true]
theorem uses_app (T : List ByteArray) (a y : ByteArray) : usesN (T ++ [a]) y = usesN T y + if eqS a y = true then 1 else 0 := by
  unfold usesN
  rw [List.filter_append, List.length_append]
  cases h : eqS a y <;> simp [h]
theorem uses_none {T : List ByteArray} {y : ByteArray} (h : ¬ y ∈ T) : usesN T y = 0 := by
  unfold usesN
  rw [List.length_eq_zero_iff, List.filter_eq_nil_iff]
  intro x hx e
  rw [eqS_iff] at e
  subst e
  exact h hx
theorem uses_some {T : List ByteArray} {y : ByteArray} (h : 0 < usesN T y) : y ∈ T := by
  rcases Classical.em (y ∈ T) with h' | h'
  · exact h'
  · rw [uses_none h'] at h; omega
/-- One, if it is busy. -/
def b1 (x : Ins) : Nat := if x.st = 3 then 1 else 0
theorem busy_cons (x : Ins) (l : List Ins) : busyN (x :: l) = b1 x + busyN l := by
  unfold busyN b1
  rw [List.filter_cons]
  by_cases h : x.st = 3 <;> simp [h]; omega
theorem busy_app (l : List Ins) (x : Ins) : busyN (l ++ [x]) = busyN l + b1 x := by
  induction l with
  | nil => rw [List.nil_append, busy_cons]; simp [busyN]
  | cons a r ih => rw [List.cons_append, busy_cons, busy_cons, ih]; omega
theorem busy_mod (f : Ins → Ins) : ∀ (l : List Ins) (k : Nat) (x : Ins), l[k]? = some x → busyN (l.modify k f) + b1 x = busyN l + b1 (f x)
  | [], k, x, h => by simp at h
  | a :: r, 0, x, h => by
    rw [List.getElem?_cons_zero] at h
    injection h with h
    subst h
    rw [List.modify_zero_cons, busy_cons, busy_cons]; omega
  | a :: r, k + 1, x, h => by
    rw [List.getElem?_cons_succ] at h
    rw [List.modify_succ_cons, busy_cons, busy_cons]
    have := busy_mod f r k x h
    omega
theorem busy_erase : ∀ (l : List Ins) (k : Nat) (x : Ins), l[k]? = some x → busyN (l.eraseIdx k) + b1 x = busyN l
  | [], k, x, h => by simp at h
  | a :: r, 0, x, h => by
    rw [List.getElem?_cons_zero] at h
    injection h with h
    subst h
    rw [List.eraseIdx_cons_zero, busy_cons]; omega
  | a :: r, k + 1, x, h => by
    rw [List.getElem?_cons_succ] at h
    rw [List.eraseIdx_cons_succ, busy_cons, busy_cons]
    have := busy_erase r k x h
    omega
theorem busy_filter (p : Ins → Bool) : ∀ l : List Ins, (∀ x ∈ l, p x = false → x.st ≠ 3) → busyN (l.filter p) = busyN l
  | [], _ => rfl
  | a :: r, h => by
    have ih := busy_filter p r fun x hx => h x (by simp [hx])
    rw [List.filter_cons, busy_cons]
    cases hp : p a
    · have := h a (by simp) hp
      simp only [Bool.false_eq_true, if_false]
      rw [ih]; unfold b1; rw [if_neg this]; omega
    · simp only [if_true]
      rw [busy_cons, ih]
theorem busy_all : ∀ l : List Ins, (∀ x ∈ l, x.st = 3) → busyN l = l.length
  | [], _ => rfl
  | a :: r, h => by rw [busy_cons, busy_all r fun x hx => h x (by simp [hx])]; unfold b1; rw [if_pos (h a (by simp))]; simp; omega
theorem busy_lt : ∀ (l : List Ins) (k : Nat) (x : Ins), l[k]? = some x → x.st ≠ 3 → busyN l < l.length
  | [], k, x, h, _ => by simp at h
  | a :: r, 0, x, h, hx => by
    rw [List.getElem?_cons_zero] at h
    injection h with h
    subst h
    have := busy_le r
    rw [busy_cons]; unfold b1; rw [if_neg hx]; simp; omega
  | a :: r, k + 1, x, h, hx => by
    rw [List.getElem?_cons_succ] at h
    have := busy_lt r k x h hx
    rw [busy_cons]; unfold b1
    simp only [List.length_cons]
    split <;> omega
/-- All but one. -/
def restB (U : List ByteArray) (id : ByteArray) : List ByteArray := U.filter fun u => !eqS u id
theorem mem_rest {U : List ByteArray} {id u : ByteArray} : u ∈ restB U id ↔ u ∈ U ∧ u ≠ id := by
  unfold restB
  rw [List.mem_filter]
  constructor
  · rintro ⟨h, e⟩
    exact ⟨h, fun e' => by subst e'; rw [eqS_self] at e; cases e⟩
  · rintro ⟨h, e⟩
    exact ⟨h, by rw [eqS_no e]; rfl⟩
theorem has_rest {U : List ByteArray} {id y : ByteArray} (h : y ≠ id) : hasB (restB U id) y = hasB U y := by
  rw [Bool.eq_iff_iff, hasB_iff, hasB_iff, mem_rest]
  exact ⟨fun h => h.1, fun h' => ⟨h', h⟩⟩
theorem has_rest_self (U : List ByteArray) (id : ByteArray) : hasB (restB U id) id = false := by
  rw [hasB_no, mem_rest]
  exact fun h => h.2 rfl
theorem rest_none {U : List ByteArray} {id : ByteArray} (h : ¬ id ∈ U) : restB U id = U := by
  unfold restB
  rw [List.filter_eq_self]
  intro u hu
  rw [eqS_no (fun e => h (by rw [← e]; exact hu))]; rfl
theorem rest_len : ∀ (U : List ByteArray) (id : ByteArray), U.Nodup → (restB U id).length + (if hasB U id = true then 1 else 0) = U.length
  | [], _, _ => rfl
  | a :: r, id, h => by
    rw [List.nodup_cons] at h
    by_cases e : a = id
    · subst e
      have h1 : restB (a :: r) a = restB r a := by unfold restB; rw [List.filter_cons, eqS_self]; rfl
      rw [h1, rest_none h.1, if_pos (hasB_iff.2 (by simp))]; rfl
    · have h1 : restB (a :: r) id = a :: restB r id := by unfold restB; rw [List.filter_cons, eqS_no e]; rfl
      have h2 : hasB (a :: r) id = hasB r id := by unfold hasB; rw [List.any_cons, eqS_no e]; rfl
      have := rest_len r id h.2
      rw [h1, h2, List.length_cons, List.length_cons]; omega
theorem mod_cases {l : List Ins} {f : Ins → Ins} (hn : (l.map Ins.id).Nodup) {k : Nat} {x y : Ins} (hk : l[k]? = some x) (hy : y ∈ l.modify k f) : (y ∈ l ∧ y.id ≠ x.id) ∨ y = f x := by
  obtain ⟨j, hj⟩ := List.getElem?_of_mem hy
  rw [List.getElem?_modify] at hj
  cases hl : l[j]? with
  | none => rw [hl] at hj; simp at hj
  | some z =>
    rw [hl] at hj
    simp only [Option.map_eq_map, Option.map_some, Option.some.injEq] at hj
    split at hj
    · rename_i e
      subst e
      rw [hk] at hl
      injection hl with hl
      subst hl
      exact .inr hj.symm
    · rename_i e
      subst hj
      exact .inl ⟨List.mem_of_getElem? hl, fun e' => e (ids_ne hn hl hk e').symm⟩
theorem mem_erase {l : List Ins} (hn : (l.map Ins.id).Nodup) {k : Nat} {x y : Ins} (hk : l[k]? = some x) (hy : y ∈ l.eraseIdx k) : y ∈ l ∧ y.id ≠ x.id := by
  rw [← drp_eq hn hk] at hy
  unfold drp at hy
  obtain ⟨h1, h2⟩ := List.mem_filter.1 hy
  exact ⟨h1, fun e => by rw [e, eqS_self] at h2; cases h2⟩
/-- The pool, and what was told of it. -/
structure Reu (s : PS) (T U : List ByteArray) : Prop where
  uses : ∀ x ∈ s.l, x.uses = usesN T x.id
  busy : ∀ x ∈ s.l, hasB U x.id = (x.st == 3)
  nodup : U.Nodup
  cnt : busyN s.l = U.length
  told : ∀ t ∈ T, ∃ k : Nat, k < s.bt ∧ t = chB s.nm k
  ub : ∀ u ∈ U, u ∈ T
/-- What is true of an acquired instance. -/
def AcqOk (s t : PS) (now y : Int) (a : ByteArray) (T : List ByteArray) : Prop :=
  (t.bt = s.bt ∧ hasB T a = true ∧ busyN s.l < s.l.length ∧ y = now) ∨ (t.bt = s.bt + 1 ∧ hasB T a = false ∧ busyN s.l = s.l.length ∧ y = now + s.p.boot)
theorem acq_reu {s t : PS} {T U : List ByteArray} {now y : Int} {a : ByteArray} (hok : s.ok) (h : Reu s T U) (e : acqS s now = (t, a, y, 0)) : hasB U a = false ∧ AcqOk s t now y a T ∧ Reu t (T ++ [a]) (U ++ [a]) := by
  unfold acqS at e
  split at e
  · unfold acqG at e
    split at e
    · rename_i hw
      rcases wk_cases s.l s.l.length with ⟨h1, _⟩ | ⟨k, x, h1, h2, hk, hx⟩
      · exact absurd hw (by unfold wrm; omega)
      have e2 : (wrm s.l).toNat = k := by unfold wrm; omega
      have hi : idAt s.l k = x.id := by unfold idAt; rw [hk]
      rw [e2, hi] at e
      simp only [Prod.mk.injEq] at e
      obtain ⟨rfl, rfl, rfl, _⟩ := e
      have hm := List.mem_of_getElem? hk
      have hb : hasB U x.id = false := by rw [h.busy x hm, hx]; rfl
      have hu := h.uses x hm
      have hu0 := (hok.els x hm).u0
      have hT : x.id ∈ T := uses_some (by omega)
      refine ⟨hb, .inl ⟨rfl, hasB_iff.2 hT, busy_lt _ _ _ hk (by rw [hx]; omega), rfl⟩, fun y hy => ?_, fun y hy => ?_, ?_, ?_, fun t ht => ?_, fun u hu => ?_⟩
      · rcases mod_cases hok.nodup hk hy with ⟨h3, h4⟩ | rfl
        · rw [uses_app, eqS_no (fun e => h4 e.symm), h.uses y h3]; rfl
        · show x.uses + 1 = (usesN (T ++ [x.id]) x.id : Int)
          rw [uses_app, eqS_self, hu]; simp
      · rcases mod_cases hok.nodup hk hy with ⟨h3, h4⟩ | rfl
        · rw [← h.busy y h3]
          unfold hasB
          rw [List.any_append]
          simp [eqS_no (fun e => h4 e.symm)]
        · show hasB (U ++ [x.id]) x.id = true
          rw [hasB_iff]; simp
      · rw [List.nodup_append]
        exact ⟨h.nodup, by simp, fun u hu v hv e => by rw [List.mem_singleton] at hv; subst hv e; exact hasB_no.1 hb hu⟩
      · have := busy_mod (tak now) s.l k x hk
        have h3 : b1 x = 0 := by unfold b1; rw [if_neg (by rw [hx]; omega)]
        have h4 : b1 (tak now x) = 1 := rfl
        rw [List.length_append, ← h.cnt]
        show busyN (s.l.modify k (tak now)) = busyN s.l + 1
        omega
      · rcases List.mem_append.1 ht with ht | ht
        · exact h.told t ht
        · rw [List.mem_singleton] at ht; subst ht; exact h.told _ hT
      · rcases List.mem_append.1 hu with hu | hu
        · exact List.mem_append_left _ (h.ub u hu)
        · rw [List.mem_singleton] at hu; subst hu; exact List.mem_append_left _ hT
    · rename_i hw
      split at e
      · simp at e
      split at e
      · simp at e
      simp only [Prod.mk.injEq] at e
      obtain ⟨rfl, rfl, rfl, _⟩ := e
      have hall : ∀ x ∈ s.l, x.st = 3 := by
        intro x hx
        obtain ⟨j, hj⟩ := List.getElem?_of_mem hx
        rcases wk_cases s.l s.l.length with ⟨_, h2⟩ | ⟨k, x, h1, _⟩
        · rcases (hok.els x hx).st with h3 | h3
          · exact absurd h3 (h2 j x (List.getElem?_eq_some_iff.1 hj).1 hj)
          · exact h3
        · exact absurd (show 0 ≤ wrm s.l by unfold wrm; omega) hw
      have hT : ¬ chB s.nm s.bt ∈ T := fun ht => by
        obtain ⟨k, hk, e⟩ := h.told _ ht
        have := chB_inj e
        omega
      have hU : ¬ chB s.nm s.bt ∈ U := fun hu => hT (h.ub _ hu)
      have hfr := hok.fresh
      refine ⟨hasB_no.2 hU, .inr ⟨rfl, hasB_no.2 hT, busy_all _ hall, rfl⟩, fun y hy => ?_, fun y hy => ?_, ?_, ?_, fun t ht => ?_, fun u hu => ?_⟩
      · rcases List.mem_append.1 hy with hy | hy
        · rw [uses_app, eqS_no (fun e => hfr y hy e.symm), h.uses y hy]; rfl
        · rw [List.mem_singleton] at hy
          subst hy
          show (1 : Int) = (usesN (T ++ [chB s.nm s.bt]) (chB s.nm s.bt) : Int)
          rw [uses_app, eqS_self, uses_none hT]; simp
      · rcases List.mem_append.1 hy with hy | hy
        · rw [← h.busy y hy]
          unfold hasB
          rw [List.any_append]
          simp [eqS_no (fun e => hfr y hy e.symm)]
        · rw [List.mem_singleton] at hy
          subst hy
          show hasB (U ++ [chB s.nm s.bt]) (chB s.nm s.bt) = true
          rw [hasB_iff]; simp
      · rw [List.nodup_append]
        exact ⟨h.nodup, by simp, fun u hu v hv e => by rw [List.mem_singleton] at hv; subst hv e; exact hU hu⟩
      · rw [List.length_append, ← h.cnt]
        show busyN (s.l ++ [_]) = _
        rw [busy_app]; rfl
      · rcases List.mem_append.1 ht with ht | ht
        · obtain ⟨k, hk, e⟩ := h.told t ht
          exact ⟨k, by show k < s.bt + 1; omega, e⟩
        · rw [List.mem_singleton] at ht; subst ht; exact ⟨s.bt, by show s.bt < s.bt + 1; omega, rfl⟩
      · rcases List.mem_append.1 hu with hu | hu
        · exact List.mem_append_left _ (h.ub u hu)
        · exact List.mem_append_right _ hu
  · rename_i hr
    simp only [Prod.mk.injEq] at e
    exact absurd e.2.2.2 hr
/-- An instance is given back, or is gone. -/
theorem done_reu {s t : PS} {T U : List ByteArray} {now : Int} (hok : s.ok) (h : Reu s T U) {k : Nat} {x : Ins} (hk : s.l[k]? = some x) (hnm : t.nm = s.nm) (hbt : t.bt = s.bt) (hl : t.l = s.l.eraseIdx k ∨ (t.l = s.l.modify k (bck now) ∧ x.st = 3)) : Reu t T (restB U x.id) := by
  have hm := List.mem_of_getElem? hk
  have hrl := rest_len U x.id h.nodup
  rw [h.busy x hm] at hrl
  refine ⟨fun y hy => ?_, fun y hy => ?_, h.nodup.filter _, ?_, fun u hu => by rw [hnm, hbt]; exact h.told u hu, fun u hu => h.ub u (mem_rest.1 hu).1⟩
  · rcases hl with hl | ⟨hl, _⟩
    · rw [hl] at hy
      exact h.uses y (mem_erase hok.nodup hk hy).1
    · rw [hl] at hy
      rcases mod_cases hok.nodup hk hy with ⟨h3, _⟩ | rfl
      · exact h.uses y h3
      · exact h.uses x hm
  · rcases hl with hl | ⟨hl, _⟩
    · rw [hl] at hy
      obtain ⟨h3, h4⟩ := mem_erase hok.nodup hk hy
      rw [has_rest h4, h.busy y h3]
    · rw [hl] at hy
      rcases mod_cases hok.nodup hk hy with ⟨h3, h4⟩ | rfl
      · rw [has_rest h4, h.busy y h3]
      · exact has_rest_self U x.id
  · have hc := h.cnt
    rcases hl with hl | ⟨hl, h3⟩
    · rw [hl]
      have := busy_erase s.l k x hk
      unfold b1 at this
      by_cases h3 : x.st = 3
      · rw [if_pos h3] at this; rw [h3] at hrl; simp at hrl; omega
      · rw [if_neg h3] at this
        have e : (x.st == 3) = false := by simpa using h3
        rw [e] at hrl; simp at hrl; omega
    · rw [hl]
      have := busy_mod (bck now) s.l k x hk
      have e1 : b1 x = 1 := by unfold b1; rw [if_pos h3]
      have e2 : b1 (bck now x) = 0 := rfl
      rw [h3] at hrl
      simp at hrl
      omega
theorem rel_reu {s t : PS} {T U : List ByteArray} {now : Int} {id : ByteArray} (hok : s.ok) (h : Reu s T U) (e : relS s id now = (t, 0)) : Reu t T (restB U id) := by
  unfold relS at e
  split at e
  · unfold relG at e
    rcases fd_cases s.l id with ⟨_, h2, _⟩ | ⟨k, x, h2, hk, hid, h5, _⟩
    · rw [h2] at e; simp at e
    · rw [h5, h2, Int.toNat_natCast] at e
      simp only [relX] at e
      subst hid
      split at e
      · simp at e
      rename_i hx
      split at e
      · simp at e
      have h3 : x.st = 3 := by rcases (hok.els x (List.mem_of_getElem? hk)).st with h | h; exact absurd h hx; exact h
      split at e
      · simp only [Prod.mk.injEq] at e
        obtain ⟨rfl, _⟩ := e
        exact done_reu (now := now) hok h hk rfl rfl (.inl rfl)
      · simp only [Prod.mk.injEq] at e
        obtain ⟨rfl, _⟩ := e
        exact done_reu (now := now) hok h hk rfl rfl (.inr ⟨rfl, h3⟩)
  · rename_i hr
    simp only [Prod.mk.injEq] at e
    exact absurd e.2 hr
theorem cra_reu {s t : PS} {T U : List ByteArray} {now : Int} {id : ByteArray} (hok : s.ok) (h : Reu s T U) (e : craS s id now = (t, 0)) : Reu t T (restB U id) := by
  unfold craS at e
  split at e
  · unfold craG at e
    rcases fd_cases s.l id with ⟨_, h2, _⟩ | ⟨k, x, h2, hk, hid, h5, _⟩
    · rw [h2] at e; simp at e
    · rw [h5, h2, Int.toNat_natCast] at e
      subst hid
      simp only [Prod.mk.injEq] at e
      obtain ⟨rfl, _⟩ := e
      exact done_reu (now := now) hok h hk rfl rfl (.inl rfl)
  · rename_i hr
    simp only [Prod.mk.injEq] at e
    exact absurd e.2 hr
theorem old_two {p : PP} {now : Int} {x : Ins} (h : old p now x = true) : x.st = 2 := by
  unfold old at h
  rw [Bool.and_eq_true, decide_eq_true_eq] at h
  exact h.1
theorem exp_reu {s : PS} {T U : List ByteArray} (h : Reu s T U) (now : Int) : Reu (expS s now).1 T U ∧ ∀ i ∈ (expS s now).2, hasB U i = false := by
  unfold expS
  split
  · refine ⟨⟨fun x hx => h.uses x (List.mem_filter.1 hx).1, fun x hx => h.busy x (List.mem_filter.1 hx).1, h.nodup, ?_, h.told, h.ub⟩, fun i hi => ?_⟩
    · rw [← h.cnt]
      refine busy_filter _ _ fun x _ hp => ?_
      have : old s.p now x = true := by simpa using hp
      rw [old_two this]; omega
    · obtain ⟨x, hx, rfl⟩ := List.mem_map.1 hi
      obtain ⟨h1, h2⟩ := List.mem_filter.1 hx
      rw [h.busy x h1, old_two h2]; rfl
  · exact ⟨h, fun i hi => by cases hi⟩
theorem Reu.first {s : PS} (hl : s.l = []) : Reu s [] [] := by
  refine ⟨fun x hx => ?_, fun x hx => ?_, List.nodup_nil, ?_, by simp, by simp⟩
  · rw [hl] at hx; cases hx
  · rw [hl] at hx; cases hx
  · rw [hl]; rfl
end Go.Proofs.YtmpaogmfceldjaaDoor
