/- The symbolic machine: what its values, its blocks and its states stand for. -/
import Derived.Test.YtfhcngnmgfkdkaaGreatDoorTG
namespace Go.Proofs.YtfhcngnmgfkdkaaGreatDoor
namespace Sy
open Go.RowKit

/-! ### trees -/
theorem Nat.beq_no {a b : Nat} (h : a ≠ b) : Nat.beq a b = false := by
  cases e : Nat.beq a b with
  | false => rfl
  | true => exact absurd (Nat.eq_of_beq_eq_true e) h
theorem Nat.beq_yes {a b : Nat} (h : a = b) : Nat.beq a b = true := by subst h; exact Nat.beq_refl a
theorem Tr.set_same {α : Type} (x : α) : ∀ (n : Nat) (t : Tr α) (k : Nat), k + 1 < 2 ^ n → (Tr.set x n t k).get k = some x := by
  intro n
  induction n with
  | zero => intro t k h; simp at h
  | succ n ih =>
    intro t k h
    have h2 : k + 1 < 2 * 2 ^ n := by rw [Nat.pow_succ] at h; omega
    by_cases h0 : k = 0
    · subst h0; cases t <;> simp [Tr.set, Tr.get]
    · have b0 := Nat.beq_no h0
      by_cases h1 : k % 2 = 1
      · have b1 : Nat.beq (k % 2) 1 = true := Nat.beq_yes h1
        cases t <;> simp only [Tr.set, Tr.get, b0, b1] <;> exact ih _ _ (by omega)
      · have b1 : Nat.beq (k % 2) 1 = false := Nat.beq_no h1
        cases t <;> simp only [Tr.set, Tr.get, b0, b1] <;> exact ih _ _ (by omega)
theorem Tr.get_lf {α : Type} (k : Nat) : (Tr.lf : Tr α).get k = none := by unfold Tr.get; rfl
theorem Tr.set_other {α : Type} (x : α) : ∀ (n : Nat) (t : Tr α) (k j : Nat), j ≠ k → (Tr.set x n t k).get j = t.get j := by
  intro n
  induction n with
  | zero => intro t k j _; simp [Tr.set]
  | succ n ih =>
    intro t k j hj
    by_cases k0 : k = 0
    · subst k0
      have b0 := Nat.beq_no hj
      cases t <;> simp only [Tr.set, Tr.get, b0] <;> (split <;> simp)
    · have b0 := Nat.beq_no k0
      by_cases j0 : j = 0
      · subst j0
        cases t <;> simp only [Tr.set, b0] <;> split <;> simp [Tr.get]
      · have c0 := Nat.beq_no j0
        by_cases h1 : k % 2 = 1
        · have b1 : Nat.beq (k % 2) 1 = true := Nat.beq_yes h1
          by_cases g1 : j % 2 = 1
          · have c1 : Nat.beq (j % 2) 1 = true := Nat.beq_yes g1
            cases t <;> simp only [Tr.set, Tr.get, b0, b1, c0, c1] <;> rw [ih _ _ _ (by omega)]
            exact Tr.get_lf _
          · have c1 : Nat.beq (j % 2) 1 = false := Nat.beq_no g1
            cases t <;> simp [Tr.set, Tr.get, b0, b1, c0, c1]
        · have b1 : Nat.beq (k % 2) 1 = false := Nat.beq_no h1
          by_cases g1 : j % 2 = 1
          · have c1 : Nat.beq (j % 2) 1 = true := Nat.beq_yes g1
            cases t <;> simp [Tr.set, Tr.get, b0, b1, c0, c1]
          · have c1 : Nat.beq (j % 2) 1 = false := Nat.beq_no g1
            cases t <;> simp only [Tr.set, Tr.get, b0, b1, c0, c1] <;> rw [ih _ _ _ (by omega)]
            exact Tr.get_lf _
theorem Tr.put_same {α : Type} (t : Tr α) (k : Nat) (x : α) (h : k < 1000000) : (t.put k x).get k = some x :=
  Tr.set_same x 20 t k (by have : (2 : Nat) ^ 20 = 1048576 := by decide
                           omega)
theorem Tr.put_other {α : Type} (t : Tr α) {k j : Nat} (x : α) (h : j ≠ k) : (t.put k x).get j = t.get j := Tr.set_other x 20 t k j h

/-! ### words -/
theorem need_some {b : Bool} {α : Type} {x : Option α} {y : α} (h : need b x = some y) : b = true ∧ x = some y := by
  cases b with
  | false => cases h
  | true => exact ⟨rfl, h⟩
theorem ltB {a b : Nat} (h : Nat.blt a b = true) : a < b := Nat.le_of_ble_eq_true h
theorem leB {a b : Nat} (h : Nat.ble a b = true) : a ≤ b := Nat.le_of_ble_eq_true h
theorem eqB {a b : Nat} (h : Nat.beq a b = true) : a = b := Nat.eq_of_beq_eq_true h
theorem and2 {a b : Bool} (h : (a && b) = true) : a = true ∧ b = true := by simpa using h
theorem mapO_some {α β : Type} {g : α → Option β} : ∀ {l : List α} {r : List β}, mapO g l = some r → r.length = l.length ∧ ∀ (j : Nat) (x : α), l[j]? = some x → ∃ y, g x = some y ∧ r[j]? = some y
  | [], r, h => by simp only [mapO, Option.some.injEq] at h; subst h; exact ⟨rfl, fun j x hx => by simp at hx⟩
  | a :: l, r, h => by
    simp only [mapO] at h
    split at h
    · cases h
    · rename_i y hy
      split at h
      · cases h
      · rename_i r' hr
        simp only [Option.some.injEq] at h
        subst h
        obtain ⟨h1, h2⟩ := mapO_some hr
        refine ⟨by simp [h1], fun j x hx => ?_⟩
        cases j with
        | zero => simp only [List.getElem?_cons_zero, Option.some.injEq] at hx; subst hx; exact ⟨y, hy, rfl⟩
        | succ j => simp only [List.getElem?_cons_succ] at hx ⊢; exact h2 j x hx
theorem seg_some {cs l : List SV} {o n : Nat} (h : seg cs o n = some l) : o + n ≤ cs.length ∧ l.length = n ∧ ∀ j, j < n → l[j]? = cs[o + j]? := by
  obtain ⟨h1, h2⟩ := need_some h
  have h1 := leB h1
  simp only [Option.some.injEq] at h2
  subst h2
  refine ⟨h1, by simp; omega, fun j hj => ?_⟩
  simp [List.getElem?_drop, hj]
theorem spl_get {α : Type} (cs l : List α) (o : Nat) (h : o + l.length ≤ cs.length) (j : Nat) : (cs.take o ++ l ++ cs.drop (o + l.length))[j]? = if j < o then cs[j]? else if j < o + l.length then l[j - o]? else cs[j]? := by
  by_cases h1 : j < o
  · rw [if_pos h1, List.append_assoc, List.getElem?_append_left (by simp; omega), List.getElem?_take, if_pos h1]
  · rw [if_neg h1, List.append_assoc, List.getElem?_append_right (by simp; omega)]
    have e1 : (List.take o cs).length = o := by simp; omega
    rw [e1]
    by_cases h2 : j < o + l.length
    · rw [if_pos h2, List.getElem?_append_left (by omega)]
    · rw [if_neg h2, List.getElem?_append_right (by omega), List.getElem?_drop]
      congr 1
      omega
theorem spl_len {α : Type} (cs l : List α) (o : Nat) (h : o + l.length ≤ cs.length) : (cs.take o ++ l ++ cs.drop (o + l.length)).length = cs.length := by
  simp; omega

/-! ### what a value stands for -/
structure Env where
  r : Nat → Option Nat
  c : Nat → Option Nat
def Env.le (E F : Env) : Prop := (∀ k x, E.r k = some x → F.r k = some x) ∧ (∀ k x, E.c k = some x → F.c k = some x)
theorem Env.le.refl (E : Env) : E.le E := ⟨fun _ _ h => h, fun _ _ h => h⟩
theorem Env.le.trans {E F G : Env} (h : E.le F) (k : F.le G) : E.le G := ⟨fun i x hx => k.1 i x (h.1 i x hx), fun i x hx => k.2 i x (h.2 i x hx)⟩
def Cp.den (E : Env) : Cp → Option Nat
  | .lit n => some n
  | .of id d => match E.c id with
    | some c => some (c - d)
    | none => none
mutual
def den (E : Env) : SV → Option Value
  | .bo x => some (.bool x)
  | .it k n => some (.int k n)
  | .st x => some (.string ⟨x.toArray⟩)
  | .p0 => some (.pointer none)
  | .pt id o => match E.r id with
    | some r => some (.pointer (some ⟨r, o, none⟩))
    | none => none
  | .s0 => some (.slice none 0 0)
  | .sl id o n c => match E.r id with
    | some r => match c.den E with
      | some m => if n ≤ m then some (.slice (some ⟨r, o, none⟩) n m) else none
      | none => none
    | none => none
  | .m0 => some (.map none)
  | .mm id => match E.r id with
    | some r => some (.map (some r))
    | none => none
  | .fu g x y => match denL E x with
    | some x => match denL E y with
      | some y => some (.func (.func g) x.toArray y.toArray)
      | none => none
    | none => none
  | .nf => some .nilFunc
  | .ni => some .nilIface
  | .ifc t v => match den E v with
    | some v => some (.iface t v)
    | none => none
  | .ag l => match denL E l with
    | some l => some (.agg l.toArray)
    | none => none
  | .tu l => match denL E l with
    | some l => some (.tuple l.toArray)
    | none => none
def denL (E : Env) : List SV → Option (List Value)
  | [] => some []
  | v :: l => match den E v with
    | some x => match denL E l with
      | some r => some (x :: r)
      | none => none
    | none => none
end
theorem Cp.den_mono {E F : Env} (h : E.le F) {c : Cp} {m : Nat} (hc : c.den E = some m) : c.den F = some m := by
  cases c with
  | lit n => exact hc
  | of id d =>
    simp only [Cp.den] at hc ⊢
    split at hc
    · rename_i k hk
      rw [h.2 _ _ hk]
      exact hc
    · cases hc
mutual
theorem den_mono {E F : Env} (h : E.le F) : ∀ (v : SV) {x : Value}, den E v = some x → den F v = some x
  | .bo _, _, e => e
  | .it _ _, _, e => e
  | .st _, _, e => e
  | .p0, _, e => e
  | .pt id o, x, e => by
    simp only [den] at e ⊢
    split at e
    · rename_i r hr; rw [h.1 _ _ hr]; exact e
    · cases e
  | .s0, _, e => e
  | .sl id o n c, x, e => by
    simp only [den] at e ⊢
    split at e
    · rename_i r hr
      rw [h.1 _ _ hr]
      split at e
      · rename_i m hm
        rw [Cp.den_mono h hm]
        exact e
      · cases e
    · cases e
  | .m0, _, e => e
  | .mm id, x, e => by
    simp only [den] at e ⊢
    split at e
    · rename_i r hr; rw [h.1 _ _ hr]; exact e
    · cases e
  | .fu g x y, z, e => by
    simp only [den] at e ⊢
    split at e
    · rename_i a ha
      rw [denL_mono h x ha]
      split at e
      · rename_i b hb
        rw [denL_mono h y hb]
        exact e
      · cases e
    · cases e
  | .nf, _, e => e
  | .ni, _, e => e
  | .ifc t v, x, e => by
    simp only [den] at e ⊢
    split at e
    · rename_i a ha; rw [den_mono h v ha]; exact e
    · cases e
  | .ag l, x, e => by
    simp only [den] at e ⊢
    split at e
    · rename_i a ha; rw [denL_mono h l ha]; exact e
    · cases e
  | .tu l, x, e => by
    simp only [den] at e ⊢
    split at e
    · rename_i a ha; rw [denL_mono h l ha]; exact e
    · cases e
theorem denL_mono {E F : Env} (h : E.le F) : ∀ (l : List SV) {x : List Value}, denL E l = some x → denL F l = some x
  | [], _, e => e
  | v :: l, x, e => by
    simp only [denL] at e ⊢
    split at e
    · rename_i a ha
      rw [den_mono h v ha]
      split at e
      · rename_i b hb
        rw [denL_mono h l hb]
        exact e
      · cases e
    · cases e
end
theorem denL_some {E : Env} : ∀ {l : List SV} {x : List Value}, denL E l = some x → x.length = l.length ∧ ∀ (j : Nat) (v : SV), l[j]? = some v → ∃ y, den E v = some y ∧ x[j]? = some y
  | [], x, h => by simp only [denL, Option.some.injEq] at h; subst h; exact ⟨rfl, fun j v hv => by simp at hv⟩
  | a :: l, x, h => by
    simp only [denL] at h
    split at h
    · rename_i y hy
      split at h
      · rename_i r hr
        simp only [Option.some.injEq] at h
        subst h
        obtain ⟨h1, h2⟩ := denL_some hr
        refine ⟨by simp [h1], fun j v hv => ?_⟩
        cases j with
        | zero => simp only [List.getElem?_cons_zero, Option.some.injEq] at hv; subst hv; exact ⟨y, hy, rfl⟩
        | succ j => simp only [List.getElem?_cons_succ] at hv ⊢; exact h2 j v hv
      · cases h
    · cases h
theorem denL_of {E : Env} : ∀ {l : List SV} {x : List Value}, x.length = l.length → (∀ (j : Nat) (v : SV), l[j]? = some v → ∃ y, den E v = some y ∧ x[j]? = some y) → denL E l = some x
  | [], x, h, _ => by
    have : x = [] := List.eq_nil_of_length_eq_zero (by simpa using h)
    subst this; rfl
  | a :: l, x, h, k => by
    cases x with
    | nil => simp at h
    | cons b r =>
      obtain ⟨y, hy, e⟩ := k 0 a rfl
      simp only [List.getElem?_cons_zero, Option.some.injEq] at e
      subst e
      have hr : denL E l = some r := denL_of (by simpa using h) fun j v hv => by
        have := k (j + 1) v (by simpa using hv)
        simpa using this
      simp only [denL, hy, hr]
theorem denL_append {E : Env} {a b : List SV} {x y : List Value} (h : denL E a = some x) (k : denL E b = some y) : denL E (a ++ b) = some (x ++ y) := by
  obtain ⟨h1, h2⟩ := denL_some h
  obtain ⟨k1, k2⟩ := denL_some k
  refine denL_of (by simp [h1, k1]) fun j v hv => ?_
  by_cases hj : j < a.length
  · rw [List.getElem?_append_left hj] at hv
    rw [List.getElem?_append_left (by omega)]
    exact h2 j v hv
  · rw [List.getElem?_append_right (by omega)] at hv
    rw [List.getElem?_append_right (by omega), h1]
    exact k2 _ v hv
theorem den_one {E : Env} {v : SV} {x : Value} (h : den E v = some x) (h1 : v.one = true) : x.oneCell' = true := by
  cases v <;> simp only [den] at h <;> first
    | (simp [SV.one] at h1; done)
    | (repeat' (split at h)) <;> first
      | (cases h; done)
      | (injection h with h; subst h; rfl)
theorem den_cells {E : Env} {v : SV} {x : Value} (h : den E v = some x) : denL E v.cells = some x.cells.toList := by
  cases v <;> simp only [den] at h
  case ag l =>
    split at h
    · rename_i a ha
      injection h with h
      subst h
      simpa [SV.cells, Value.cells] using ha
    · cases h
  all_goals
    (have h' := h
     (repeat' (split at h)) <;> first
      | (cases h; done)
      | (injection h with h
         subst h
         first
           | (simp only [SV.cells, denL, den, Value.cells]; done)
           | (simp only [SV.cells, denL, den, Value.cells]; simp_all)))
theorem ofC_den {E : Env} {v : Value} {s : SV} (h : ofC v = some s) : den E s = some v := by
  unfold ofC at h
  split at h <;> first
    | (cases h; done)
    | (injection h with h; subst h; simp [den])
theorem mapO_ofC {E : Env} {l : List Value} {r : List SV} (h : mapO ofC l = some r) : denL E r = some l := by
  obtain ⟨h1, h2⟩ := mapO_some h
  refine denL_of h1.symm fun j v hv => ?_
  have hj : j < l.length := by
    rw [← h1]
    exact (List.getElem?_eq_some_iff.1 hv).1
  obtain ⟨y, hy, e⟩ := h2 j l[j] (List.getElem?_eq_getElem hj)
  rw [hv] at e
  injection e with e
  subst e
  exact ⟨_, ofC_den hy, List.getElem?_eq_getElem hj⟩
theorem ofV_den {E : Env} {v : Value} {s : SV} (h : ofV v = some s) : den E s = some v := by
  unfold ofV at h
  split at h
  · split at h
    · rename_i l hl
      injection h with h
      subst h
      simp [den, mapO_ofC (E := E) hl]
    · cases h
  · split at h
    · rename_i l hl
      injection h with h
      subst h
      simp [den, mapO_ofC (E := E) hl]
    · cases h
  · exact ofC_den h
end Sy
end Go.Proofs.YtfhcngnmgfkdkaaGreatDoor
