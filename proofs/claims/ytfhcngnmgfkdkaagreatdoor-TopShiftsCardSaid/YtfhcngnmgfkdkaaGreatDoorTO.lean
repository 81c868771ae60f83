/- The symbolic machine: a region whose order is open; operations that may be taken first, each under a condition that stands as long as it may be pending. -/
import Derived.Test.YtfhcngnmgfkdkaaGreatDoorTN
import Derived.Tactics
import Derived.Scope
namespace Go.Proofs.YtfhcngnmgfkdkaaGreatDoor
namespace Sy
open Go.RowKit

section
variable {P : Program} {ops : Array Oper} {Q : Exit → Act → World → Prop}
abbrev Tk := Nat × (World → Prop)
/-- An operation that was taken first may still be pending when number i is carried out. -/
def keep (ops : Array Oper) (i : Nat) (t : Tk) : Bool := match ops[i]? with
  | some o => !waits o t.1
  | none => true
/-- Whatever order is picked; behind each operation the conditions of those that may be pending hold. -/
def wpAnyX (P : Program) (ops : Array Oper) (Q : Exit → Act → World → Prop) : Nat → List Tk → Array Bool → Act → World → Prop
  | 0, _, listed, a, w => Region.ready .any ops listed = [] ∧ Q .normal a w
  | n + 1, T, listed, a, w =>
    (Region.ready .any ops listed = [] → Q .normal a w) ∧
    ∀ i ∈ Region.ready .any ops listed, wpOp P ops Q i (fun a' w' => (∀ t ∈ T.filter (keep ops i), t.2 w') ∧ wpAnyX P ops Q n (T.filter (keep ops i)) (listed.setIfInBounds i true) a' w') a w
theorem wpAny_of_X : ∀ (n : Nat) (T : List Tk) (listed : Array Bool) (a : Act) (w : World), wpAnyX P ops Q n T listed a w → wpAny P .any ops Q n listed a w
  | 0, _, _, _, _, h => h
  | n + 1, _, _, _, _, h => ⟨h.1, fun i hi => wpOp_mono (fun a' w' h' => wpAny_of_X n _ _ a' w' h'.2) (h.2 i hi)⟩
theorem wpAnyX_weak : ∀ (n : Nat) {T T' : List Tk} {listed : Array Bool} {a : Act} {w : World}, (∀ t ∈ T', t ∈ T) → wpAnyX P ops Q n T listed a w → wpAnyX P ops Q n T' listed a w
  | 0, _, _, _, _, _, _, h => h
  | n + 1, T, T', _, _, _, hs, h => ⟨h.1, fun i hi => wpOp_mono (fun a' w' h' => by
      have hs' : ∀ t ∈ T'.filter (keep ops i), t ∈ T.filter (keep ops i) := fun t ht => by
        rw [List.mem_filter] at ht ⊢
        exact ⟨hs t ht.1, ht.2⟩
      exact ⟨fun t ht => h'.1 t (hs' t ht), wpAnyX_weak n hs' h'.2⟩) (h.2 i hi)⟩
theorem wpAnyX_true : ∀ (n : Nat) {T : List Tk} {j : Nat} {listed : Array Bool} {a : Act} {w : World}, wpAnyX P ops Q n T listed a w → wpAnyX P ops Q n ((j, fun _ => True) :: T) listed a w
  | 0, _, _, _, _, _, h => h
  | n + 1, T, j, _, _, _, h => ⟨h.1, fun i hi => wpOp_mono (fun a' w' h' => by
      rw [List.filter_cons]
      split
      · exact ⟨fun t ht => by
          rcases List.mem_cons.1 ht with rfl | ht
          · trivial
          · exact h'.1 t ht, wpAnyX_true n h'.2⟩
      · exact h') (h.2 i hi)⟩
theorem waits_no {o : Oper} {i : Nat} (h : ∀ e ∈ o.after, Region.binds .any e = true → e.on ≠ i) : waits o i = false := by
  unfold waits
  rw [List.any_eq_false]
  intro e he
  rw [Array.mem_toList_iff] at he
  cases hb : Region.binds .any e with
  | false => simp
  | true => simp [Nat.beq_no (h e he hb)]
/-- **An operation that may come up now may be taken first**, if it yields its value in every world that meets F, and F is shown behind each operation that does not wait for it. -/
theorem wpAnyX_first {i : Nat} {oi : Oper} {v : Value} {F : World → Prop} (hi : ops[i]? = some oi) (hsel : ∀ (j : Nat) (o : Oper) cs b, ops[j]? = some o → o.op ≠ .select cs b)
    (hQ : ∀ c a w, Q (.panic c) (a.put oi.dst v) w → Q (.panic c) a w) :
    ∀ (n : Nat) (T : List Tk) (listed : Array Bool) (a : Act) (w : World),
      (∀ j oj, ops[j]? = some oj → j ≠ i → listed.getD j true = false → (∀ e ∈ oj.after, Region.binds .any e = true → e.on ≠ i) → oi.apart ops oj = true) →
      i ∈ Region.ready .any ops listed → YieldsIf P ops F oi v a → F w → (∀ t ∈ T, t.2 w) →
      wpAnyX P ops Q n ((i, F) :: T) (listed.setIfInBounds i true) (a.put oi.dst v) w → wpAnyX P ops Q (n + 1) T listed a w := by
  intro n
  induction n with
  | zero =>
    intro T listed a w _ hr hy hF hT H
    refine ⟨fun h => (by rw [h] at hr; cases hr), fun j hj => ?_⟩
    by_cases hji : j = i
    · subst hji; exact hy.wpOp hi hF ⟨fun t ht => hT t (List.mem_filter.1 ht).1, H⟩
    · have := ready_mono hj hji
      rw [H.1] at this
      cases this
  | succ n ih =>
    intro T listed a w hfree hr hy hF hT H
    refine ⟨fun h => (by rw [h] at hr; cases hr), fun j hj => ?_⟩
    by_cases hji : j = i
    · subst hji
      refine hy.wpOp hi hF ⟨fun t ht => hT t (List.mem_filter.1 ht).1, wpAnyX_weak _ (fun t ht => ?_) H⟩
      exact List.mem_cons_of_mem _ (List.mem_filter.1 ht).1
    · have h1 := H.2 j (ready_mono hj hji)
      obtain ⟨hjun, oj, hoj, hall⟩ := mem_ready.1 hj
      have hnot : ∀ e ∈ oj.after, Region.binds .any e = true → e.on ≠ i := fun e he hb heq => by
        have h1 := hall e he hb
        have h0 := (mem_ready.1 hr).1
        rw [heq] at h1
        rcases Nat.lt_or_ge i listed.size with h' | h'
        · simp [h'] at h0 h1; rw [h0] at h1; cases h1
        · simp [Array.getElem?_eq_none h'] at h1
      have h2 := wpOp_putIf hoj (hfree j oj hoj hji hjun hnot) (fun cs b => hsel i oi cs b hi) (fun cs b => hsel j oj cs b hoj) hQ hy h1
      have hfree' : ∀ k ok, ops[k]? = some ok → k ≠ i → (listed.setIfInBounds j true).getD k true = false →
          (∀ e ∈ ok.after, Region.binds .any e = true → e.on ≠ i) → oi.apart ops ok = true := fun k ok hk hki hun hno => by
        refine hfree k ok hk hki ?_ hno
        by_cases hjk : j = k
        · subst hjk; exact hjun
        · rw [getD_set_ne true hjk] at hun; exact hun
      have hkp : keep ops j (i, F) = true := by simp [keep, hoj, waits_no hnot]
      have hfl : ((i, F) :: T).filter (keep ops j) = (i, F) :: T.filter (keep ops j) := by rw [List.filter_cons, if_pos hkp]
      refine wpOp_mono (fun a' w' h3 => ?_) h2
      obtain ⟨hy', hf, hrest⟩ := h3
      rw [hfl] at hf hrest
      refine ⟨fun t ht => hf t (List.mem_cons_of_mem _ ht), ih _ (listed.setIfInBounds j true) a' w' hfree' (ready_mono hr (Ne.symm hji)) hy' (hf (i, F) (List.mem_cons_self ..)) (fun t ht => hf t (List.mem_cons_of_mem _ ht)) ?_⟩
      rw [Array.setIfInBounds_comm _ _ hji]
      exact hrest
/-- The move of a walk. -/
theorem wpAnyX_take {i : Nat} {oi : Oper} {v : Value} {F : World → Prop} {n : Nat} {T : List Tk} {listed : Array Bool} {a : Act} {w : World} (hi : ops[i]? = some oi)
    (hs : Region.noSelect ops = true) (hf : Region.free .any ops listed i = true) (hr : i ∈ Region.ready .any ops listed)
    (hQ : ∀ c a w, Q (.panic c) (a.put oi.dst v) w → Q (.panic c) a w) (hy : YieldsIf P ops F oi v a) (hF : F w) (hT : ∀ t ∈ T, t.2 w)
    (h : wpAnyX P ops Q n ((i, F) :: T) (listed.setIfInBounds i true) (a.put oi.dst v) w) : wpAnyX P ops Q (n + 1) T listed a w :=
  wpAnyX_first hi (Region.noSelect_spec hs) hQ n T listed a w (Region.free_spec hi hf) hr hy hF hT h
theorem planGo_some {n : Nat} {listed : Array Bool} {π : PT} (h : planGo ops n listed = some π) :
    (n = 0 ∧ Region.ready .any ops listed = [] ∧ π = .done) ∨ ∃ m, n = m + 1 ∧
      ((∃ i p, π = .d i p ∧ i ∈ Region.ready .any ops listed ∧ Region.free .any ops listed i = true ∧ planGo ops m (listed.setIfInBounds i true) = some p) ∨
       (∃ i p, π = .n i p ∧ Region.ready .any ops listed = [i] ∧ planGo ops m (listed.setIfInBounds i true) = some p) ∨
       (∃ i p j q, π = .b i p j q ∧ Region.ready .any ops listed = [i, j] ∧ planGo ops m (listed.setIfInBounds i true) = some p ∧ planGo ops m (listed.setIfInBounds j true) = some q)) := by
  cases n with
  | zero =>
    simp only [planGo] at h
    split at h
    · rename_i hr
      injection h with h
      exact .inl ⟨rfl, hr, h.symm⟩
    · cases h
  | succ m =>
    refine .inr ⟨m, rfl, ?_⟩
    simp only [planGo] at h
    split at h
    · cases h
    · rename_i r rs hr
      split at h
      · rename_i i hf
        split at h
        · rename_i p hp
          injection h with h
          have h1 := List.find?_some hf
          obtain ⟨_, h3⟩ := and2 h1
          exact .inl ⟨i, p, h.symm, by rw [hr]; exact List.mem_of_find?_eq_some hf, h3, hp⟩
        · cases h
      · split at h
        · split at h
          · rename_i p hp
            injection h with h
            exact .inr (.inl ⟨r, p, h.symm, hr, hp⟩)
          · cases h
        · rename_i q hq2
          split at h
          · rename_i x y hx hy
            injection h with h
            exact .inr (.inr ⟨r, x, q, y, h.symm, hr, hx, hy⟩)
          · cases h
        · cases h
end

/-! ### equality, decided -/
theorem Cp.same_eq {a b : Cp} (h : a.same b = true) : a = b := by
  cases a <;> cases b <;> simp only [Cp.same] at h
  · rw [eqB h]
  · cases h
  · cases h
  · obtain ⟨h1, h2⟩ := and2 h
    rw [eqB h1, eqB h2]
mutual
theorem SV.same_eq : ∀ {a b : SV}, SV.same a b = true → a = b
  | .bo x, b, h => by
    cases b <;> simp only [SV.same] at h <;> first | (cases h; done) | rw [eq_of_beq h]
  | .it k n, b, h => by
    cases b <;> simp only [SV.same] at h <;> first | (cases h; done) | (obtain ⟨h1, h2⟩ := and2 h; rw [eq_of_beq h1, eq_of_beq h2])
  | .st x, b, h => by
    cases b <;> simp only [SV.same] at h <;> first | (cases h; done) | rw [eq_of_beq h]
  | .p0, b, h => by
    cases b <;> simp only [SV.same] at h <;> first | (cases h; done) | rfl
  | .pt _ _, b, h => by
    cases b <;> simp only [SV.same] at h <;> first | (cases h; done) | (obtain ⟨h1, h2⟩ := and2 h; rw [eqB h1, eqB h2])
  | .s0, b, h => by
    cases b <;> simp only [SV.same] at h <;> first | (cases h; done) | rfl
  | .sl _ _ _ _, b, h => by
    cases b <;> simp only [SV.same] at h <;> first
      | (cases h; done)
      | (obtain ⟨h1, h2⟩ := and2 h
         obtain ⟨h2, h3⟩ := and2 h2
         obtain ⟨h3, h4⟩ := and2 h3
         rw [eqB h1, eqB h2, eqB h3, Cp.same_eq h4])
  | .m0, b, h => by
    cases b <;> simp only [SV.same] at h <;> first | (cases h; done) | rfl
  | .mm _, b, h => by
    cases b <;> simp only [SV.same] at h <;> first | (cases h; done) | rw [eqB h]
  | .fu _ x y, b, h => by
    cases b <;> simp only [SV.same] at h <;> first
      | (cases h; done)
      | (obtain ⟨h1, h2⟩ := and2 h
         obtain ⟨h2, h3⟩ := and2 h2
         rw [eqB h1, SV.sameL_eq h2, SV.sameL_eq h3])
  | .nf, b, h => by
    cases b <;> simp only [SV.same] at h <;> first | (cases h; done) | rfl
  | .ni, b, h => by
    cases b <;> simp only [SV.same] at h <;> first | (cases h; done) | rfl
  | .ifc _ v, b, h => by
    cases b <;> simp only [SV.same] at h <;> first | (cases h; done) | (obtain ⟨h1, h2⟩ := and2 h; rw [eqB h1, SV.same_eq h2])
  | .ag x, b, h => by
    cases b <;> simp only [SV.same] at h <;> first | (cases h; done) | rw [SV.sameL_eq h]
  | .tu x, b, h => by
    cases b <;> simp only [SV.same] at h <;> first | (cases h; done) | rw [SV.sameL_eq h]
theorem SV.sameL_eq : ∀ {a b : List SV}, SV.sameL a b = true → a = b
  | [], b, h => by
    cases b <;> simp only [SV.sameL] at h <;> first | (cases h; done) | rfl
  | x :: l, b, h => by
    cases b <;> simp only [SV.sameL] at h <;> first | (cases h; done) | (obtain ⟨h1, h2⟩ := and2 h; rw [SV.same_eq h1, SV.sameL_eq h2])
end

/-! ### the cells that loads have read -/
section
variable {P : Program} {E F : Env} {B : Nat} {w0 w : World} {S : SH}
def HOk (E : Env) : List (Nat × Nat × Nat × List SV) → List Tk → Prop
  | [], [] => True
  | h :: H, t :: T => (∃ r xs, E.r h.2.1 = some r ∧ denL E h.2.2.2 = some xs ∧ t = (h.1, fun w => CellsAtW w r h.2.2.1 xs)) ∧ HOk E H T
  | _, _ => False
theorem HOk.mono (hE : E.le F) : ∀ {H : List (Nat × Nat × Nat × List SV)} {T : List Tk}, HOk E H T → HOk F H T
  | [], [], _ => trivial
  | _ :: _, _ :: _, ⟨⟨r, xs, h1, h2, h3⟩, h4⟩ => ⟨⟨r, xs, hE.1 _ _ h1, denL_mono hE _ h2, h3⟩, HOk.mono hE h4⟩
  | [], _ :: _, k => k.elim
  | _ :: _, [], k => k.elim
theorem HOk.stay {ops : Array Oper} {i : Nat} {o : Oper} (ho : ops[i]? = some o) : ∀ {H : List (Nat × Nat × Nat × List SV)} {T : List Tk}, HOk E H T → HOk E (stay o H) (T.filter (keep ops i))
  | [], [], _ => trivial
  | h :: H, t :: T, ⟨⟨r, xs, h1, h2, h3⟩, h4⟩ => by
    have ih := HOk.stay ho h4
    have hk : keep ops i t = !waits o h.1 := by simp [keep, ho, h3]
    rw [List.filter_cons, hk]
    unfold Sy.stay
    cases hw : waits o h.1 with
    | true => simpa using ih
    | false => exact ⟨⟨r, xs, h1, h2, h3⟩, ih⟩
  | [], _ :: _, k => k.elim
  | _ :: _, [], k => k.elim
theorem holds_ok (hI : Inv B w0 E S w) : ∀ {H : List (Nat × Nat × Nat × List SV)} {T : List Tk}, holdsB S H = true → HOk E H T → ∀ t ∈ T, t.2 w
  | [], [], _, _ => fun t ht => by cases ht
  | (k, id, q, l) :: H, t :: T, h, ⟨⟨r, xs, h1, h2, h3⟩, h4⟩ => by
    simp only [holdsB] at h
    split at h
    · rename_i ro cs sp hg
      split at h
      · rename_i l' hs
        split at h
        · rename_i he
          have he := SV.sameL_eq he
          subst he
          intro u hu
          rcases List.mem_cons.1 hu with rfl | hu
          · obtain ⟨r', arr, ty, hr', hB, hw, hc, -⟩ := hI.blk _ _ hg
            simp only at h1 h2
            rw [h1] at hr'
            injection hr' with hr'
            subst hr'
            obtain ⟨ys, h5, _, _, h7⟩ := cells_seg hw hc hs
            rw [h2] at h5
            injection h5 with h5
            subst h5
            rw [h3]
            exact h7
          · exact holds_ok hI h h4 u hu
        · cases h
      · cases h
    · cases h
  | [], _ :: _, _, k => k.elim
  | _ :: _, [], _, k => k.elim
end
end Sy
end Go.Proofs.YtfhcngnmgfkdkaaGreatDoor
