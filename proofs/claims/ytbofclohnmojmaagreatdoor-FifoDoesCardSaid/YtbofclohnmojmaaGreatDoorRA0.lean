/- A well-formed value, as the reference reads it: plain. -/
import Derived.Test.YtbofclohnmojmaaGreatDoorY6
namespace Go.Proofs.YtbofclohnmojmaaGreatDoor
open Go.RowKit
open Go.Sort (grow)

/-- A key's cell. -/
def kyB (c : Cel) : Bool := decide (c.k = 4) && c.pl
/-- A list's elements: the rest behind them, their most levels, the length of their texts. -/
def els (g : List Cel → Option (List Cel × Int × Int)) : Nat → List Cel → Option (List Cel × Int × Int)
  | 0, l => some (l, 0, 0)
  | n + 1, l => match g l with
    | none => none
    | some (l1, a1, b1) => match els g n l1 with
      | none => none
      | some (l2, a2, b2) => some (l2, max a1 a2, b1 + b2)
/-- A map's pairs. -/
def prs (g : List Cel → Option (List Cel × Int × Int)) : Nat → Bool → ByteArray → List Cel → Option (List Cel × Int × Int)
  | 0, _, _, l => some (l, 0, 0)
  | _ + 1, _, _, [] => none
  | n + 1, st, la, c :: l =>
    if kyB c = false ∨ (st = true ∧ leB c.s la = true) then none else match g l with
    | none => none
    | some (l1, a1, b1) => match prs g n true c.s l1 with
      | none => none
      | some (l2, a2, b2) => some (l2, max a1 a2, ((qtN c.s : Nat) : Int) + 1 + b1 + b2)
/-- A value: the rest behind it, its levels, the length of its text. -/
def vx : Nat → List Cel → Option (List Cel × Int × Int)
  | 0, _ => none
  | _ + 1, [] => none
  | f + 1, c :: l =>
    if c.pl = false then none
    else if c.k = 5 then (match els (vx f) c.n.toNat l with | none => none | some (l1, a, b) => some (l1, a + 1, c.sz + b))
    else if c.k = 6 then (match prs (vx f) c.n.toNat false ⟨#[]⟩ l with | none => none | some (l1, a, b) => some (l1, a + 1, c.sz + b))
    else some (l, 1, c.sz)
/-- The cells that a reading has passed tell whether a number is out of range, whether a string is long. -/
def outB (l : List Cel) : Bool := l.any fun c => decide (c.k = 3) && !bndB c.i
def lonB (l : List Cel) : Bool := l.any fun c => decide (200 < c.s.size)
/-- How a reading adds to what is known. -/
structure Adds (h : Nat) (l l1 : List Cel) (a b : Int) (s s1 : Shp) : Prop where
  pre : ∃ q, l = q ++ l1 ∧ s1.o = (s.o || outB q) ∧ s1.l = (s.l || lonB q)
  d : s1.d = max s.d ((h : Int) + a)
  b : s1.b = s.b + b
/-- What look goes on with behind a value. -/
def cont (N : Nat) (st : List Opn) (i : Nat) (l : List Cel) (s : Shp) : Option (Nat × Shp) := match closeS st with
  | [] => some (i, s)
  | o :: r => lkS id N l i (o :: r) s
theorem closeS_more {o : Opn} {st : List Opn} (h : 1 < o.l) : closeS (o :: st) = { o with l := o.l - 1, k := o.p } :: st := by show (if 1 < o.l then _ else _) = _; rw [if_pos h]
theorem closeS_last {o : Opn} {st : List Opn} (h : ¬ 1 < o.l) : closeS (o :: st) = closeS st := by show (if 1 < o.l then _ else _) = _; rw [if_neg h]
/-- What look computes of a value. -/
def LkV (N h : Nat) (st : List Opn) (i : Nat) (l : List Cel) (s : Shp) (R : Option (List Cel × Int × Int)) (X : Option (Nat × Shp)) : Prop := match R with
  | none => X = none
  | some (l1, a, b) => ∃ s1, X = cont N st (i + (l.length - l1.length)) l1 s1 ∧ Adds h l l1 a b s s1 ∧ l1.length < l.length ∧ 1 ≤ a
/-- .. of a row of values, in an open list. -/
def LkE (N h : Nat) (st : List Opn) (i : Nat) (l : List Cel) (s : Shp) (n : Nat) (R : Option (List Cel × Int × Int)) (X : Option (Nat × Shp)) : Prop := match R with
  | none => X = none
  | some (l1, a, b) => ∃ s1, X = cont N st (i + (l.length - l1.length)) l1 s1 ∧ Adds (h + 1) l l1 a b s s1 ∧ l1.length + n ≤ l.length ∧ 1 ≤ a
theorem Adds.trans {h : Nat} {l l1 l2 : List Cel} {a b a' b' : Int} {s s1 s2 : Shp} (h1 : Adds h l l1 a b s s1) (h2 : Adds h l1 l2 a' b' s1 s2) : Adds h l l2 (max a a') (b + b') s s2 := by
  obtain ⟨q, rfl, o1, o2⟩ := h1.pre
  obtain ⟨q', rfl, p1, p2⟩ := h2.pre
  refine ⟨⟨q ++ q', by rw [List.append_assoc], ?_, ?_⟩, ?_, ?_⟩
  · rw [p1, o1]; unfold outB; rw [List.any_append, Bool.or_assoc]
  · rw [p2, o2]; unfold lonB; rw [List.any_append, Bool.or_assoc]
  · rw [h2.d, h1.d]; omega
  · rw [h2.b, h1.b]; omega
theorem pl_n {c : Cel} (h : c.pl = true) : 0 ≤ c.n ∧ (0 < c.n → c.k = 5 ∨ c.k = 6) ∧ (c.k = 5 ∨ c.k = 6 → c.s.size = 0) := by
  have h0 := pl_kind h
  refine ⟨h0.2, ?_, ?_⟩
  · intro hn
    unfold Cel.pl plI at h
    repeat' split at h
    all_goals simp only [Bool.and_eq_true, decide_eq_true_eq, Bool.false_eq_true] at h
    all_goals first | omega | (rcases ‹_ ∨ _› with h' | h' <;> simp [h'])
  · intro hk
    unfold Cel.pl plI at h
    rw [if_neg (by omega), if_neg (by omega), if_neg (by omega), if_neg (by omega), if_pos hk] at h
    simp only [Bool.and_eq_true, ebS, decide_eq_true_eq] at h
    exact h.1.2
theorem Adds.key {h : Nat} {c : Cel} {l l1 : List Cel} {a b : Int} {s s1 : Shp} (hA : Adds h l l1 a b (keyS id c s) s1) (hk : c.k = 4) : Adds h (c :: l) l1 a (((qtN c.s : Nat) : Int) + 1 + b) s s1 := by
  obtain ⟨q, rfl, o1, o2⟩ := hA.pre
  refine ⟨⟨c :: q, rfl, ?_, ?_⟩, ?_, ?_⟩
  · rw [o1]
    show (s.o || outB q) = (s.o || outB (c :: q))
    unfold outB
    rw [List.any_cons, decide_eq_false (by omega), Bool.false_and, Bool.false_or]
  · rw [o2]
    show ((s.l || decide (200 < c.s.size)) || lonB q) = (s.l || lonB (c :: q))
    unfold lonB
    rw [List.any_cons, Bool.or_assoc]
  · exact hA.d
  · rw [hA.b]
    show s.b + (((qtN c.s : Nat) : Int) + 1) + b = _
    omega
theorem cont_last {N i : Nat} {o : Opn} {st : List Opn} {l : List Cel} {s : Shp} (h : ¬ 1 < o.l) : cont N (o :: st) i l s = cont N st i l s := by unfold cont; rw [closeS_last h]
theorem cont_more {N i : Nat} {o : Opn} {st : List Opn} {l : List Cel} {s : Shp} (h : 1 < o.l) : cont N (o :: st) i l s = lkS id N l i ({ o with l := o.l - 1, k := o.p } :: st) s := by unfold cont; rw [closeS_more h]
section
variable {N f : Nat}
/-- What is known of shorter lists. -/
def Ih (N f : Nat) : Prop := ∀ (l : List Cel), l.length < f → l.length ≤ N → ∀ (st : List Opn) (i : Nat) (s : Shp), noKey st → LkV N st.length st i l s (vx f l) (lkS id N l i st s)
theorem lk_els (ih : Ih N f) : ∀ (n : Nat) (l : List Cel) (la : ByteArray) (b0 : Bool) (st : List Opn) (i : Nat) (s : Shp), l.length < f → l.length ≤ N → LkE N st.length st i l s (n + 1) (els (vx f) (n + 1) l) (lkS id N l i (⟨false, ((n + 1 : Nat) : Int), false, la, b0⟩ :: st) s) := by
  intro n
  induction n with
  | zero =>
    intro l la b0 st i s hl hN
    have h1 := ih l hl hN (⟨false, ((0 + 1 : Nat) : Int), false, la, b0⟩ :: st) i s rfl
    cases hv : vx f l with
    | none =>
      rw [hv] at h1
      have e : els (vx f) (0 + 1) l = none := by simp only [els, hv]
      rw [e]
      exact h1
    | some R =>
      obtain ⟨l1, a1, b1⟩ := R
      rw [hv] at h1
      obtain ⟨s1, hx, hA, hlt, ha⟩ := h1
      have e : els (vx f) (0 + 1) l = some (l1, max a1 0, b1 + 0) := by simp only [els, hv]
      rw [e]
      have em : max a1 0 = a1 := by omega
      refine ⟨s1, ?_, ?_, by omega, by omega⟩
      · rw [hx, cont_last (show ¬ (1 : Int) < ((0 + 1 : Nat) : Int) by decide)]
      · rw [em, Int.add_zero]; exact hA
  | succ n ihn =>
    intro l la b0 st i s hl hN
    have h1 := ih l hl hN (⟨false, ((n + 1 + 1 : Nat) : Int), false, la, b0⟩ :: st) i s rfl
    cases hv : vx f l with
    | none =>
      rw [hv] at h1
      have e : els (vx f) (n + 1 + 1) l = none := by rw [els, hv]
      rw [e]
      exact h1
    | some R =>
      obtain ⟨l1, a1, b1⟩ := R
      rw [hv] at h1
      obtain ⟨s1, hx, hA, hlt, ha⟩ := h1
      have h2 := ihn l1 la b0 st (i + (l.length - l1.length)) s1 (by omega) (by omega)
      have hc : cont N (⟨false, ((n + 1 + 1 : Nat) : Int), false, la, b0⟩ :: st) (i + (l.length - l1.length)) l1 s1 = lkS id N l1 (i + (l.length - l1.length)) (⟨false, ((n + 1 : Nat) : Int), false, la, b0⟩ :: st) s1 := by
        rw [cont_more (by show (1 : Int) < ((n + 1 + 1 : Nat) : Int); omega)]
        have e : (((n + 1 + 1 : Nat) : Int)) - 1 = ((n + 1 : Nat) : Int) := by omega
        show lkS id N l1 _ (⟨false, ((n + 1 + 1 : Nat) : Int) - 1, false, la, b0⟩ :: st) s1 = _
        rw [e]
      rw [hc] at hx
      rw [hx]
      cases hv2 : els (vx f) (n + 1) l1 with
      | none =>
        rw [hv2] at h2
        have e : els (vx f) (n + 1 + 1) l = none := by rw [els, hv]; simp only [hv2]
        rw [e]
        exact h2
      | some R2 =>
        obtain ⟨l2, a2, b2⟩ := R2
        rw [hv2] at h2
        obtain ⟨s2, hx2, hA2, hlt2, ha2⟩ := h2
        have e : els (vx f) (n + 1 + 1) l = some (l2, max a1 a2, b1 + b2) := by rw [els, hv]; simp only [hv2]
        rw [e]
        refine ⟨s2, ?_, hA.trans hA2, by omega, by omega⟩
        rw [hx2, show i + (l.length - l1.length) + (l1.length - l2.length) = i + (l.length - l2.length) by omega]
theorem kyB_iff {c : Cel} : kyB c = true ↔ c.k = 4 ∧ c.pl = true := by unfold kyB; rw [Bool.and_eq_true, decide_eq_true_iff]
theorem lk_prs (ih : Ih N f) : ∀ (n : Nat) (l : List Cel) (la : ByteArray) (b0 : Bool) (st : List Opn) (i : Nat) (s : Shp), l.length < f → l.length ≤ N → LkE N st.length st i l s (n + 1) (prs (vx f) (n + 1) b0 la l) (lkS id N l i (⟨true, ((n + 1 : Nat) : Int), true, la, b0⟩ :: st) s) := by
  intro n
  induction n with
  | zero =>
    intro l la b0 st i s hl hN
    cases l with
    | nil => exact rfl
    | cons c l =>
      simp only [List.length_cons] at hl hN
      by_cases hb : kyB c = false ∨ (b0 = true ∧ leB c.s la = true)
      · have e : prs (vx f) (0 + 1) b0 la (c :: l) = none := by rw [prs, if_pos hb]
        rw [e]
        show lkS id N (c :: l) i _ s = none
        cases hp : c.pl with
        | false => exact lk_bad hp
        | true =>
          refine lk_key0 hp rfl ?_
          rcases hb with hb | hb
          · left
            intro h4
            rw [kyB_iff.2 ⟨h4, hp⟩] at hb
            cases hb
          · exact .inr hb
      · have hk : kyB c = true := by
          cases h : kyB c with
          | false => exact absurd (.inl h) hb
          | true => rfl
        obtain ⟨hk4, hp⟩ := kyB_iff.1 hk
        have hst : lkS id N (c :: l) i (⟨true, ((0 + 1 : Nat) : Int), true, la, b0⟩ :: st) s = lkS id N l (i + 1) (⟨true, ((0 + 1 : Nat) : Int), false, c.s, true⟩ :: st) (keyS id c s) :=
          lk_key hp rfl (fun h => hb (h.elim (fun h => absurd hk4 h) .inr))
        rw [hst]
        have h1 := ih l (by omega) (by omega) (⟨true, ((0 + 1 : Nat) : Int), false, c.s, true⟩ :: st) (i + 1) (keyS id c s) rfl
        cases hv : vx f l with
        | none =>
          rw [hv] at h1
          have e : prs (vx f) (0 + 1) b0 la (c :: l) = none := by rw [prs, if_neg hb, hv]
          rw [e]
          exact h1
        | some R =>
          obtain ⟨l1, a1, b1⟩ := R
          rw [hv] at h1
          obtain ⟨s1, hx, hA, hlt, ha⟩ := h1
          have e : prs (vx f) (0 + 1) b0 la (c :: l) = some (l1, max a1 0, ((qtN c.s : Nat) : Int) + 1 + b1 + 0) := by rw [prs, if_neg hb, hv]; rfl
          rw [e]
          have em : max a1 0 = a1 := by omega
          refine ⟨s1, ?_, ?_, by simp only [List.length_cons]; omega, by omega⟩
          · rw [hx, cont_last (show ¬ (1 : Int) < ((0 + 1 : Nat) : Int) by decide)]
            congr 1
            simp only [List.length_cons]
            omega
          · rw [em, Int.add_zero]
            exact hA.key hk4
  | succ n ihn =>
    intro l la b0 st i s hl hN
    cases l with
    | nil => exact rfl
    | cons c l =>
      simp only [List.length_cons] at hl hN
      by_cases hb : kyB c = false ∨ (b0 = true ∧ leB c.s la = true)
      · have e : prs (vx f) (n + 1 + 1) b0 la (c :: l) = none := by rw [prs, if_pos hb]
        rw [e]
        show lkS id N (c :: l) i _ s = none
        cases hp : c.pl with
        | false => exact lk_bad hp
        | true =>
          refine lk_key0 hp rfl ?_
          rcases hb with hb | hb
          · left
            intro h4
            rw [kyB_iff.2 ⟨h4, hp⟩] at hb
            cases hb
          · exact .inr hb
      · have hk : kyB c = true := by
          cases h : kyB c with
          | false => exact absurd (.inl h) hb
          | true => rfl
        obtain ⟨hk4, hp⟩ := kyB_iff.1 hk
        have hst : lkS id N (c :: l) i (⟨true, ((n + 1 + 1 : Nat) : Int), true, la, b0⟩ :: st) s = lkS id N l (i + 1) (⟨true, ((n + 1 + 1 : Nat) : Int), false, c.s, true⟩ :: st) (keyS id c s) :=
          lk_key hp rfl (fun h => hb (h.elim (fun h => absurd hk4 h) .inr))
        rw [hst]
        have h1 := ih l (by omega) (by omega) (⟨true, ((n + 1 + 1 : Nat) : Int), false, c.s, true⟩ :: st) (i + 1) (keyS id c s) rfl
        cases hv : vx f l with
        | none =>
          rw [hv] at h1
          have e : prs (vx f) (n + 1 + 1) b0 la (c :: l) = none := by rw [prs, if_neg hb, hv]
          rw [e]
          exact h1
        | some R =>
          obtain ⟨l1, a1, b1⟩ := R
          rw [hv] at h1
          obtain ⟨s1, hx, hA, hlt, ha⟩ := h1
          have h2 := ihn l1 c.s true st (i + 1 + (l.length - l1.length)) s1 (by omega) (by omega)
          have hc : cont N (⟨true, ((n + 1 + 1 : Nat) : Int), false, c.s, true⟩ :: st) (i + 1 + (l.length - l1.length)) l1 s1 = lkS id N l1 (i + 1 + (l.length - l1.length)) (⟨true, ((n + 1 : Nat) : Int), true, c.s, true⟩ :: st) s1 := by
            rw [cont_more (by show (1 : Int) < ((n + 1 + 1 : Nat) : Int); omega)]
            have e : (((n + 1 + 1 : Nat) : Int)) - 1 = ((n + 1 : Nat) : Int) := by omega
            show lkS id N l1 _ (⟨true, ((n + 1 + 1 : Nat) : Int) - 1, true, c.s, true⟩ :: st) s1 = _
            rw [e]
          rw [hc] at hx
          rw [hx]
          cases hv2 : prs (vx f) (n + 1) true c.s l1 with
          | none =>
            rw [hv2] at h2
            have e : prs (vx f) (n + 1 + 1) b0 la (c :: l) = none := by rw [prs, if_neg hb, hv]; simp only [hv2]
            rw [e]
            exact h2
          | some R2 =>
            obtain ⟨l2, a2, b2⟩ := R2
            rw [hv2] at h2
            obtain ⟨s2, hx2, hA2, hlt2, ha2⟩ := h2
            have e : prs (vx f) (n + 1 + 1) b0 la (c :: l) = some (l2, max a1 a2, ((qtN c.s : Nat) : Int) + 1 + b1 + b2) := by rw [prs, if_neg hb, hv]; simp only [hv2]
            rw [e]
            refine ⟨s2, ?_, ?_, by simp only [List.length_cons]; omega, by omega⟩
            · rw [hx2]
              congr 1
              simp only [List.length_cons]
              omega
            · have hT := (hA.trans hA2).key hk4
              rw [show ((qtN c.s : Nat) : Int) + 1 + b1 + b2 = ((qtN c.s : Nat) : Int) + 1 + (b1 + b2) by omega]
              exact hT
theorem Adds.val {h : Nat} {c : Cel} {l l1 : List Cel} {a b : Int} {s s1 : Shp} (hA : Adds (h + 1) l l1 a b (valS id c h s) s1) (ha : 0 ≤ a) : Adds h (c :: l) l1 (a + 1) (c.sz + b) s s1 := by
  obtain ⟨q, rfl, o1, o2⟩ := hA.pre
  refine ⟨⟨c :: q, rfl, ?_, ?_⟩, ?_, ?_⟩
  · rw [o1]
    show ((s.o || (decide (c.k = 3) && !bndB c.i)) || outB q) = (s.o || outB (c :: q))
    unfold outB
    rw [List.any_cons, Bool.or_assoc]
  · rw [o2]
    show ((s.l || decide (200 < c.s.size)) || lonB q) = (s.l || lonB (c :: q))
    unfold lonB
    rw [List.any_cons, Bool.or_assoc]
  · rw [hA.d]
    show max (max s.d ((h : Int) + 1)) _ = _
    omega
  · rw [hA.b]
    show s.b + c.sz + b = _
    omega
theorem Adds.one {h : Nat} {c : Cel} {l : List Cel} {s : Shp} : Adds h (c :: l) l 1 c.sz s (valS id c h s) := by
  refine ⟨⟨[c], rfl, ?_, ?_⟩, rfl, rfl⟩
  · show (s.o || (decide (c.k = 3) && !bndB c.i)) = (s.o || outB [c])
    unfold outB
    simp
  · show (s.l || decide (200 < c.s.size)) = (s.l || lonB [c])
    unfold lonB
    simp
theorem lkV_cont {i : Nat} {c : Cel} {l : List Cel} {st : List Opn} {s : Shp} (h : ¬ 0 < c.n) : lkV id N (lkS id N l (i + 1)) i c st s = cont N st (i + 1) l (valS id c st.length s) := by
  unfold lkV cont
  rw [if_neg h]
  cases closeS st <;> rfl
theorem ih_all (N : Nat) : ∀ f, Ih N f
  | 0 => fun l hl => by omega
  | f + 1 => by
    intro l hl hN st i s hk
    cases l with
    | nil => exact rfl
    | cons c l =>
      simp only [List.length_cons] at hl hN
      cases hp : c.pl with
      | false =>
        have e : vx (f + 1) (c :: l) = none := by rw [vx, if_pos hp]
        rw [e, lk_bad hp]
        exact rfl
      | true =>
        obtain ⟨hn0, hnk, -⟩ := pl_n hp
        rw [lk_val hp hk]
        by_cases hn : 0 < c.n
        · obtain ⟨m, hm⟩ : ∃ m : Nat, c.n = ((m + 1 : Nat) : Int) := ⟨c.n.toNat - 1, by omega⟩
          have hmn : c.n.toNat = m + 1 := by omega
          rcases hnk hn with h5 | h6
          · have hpu : pushO c = ⟨false, ((m + 1 : Nat) : Int), false, ⟨#[]⟩, false⟩ := by unfold pushO; rw [hm, decide_eq_false (show ¬ c.k = 6 by omega)]
            have h1 := lk_els (ih_all N f) m l ⟨#[]⟩ false st (i + 1) (valS id c st.length s) (by omega) (by omega)
            have e : vx (f + 1) (c :: l) = match els (vx f) (m + 1) l with | none => none | some (l1, a, b) => some (l1, a + 1, c.sz + b) := by
              rw [vx, if_neg (by rw [hp]; decide), if_pos h5, hmn]
            rw [e]
            cases hv : els (vx f) (m + 1) l with
            | none =>
              rw [hv] at h1
              show lkV id N (lkS id N l (i + 1)) i c st s = none
              by_cases hf : (N : Int) < c.n
              · exact lkV_far hn hf
              · rw [lkV_push hn hf, hpu]; exact h1
            | some R =>
              obtain ⟨l1, a, b⟩ := R
              rw [hv] at h1
              obtain ⟨s1, hx, hA, hlt, ha⟩ := h1
              refine ⟨s1, ?_, hA.val (by omega), by simp only [List.length_cons]; omega, by omega⟩
              rw [lkV_push hn (by omega), hpu, hx]
              congr 1
              simp only [List.length_cons]
              omega
          · have hpu : pushO c = ⟨true, ((m + 1 : Nat) : Int), true, ⟨#[]⟩, false⟩ := by unfold pushO; rw [hm, decide_eq_true h6]
            have h1 := lk_prs (ih_all N f) m l ⟨#[]⟩ false st (i + 1) (valS id c st.length s) (by omega) (by omega)
            have e : vx (f + 1) (c :: l) = match prs (vx f) (m + 1) false ⟨#[]⟩ l with | none => none | some (l1, a, b) => some (l1, a + 1, c.sz + b) := by
              rw [vx, if_neg (by rw [hp]; decide), if_neg (by omega), if_pos h6, hmn]
            rw [e]
            cases hv : prs (vx f) (m + 1) false ⟨#[]⟩ l with
            | none =>
              rw [hv] at h1
              show lkV id N (lkS id N l (i + 1)) i c st s = none
              by_cases hf : (N : Int) < c.n
              · exact lkV_far hn hf
              · rw [lkV_push hn hf, hpu]; exact h1
            | some R =>
              obtain ⟨l1, a, b⟩ := R
              rw [hv] at h1
              obtain ⟨s1, hx, hA, hlt, ha⟩ := h1
              refine ⟨s1, ?_, hA.val (by omega), by simp only [List.length_cons]; omega, by omega⟩
              rw [lkV_push hn (by omega), hpu, hx]
              congr 1
              simp only [List.length_cons]
              omega
        · have hz : c.n.toNat = 0 := by omega
          have e : vx (f + 1) (c :: l) = some (l, 1, c.sz) := by
            rw [vx, if_neg (by rw [hp]; decide), hz]
            by_cases h5 : c.k = 5
            · rw [if_pos h5]; show some (l, (0 : Int) + 1, c.sz + 0) = _; rw [Int.add_zero]; rfl
            · rw [if_neg h5]
              by_cases h6 : c.k = 6
              · rw [if_pos h6]; show some (l, (0 : Int) + 1, c.sz + 0) = _; rw [Int.add_zero]; rfl
              · rw [if_neg h6]
          rw [e]
          refine ⟨valS id c st.length s, ?_, .one, by simp only [List.length_cons]; omega, by omega⟩
          rw [lkV_cont hn]
          congr 1
          simp only [List.length_cons]
          omega
/-- The error of a value, as the reference reckons it. -/
def chkR (v : List Cel) : Int := match vx (v.length + 1) v with
  | some ([], a, b) => if outB v = true then 2 else if 200 < v.length then 3 else if 8 < a then 3 else if lonB v = true then 3 else if 4000 < b then 3 else 0
  | _ => 1
theorem chkV_chkR (v : List Cel) : chkV v = chkR v := by
  have h := ih_all v.length (v.length + 1) v (by omega) (Nat.le_refl _) [] 0 ⟨0, 0, false, false⟩ trivial
  unfold chkV chkR
  cases hv : vx (v.length + 1) v with
  | none => rw [hv] at h; rw [h]; rfl
  | some R =>
    obtain ⟨l1, a, b⟩ := R
    rw [hv] at h
    obtain ⟨s1, hx, hA, hlt, ha⟩ := h
    rw [hx]
    show chkS v.length (some (0 + (v.length - l1.length), s1)) = _
    cases l1 with
    | cons c l1 =>
      show (if 0 + (v.length - (c :: l1).length) ≠ v.length then (1 : Int) else _) = 1
      rw [if_pos (by simp only [List.length_cons] at hlt ⊢; omega)]
    | nil =>
      obtain ⟨q, hq, o1, o2⟩ := hA.pre
      rw [List.append_nil] at hq
      subst hq
      have ed : s1.d = a := by rw [hA.d]; show max 0 (((0 : Nat) : Int) + a) = a; omega
      have eb : s1.b = b := by rw [hA.b]; show 0 + b = b; omega
      rw [Bool.false_or] at o1 o2
      show (if 0 + (v.length - ([] : List Cel).length) ≠ v.length then (1 : Int) else if s1.o = true then 2 else if (s1.l || decide (200 < v.length) || decide (8 < s1.d) || decide (4000 < s1.b)) = true then 3 else 0) = if outB v = true then 2 else if 200 < v.length then 3 else if 8 < a then 3 else if lonB v = true then 3 else if 4000 < b then 3 else 0
      rw [if_neg (by simp), o1, o2, ed, eb]
      by_cases h1 : outB v = true
      · rw [if_pos h1, if_pos h1]
      · rw [if_neg h1, if_neg h1]
        by_cases h2 : 200 < v.length
        · rw [if_pos h2, if_pos (by simp [h2])]
        · rw [if_neg h2]
          by_cases h3 : 8 < a
          · rw [if_pos h3, if_pos (by simp [h3])]
          · rw [if_neg h3]
            cases h4 : lonB v with
            | true => rw [if_pos rfl, if_pos (by simp)]
            | false =>
              rw [if_neg (show ¬ (false = true) by decide)]
              by_cases h5 : 4000 < b
              · rw [if_pos h5, if_pos (by simp [h5])]
              · rw [if_neg h5, if_neg (by simp [h2, h3, h5])]
end
end Go.Proofs.YtbofclohnmojmaaGreatDoor
