/- Plain: identifiers, patterns, what they match and cover; statements, decisions. -/
import Derived.Test.YtcmlgiilifdnfaaDoorS1
namespace Go.Proofs.YtcmlgiilifdnfaaDoor

/-! ### patterns -/
def letP (c : Int) : Prop := (97 ≤ c ∧ c ≤ 122) ∨ (48 ≤ c ∧ c ≤ 57) ∨ (65 ≤ c ∧ c ≤ 90) ∨ c = 45 ∨ c = 95 ∨ c = 46 ∨ c = 58 ∨ c = 47
instance (c : Int) : Decidable (letP c) := by unfold letP; infer_instance
def letB (c : Int) : Bool := decide (letP c)
def allL (l : List UInt8) : Bool := l.all fun c => letB c.toNat
def idW (l : List UInt8) : Bool := decide (1 ≤ l.length ∧ l.length ≤ 64) && allL l
def opn (l : List UInt8) : Bool := l.getLast? == some 42
def pre (l : List UInt8) : List UInt8 := if opn l then l.dropLast else l
def patW (l : List UInt8) : Bool := idW l || (l == [42]) || (idW (pre l) && opn l && decide (l.length ≤ 64))
def rpatW (l : List UInt8) : Bool := decide (1 ≤ l.length ∧ l.length ≤ 64) && allL l.dropLast && (match l.getLast? with | some c => letB c.toNat || c == 42 | none => false)
theorem letB42 : letB ((42 : UInt8).toNat : Int) = false := by decide
theorem opn_snoc (l : List UInt8) (c : UInt8) : opn (l ++ [c]) = (c == 42) := by unfold opn; rw [List.getLast?_concat]; rfl
theorem pre_snoc (l : List UInt8) (c : UInt8) : pre (l ++ [c]) = if c == 42 then l else l ++ [c] := by unfold pre; rw [opn_snoc, List.dropLast_concat]
theorem allL_snoc (l : List UInt8) (c : UInt8) : allL (l ++ [c]) = (allL l && letB c.toNat) := by unfold allL; rw [List.all_append]; simp
theorem idW_snoc (l : List UInt8) (c : UInt8) : idW (l ++ [c]) = (decide (l.length + 1 ≤ 64) && (allL l && letB c.toNat)) := by
  unfold idW
  rw [allL_snoc, List.length_append, List.length_singleton]
  congr 1
  rw [decide_eq_decide]
  omega
theorem snoc_cases (l : List UInt8) : l = [] ∨ ∃ i c, l = i ++ [c] := by
  rcases List.eq_nil_or_concat l with h | ⟨i, c, h⟩
  · exact .inl h
  · exact .inr ⟨i, c, by rw [h, List.concat_eq_append]⟩
theorem pat_eq (l : List UInt8) : patW l = rpatW l := by
  rcases snoc_cases l with rfl | ⟨i, c, rfl⟩
  · rfl
  · unfold patW rpatW
    rw [List.getLast?_concat, List.dropLast_concat, opn_snoc, pre_snoc, idW_snoc, List.length_append, List.length_singleton]
    by_cases hc : c = 42
    · subst hc
      rw [letB42]
      simp only [beq_self_eq_true, if_true, Bool.and_false, Bool.false_or, Bool.and_true]
      rcases List.eq_nil_or_concat i with h | ⟨j, d, h⟩
      · subst h; rfl
      · have hn : (i ++ [(42 : UInt8)] == [42]) = false := by
          rw [beq_eq_false_iff_ne]; intro e
          have := congrArg List.length e
          rw [h] at this; simp at this
        have hl : 1 ≤ i.length := by rw [h]; simp
        rw [hn]
        unfold idW
        cases allL i <;> simp <;> omega
    · have hb : (c == 42) = false := beq_eq_false_iff_ne.2 hc
      have hn : (i ++ [c] == [42]) = false := by
        rw [beq_eq_false_iff_ne]; intro e
        rcases List.eq_nil_or_concat i with h | ⟨j, d, h⟩
        · rw [h] at e; simp at e; exact hc e
        · have := congrArg List.length e
          rw [h] at this; simp at this
      rw [hb, hn]
      simp only [Bool.or_false, Bool.and_false, Bool.false_and]
      have : decide (1 ≤ i.length + 1 ∧ i.length + 1 ≤ 64) = decide (i.length + 1 ≤ 64) := by rw [decide_eq_decide]; omega
      rw [this, Bool.and_assoc]
      simp [hb]
theorem pat_nonempty {l : List UInt8} (h : patW l = true) : 1 ≤ l.length ∧ l.length ≤ 64 := by
  rw [pat_eq] at h
  unfold rpatW at h
  simp only [Bool.and_eq_true, decide_eq_true_iff] at h
  exact h.1.1
/-- What a pattern matches. -/
def mW (p s : List UInt8) : Bool := patW p && (if opn p then (pre p).isPrefixOf s else p == s)
def cW (p q : List UInt8) : Bool := patW p && patW q && (opn p || !opn q) && mW p (pre q)
def rcW (p q : List UInt8) : Bool := patW p && patW q && (if opn q then opn p && (pre p).isPrefixOf (pre q) else mW p q)
theorem cW_eq (p q : List UInt8) : cW p q = rcW p q := by
  unfold cW rcW
  cases hp : patW p
  · simp
  · cases hq : patW q
    · simp
    · cases ho : opn q
      · have hpre : pre q = q := by unfold pre; rw [ho]; rfl
        rw [hpre]; simp
      · cases hop : opn p
        · simp
        · unfold mW; rw [hp, hop]; simp
/-- What a covered pattern matches, its cover matches. -/
theorem cW_mW {p q s : List UInt8} (h : cW p q = true) (hm : mW q s = true) : mW p s = true := by
  unfold cW at h
  simp only [Bool.and_eq_true] at h
  obtain ⟨⟨⟨hp, hq⟩, ho⟩, hc⟩ := h
  unfold mW at hm hc ⊢
  rw [hp] at hc ⊢
  rw [hq] at hm
  simp only [Bool.true_and] at hm hc ⊢
  cases hop : opn p
  · rw [hop] at ho hc
    have hoq : opn q = false := by simpa using ho
    rw [hoq] at hm
    have hpre : pre q = q := by unfold pre; rw [hoq]; rfl
    rw [hpre] at hc
    simp at hm hc ⊢
    rw [hc]; exact hm
  · rw [hop] at hc
    simp only [if_true] at hc ⊢
    rw [List.isPrefixOf_iff_prefix] at hc ⊢
    cases hoq : opn q
    · rw [hoq] at hm
      have hpre : pre q = q := by unfold pre; rw [hoq]; rfl
      rw [hpre] at hc
      simp at hm
      rw [← hm]; exact hc
    · rw [hoq] at hm
      simp only [if_true] at hm
      rw [List.isPrefixOf_iff_prefix] at hm
      exact hc.trans hm
theorem cW_self {p : List UInt8} (h : patW p = true) : cW p p = true := by
  unfold cW mW
  rw [h]
  cases ho : opn p
  · have hpre : pre p = p := by unfold pre; rw [ho]; rfl
    rw [hpre]; simp
  · simp
theorem pre_free {p : List UInt8} (h : patW p = true) (ho : opn p = true) : opn (pre p) = false := by
  rcases snoc_cases p with rfl | ⟨i, c, rfl⟩
  · simp [opn] at ho
  · rw [opn_snoc] at ho
    rw [pre_snoc, ho]
    rw [pat_eq] at h
    unfold rpatW at h
    rw [List.dropLast_concat] at h
    simp only [Bool.and_eq_true] at h
    have ha := h.1.2
    rcases snoc_cases i with rfl | ⟨j, d, rfl⟩
    · rfl
    · rw [if_pos rfl, opn_snoc]
      rw [allL_snoc, Bool.and_eq_true] at ha
      rw [beq_eq_false_iff_ne]
      intro e; rw [e, letB42] at ha; exact absurd ha.2 (by simp)
/-- Covering is transitive. -/
theorem cW_trans {p q r : List UInt8} (h1 : cW p q = true) (h2 : cW q r = true) : cW p r = true := by
  have hm : mW p (pre r) = true := cW_mW h1 (by
    unfold cW at h2; simp only [Bool.and_eq_true] at h2; exact h2.2)
  unfold cW at h1 h2 ⊢
  simp only [Bool.and_eq_true] at h1 h2 ⊢
  refine ⟨⟨⟨h1.1.1.1, h2.1.1.2⟩, ?_⟩, hm⟩
  have a := h1.1.2
  have b := h2.1.2
  cases hp : opn p <;> cases hq : opn q <;> cases hr : opn r <;> simp_all
end Go.Proofs.YtcmlgiilifdnfaaDoor
