/- What the division of a list guarantees, in plain Lean; the walk of BatchCuts. -/
import Derived.Test.YtfgohjoamifpiaaWJ
namespace Go.Proofs.Ytfgohjoamifpiaa
open Go.RowKit
open Go.Sort (grow)

def GoodB (m r : Int) (b : List RecX) : Prop := 0 < b.length ∧ (b.length : Int) ≤ m ∧ (1 < b.length → (sumBody b : Int) ≤ r)
def Good (m r : Int) (bs : List (List RecX)) : Prop := (∀ b ∈ bs, GoodB m r b) ∧ ∀ i b b', bs[i]? = some b → bs[i + 1]? = some b' → ∀ x, b'[0]? = some x → fitsB m r b x = false
theorem fits_parts {m r : Int} {b : List RecX} {x : RecX} (hb : 0 < b.length) (h : fitsB m r b x = true) : (b.length : Int) < m ∧ ((sumBody b + x.r.body.length : Nat) : Int) ≤ r := by
  unfold fitsB at h
  have : b.isEmpty = false := by cases b <;> simp at hb ⊢
  simp only [this, Bool.false_or, Bool.and_eq_true, decide_eq_true_eq] at h
  exact h
theorem cutStep_good {m r : Int} (hm : 1 ≤ m) {bs : List (List RecX)} (h : Good m r bs) (x : RecX) : Good m r (cutStep m r bs x) := by
  rcases List.eq_nil_or_concat bs with rfl | ⟨ini, b, rfl⟩
  · rw [cutStep_nil]
    refine ⟨?_, ?_⟩
    · intro b hb
      simp only [List.mem_singleton] at hb
      subst hb
      exact ⟨by simp, by simpa using hm, by simp⟩
    · intro i b b' h1 h2
      cases i <;> simp at h2
  · rw [List.concat_eq_append] at h ⊢
    have hb := h.1 b (by simp)
    cases hf : fitsB m r b x
    · rw [cutStep_no _ _ _ _ _ hf]
      refine ⟨?_, ?_⟩
      · intro z hz
        rcases List.mem_append.1 hz with hz | hz
        · exact h.1 z hz
        · simp only [List.mem_singleton] at hz
          subst hz
          exact ⟨by simp, by simpa using hm, by simp⟩
      · intro i z z' h1 h2 y hy
        rw [List.getElem?_append] at h2
        split at h2
        · rename_i hlt
          rw [List.getElem?_append_left (by omega)] at h1
          exact h.2 i z z' h1 h2 y hy
        · rename_i hge
          have hi : i + 1 - (ini ++ [b]).length = 0 := by
            rcases Nat.eq_zero_or_pos (i + 1 - (ini ++ [b]).length) with h0 | h0
            · exact h0
            · rw [List.getElem?_eq_none (by rw [List.length_singleton]; omega)] at h2; cases h2
          rw [hi] at h2
          simp at h2
          subst h2
          simp at hy
          subst hy
          have hil : i = ini.length := by simp at hge hi; omega
          subst hil
          simp at h1
          subst h1
          exact hf
    · rw [cutStep_yes _ _ _ _ _ hf]
      obtain ⟨f1, f2⟩ := fits_parts hb.1 hf
      refine ⟨?_, ?_⟩
      · intro z hz
        rcases List.mem_append.1 hz with hz | hz
        · exact h.1 z (by simp [hz])
        · simp only [List.mem_singleton] at hz
          subst hz
          refine ⟨by simp, by simp; omega, fun _ => ?_⟩
          have : sumBody (b ++ [x]) = sumBody b + x.r.body.length := by rw [sumBody_append]; simp [sumBody]
          rw [this]
          exact f2
      · intro i z z' h1 h2 y hy
        rw [List.getElem?_append] at h2
        split at h2
        · rename_i hlt
          rw [List.getElem?_append_left (by omega)] at h1
          exact h.2 i z z' (by rw [List.getElem?_append_left (by omega)]; exact h1) (by rw [List.getElem?_append_left hlt]; exact h2) y hy
        · rename_i hge
          have hi : i + 1 - ini.length = 0 := by
            rcases Nat.eq_zero_or_pos (i + 1 - ini.length) with h0 | h0
            · exact h0
            · rw [List.getElem?_eq_none (by simp; omega)] at h2; cases h2
          rw [hi] at h2
          simp at h2
          subst h2
          have hil : i + 1 = ini.length := by omega
          rw [List.getElem?_append_left (by omega)] at h1
          refine h.2 i z b (by rw [List.getElem?_append_left (by omega)]; exact h1) (by rw [List.getElem?_append_right (by omega), hi]; rfl) y ?_
          rw [List.getElem?_append_left hb.1] at hy
          exact hy
theorem cutS_good {m r : Int} (hm : 1 ≤ m) (l : List RecX) : Good m r (cutS m r l) := by
  unfold cutS
  suffices h : ∀ (l : List RecX) (bs : List (List RecX)), Good m r bs → Good m r (l.foldl (cutStep m r) bs) from h l [] ⟨by simp, by simp⟩
  intro l
  induction l with
  | nil => exact fun bs h => h
  | cons x l ih => exact fun bs h => ih _ (cutStep_good hm h x)
end Go.Proofs.Ytfgohjoamifpiaa
