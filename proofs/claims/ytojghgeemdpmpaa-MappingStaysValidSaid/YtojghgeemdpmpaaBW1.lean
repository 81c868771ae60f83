/- The walks of small functions. -/
import Derived.Test.YtojghgeemdpmpaaMem
import Derived.BigQuiet
import Derived.Outline
namespace Go.Proofs.Ytojghgeemdpmpaa
open Go.RowKit

def sumBody (l : List RecX) : Nat := (l.map fun x => x.r.body.length).sum
def smallB (l : List RecX) : Bool := decide (l.length ≤ 300) && l.all (fun x => decide (x.r.body.length ≤ 10000)) && decide (sumBody l ≤ 30000)
/-- Each body fits in what the form bears. -/
def okB (l : List RecX) : Prop := ∀ x ∈ l, x.r.body.length ≤ 3518437208780
theorem okB_sum {l : List RecX} (h : okB l) (hn : l.length ≤ 257) : sumBody l ≤ 904238362656460 := by
  have : ∀ l : List RecX, okB l → sumBody l ≤ l.length * 3518437208780 := by
    intro l
    induction l with
    | nil => intro _; simp [sumBody]
    | cons x l ih =>
      intro h
      have h1 := h x (by simp)
      have h2 := ih fun y hy => h y (by simp [hy])
      unfold sumBody at h2 ⊢
      simp only [List.map_cons, List.sum_cons, List.length_cons]
      omega
  have := this l h
  omega
theorem okB_r {l : List RecX} (h : ∀ r ∈ l.map (·.r), r.body.length ≤ 3518437208780) : okB l := fun x hx => h _ (List.mem_map.2 ⟨x, hx, rfl⟩)
theorem okB_sub {xs l : List RecX} (h : (xs.map (·.r)).Sublist (l.map (·.r))) (hl : okB l) : okB xs := okB_r fun r hr => by
  obtain ⟨y, hy, rfl⟩ := List.mem_map.1 (h.subset hr)
  exact hl y hy
theorem okB_eq {xs l : List RecX} (h : xs.map (·.r) = l.map (·.r)) (hl : okB l) : okB xs := okB_sub (by rw [h]; exact List.Sublist.refl _) hl
theorem sumBody_snoc (l : List RecX) (k : Nat) (h : k < l.length) : sumBody (l.take (k + 1)) = sumBody (l.take k) + l[k].r.body.length := by
  unfold sumBody
  rw [List.take_succ_eq_append_getElem h, List.map_append, List.sum_append]
  simp
theorem sumBody_le (l : List RecX) (k : Nat) : sumBody (l.take k) ≤ sumBody l := by
  unfold sumBody
  have : (l.map fun x => x.r.body.length) = ((l.take k).map fun x => x.r.body.length) ++ ((l.drop k).map fun x => x.r.body.length) := by rw [← List.map_append, List.take_append_drop]
  rw [this, List.sum_append]
  omega
theorem small_step (l : List RecX) (k : Nat) (h : k < l.length) (ha : ∀ x ∈ l.take k, x.r.body.length ≤ 10000) (h1 : l[k].r.body.length ≤ 10000) : ∀ x ∈ l.take (k + 1), x.r.body.length ≤ 10000 := by
  intro x hx
  rw [List.take_succ_eq_append_getElem h] at hx
  rcases List.mem_append.1 hx with hx | hx
  · exact ha x hx
  · simp at hx; subst hx; exact h1
theorem small_no1 (l : List RecX) (k : Nat) (h : k < l.length) (h1 : 10000 < l[k].r.body.length) : smallB l = false := by
  unfold smallB
  have : l.all (fun x => decide (x.r.body.length ≤ 10000)) = false := by
    rw [List.all_eq_false]
    exact ⟨l[k], List.getElem_mem h, by simpa using h1⟩
  simp [this]
theorem small_no2 (l : List RecX) (k : Nat) (h1 : 30000 < sumBody (l.take k)) : smallB l = false := by
  unfold smallB
  have := sumBody_le l k
  have : decide (sumBody l ≤ 30000) = false := by simp; omega
  simp [this]

end Go.Proofs.Ytojghgeemdpmpaa
