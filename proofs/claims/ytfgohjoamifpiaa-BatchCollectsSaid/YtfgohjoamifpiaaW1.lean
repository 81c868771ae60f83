/- The walks of small functions. -/
import Derived.Test.YtfgohjoamifpiaaMem
import Derived.BigQuiet
import Derived.Outline
namespace Go.Proofs.Ytfgohjoamifpiaa
open Go.RowKit

def sumBody (l : List RecX) : Nat := (l.map fun x => x.r.body.length).sum
def smallB (l : List RecX) : Bool := decide (l.length ≤ 300) && l.all (fun x => decide (x.r.body.length ≤ 10000)) && decide (sumBody l ≤ 30000)
theorem sumBody_snoc (l : List RecX) (k : Nat) (h : k < l.length) : sumBody (l.take (k + 1)) = sumBody (l.take k) + l[k].r.body.length := by
  unfold sumBody
  rw [List.take_succ_eq_append_getElem h, List.map_append, List.sum_append]
  simp
theorem sumBody_le (l : List RecX) (k : Nat) : sumBody (l.take k) ≤ sumBody l := by
  unfold sumBody
  have : (l.map fun x => x.r.body.length) = ((l.take k).map fun x => x.r.body.length) ++ ((l.drop k).map fun x => x.r.body.length) := by rw [← List.map_append, List.take_append_drop]
  rw [this, List.sum_append]
  omega
theorem small_step (l : List RecX) (k : Nat) (h : k < l.length) (ha : ∀ x ∈ l.take k, x.r.body.length ≤ 10000) (h1 : l[k].r.body.length ≤ 10000) : ∀ x ∈ l.take (k + 1), x.r.body.length ≤ 10000 := by
  intro x hx
  rw [List.take_succ_eq_append_getElem h] at hx
  rcases List.mem_append.1 hx with hx | hx
  · exact ha x hx
  · simp at hx; subst hx; exact h1
theorem small_no1 (l : List RecX) (k : Nat) (h : k < l.length) (h1 : 10000 < l[k].r.body.length) : smallB l = false := by
  unfold smallB
  have : l.all (fun x => decide (x.r.body.length ≤ 10000)) = false := by
    rw [List.all_eq_false]
    exact ⟨l[k], List.getElem_mem h, by simpa using h1⟩
  simp [this]
theorem small_no2 (l : List RecX) (k : Nat) (h1 : 30000 < sumBody (l.take k)) : smallB l = false := by
  unfold smallB
  have := sumBody_le l k
  have : decide (sumBody l ≤ 30000) = false := by simp; omega
  simp [this]

set_option maxHeartbeats 400000 in
theorem small_any (l : List RecX) (A : Option Addr) (c : Nat) (w : World) (hl : RecsAt w w.heap.size A l) (hn : ∀ x ∈ l, x.r.body.length ≤ maxLen) :
    Calls Try.prog 8 #[.slice A l.length c] w fun e w' => e = .returned (.bool (smallB l)) ∧ w = w' := by
  by_cases h300 : l.length ≤ 300
  · go_enter Try.func8, Try.ntmps8
    go_wp2
    go_loop [3, 4, 10] (fun t _ i => ∃ k : Nat, k ≤ l.length ∧ i = .int .i64 k ∧ t = .int .i64 (sumBody (l.take k)) ∧ sumBody (l.take k) ≤ 30000 ∧ ∀ x ∈ l.take k, x.r.body.length ≤ 10000) (fun _ _ i => l.length - (intOf i).toNat)
    case atStart => exact ⟨0, Nat.zero_le _, rfl, rfl, by simp [sumBody], by simp⟩
    case round =>
      obtain ⟨k, hk, rfl, rfl, hs, ha⟩ := hrel
      by_cases hlt : k < l.length
      · obtain ⟨b, o, rfl, hb, hc⟩ := hl.get hlt
        have c9 : w.cell? ⟨b, o + k * 10 + 3 + 6, none⟩ = some (.slice l[k].ba l[k].r.body.length l[k].bc) := cell_at (hc 9 _ rfl) (by omega)
        have hm := hn l[k] (List.getElem_mem hlt)
        have hss := sumBody_snoc l k hlt
        have hst := small_step l k hlt ha
        have hn1 := small_no1 l k hlt
        have hn2 := small_no2 l (k + 1)
        clear hc hl
        unfold maxLen at hm
        rw [hss] at hn2
        have HS : Hid (sumBody (l.take (k + 1)) = sumBody (l.take k) + l[k].r.body.length ∧ (∀ x ∈ l.take k, x.r.body.length ≤ 10000)) := ⟨hss, ha⟩
        have H1 : Hid (l[k].r.body.length ≤ 10000 → ∀ x ∈ l.take (k + 1), x.r.body.length ≤ 10000) := hst
        have H2 : Hid ((10000 < l[k].r.body.length → smallB l = false) ∧ (30000 < sumBody (l.take k) + l[k].r.body.length → smallB l = false)) := ⟨hn1, hn2⟩
        clear hss ha hst hn1 hn2 hn
        generalize l[k].r.body.length = m at *
        generalize hsb : sumBody (l.take k) = s at *
        clear hsb
        by_cases h1 : m ≤ 10000
        · by_cases h2 : s + m ≤ 30000
          · go_wp2
            go_round
            case rel => exact ⟨k + 1, by omega, by go_num, by rw [HS.out.1]; go_num, by rw [HS.out.1]; omega, H1.out h1⟩
            case measure => simp [intOf]; omega
          · go_wp2
            go_ret
            exact ⟨ret_bool (H2.out.2 (by omega)).symm, rfl⟩
        · go_wp2
          go_ret
          exact ⟨ret_bool (H2.out.1 (by omega)).symm, rfl⟩
      · go_wp2
        go_ret
        obtain rfl : k = l.length := by omega
        rw [List.take_length] at hs ha
        exact ⟨by simp [smallB, h300, hs]; exact ha, rfl⟩
  · go_enter Try.func8, Try.ntmps8
    go_wp2
    go_ret
    exact ⟨by simp [smallB, h300], rfl⟩
end Go.Proofs.Ytfgohjoamifpiaa
