/- Plain: the times between. -/
import Derived.Test.YtnagnaekcphpiaaDoorCB
namespace Go.Proofs.YtnagnaekcphpiaaDoor
open Go.Lib

def betF (c : Cr) (to : Int) : Nat → Int → List Int → List Int × Int
  | 0, _, out => (out, 0)
  | f + 1, t, out => if (nxS c t).2 ≠ 0 ∨ to ≤ (nxS c t).1 then (out, 0) else if out.length = 256 then ([], 3) else betF c to f (nxS c t).1 (out ++ [(nxS c t).1])
def betS (c : Cr) (fr to : Int) : List Int × Int :=
  if okC c = false then ([], 2) else if fr < 0 ∨ to < fr ∨ 1073741824 < to then ([], 2) else betF c to 257 (fr - 1) []
theorem bet_bad {c : Cr} {fr to : Int} (h : okC c = false) : betS c fr to = ([], 2) := by unfold betS; rw [if_pos h]
theorem bet_rng {c : Cr} {fr to : Int} (h : okC c = true) (h1 : fr < 0 ∨ to < fr ∨ 1073741824 < to) : betS c fr to = ([], 2) := by unfold betS; rw [if_neg (by rw [h]; exact fun e => by cases e), if_pos h1]
theorem bet_go {c : Cr} {fr to : Int} (h : okC c = true) (h1 : ¬ (fr < 0 ∨ to < fr ∨ 1073741824 < to)) : betS c fr to = betF c to 257 (fr - 1) [] := by unfold betS; rw [if_neg (by rw [h]; exact fun e => by cases e), if_neg h1]
theorem betF_end {c : Cr} {to t : Int} {out : List Int} (f : Nat) (h : (nxS c t).2 ≠ 0 ∨ to ≤ (nxS c t).1) : betF c to (f + 1) t out = (out, 0) := by rw [betF, if_pos h]
theorem betF_full {c : Cr} {to t : Int} {out : List Int} (f : Nat) (h : ¬ ((nxS c t).2 ≠ 0 ∨ to ≤ (nxS c t).1)) (h2 : out.length = 256) : betF c to (f + 1) t out = ([], 3) := by rw [betF, if_neg h, if_pos h2]
theorem betF_step {c : Cr} {to t : Int} {out : List Int} (f : Nat) (h : ¬ ((nxS c t).2 ≠ 0 ∨ to ≤ (nxS c t).1)) (h2 : out.length ≠ 256) : betF c to (f + 1) t out = betF c to f (nxS c t).1 (out ++ [(nxS c t).1]) := by rw [betF, if_neg h, if_neg h2]
theorem betF_err (c : Cr) (to : Int) : ∀ (f : Nat) (t : Int) (out : List Int), (betF c to f t out).2 = 0 ∨ (betF c to f t out).2 = 3
  | 0, _, _ => .inl rfl
  | f + 1, t, out => by
    unfold betF
    split
    · exact .inl rfl
    · split
      · exact .inr rfl
      · exact betF_err c to f _ _
theorem betF_len (c : Cr) (to : Int) : ∀ (f : Nat) (t : Int) (out : List Int), out.length ≤ 256 → (betF c to f t out).1.length ≤ 256
  | 0, _, _, h => h
  | f + 1, t, out, h => by
    unfold betF
    split
    · exact h
    · split
      · simp
      · refine betF_len c to f _ _ ?_
        rw [List.length_append]; simp; omega
theorem bet_len (c : Cr) (fr to : Int) : (betS c fr to).1.length ≤ 256 := by
  unfold betS
  split
  · simp
  · split
    · simp
    · exact betF_len _ _ _ _ _ (by simp)
/-- All the times in a span that match. -/
def mtL (c : Cr) (lo hi : Nat) : List Int := ((List.range hi).filter fun t => decide (lo ≤ t) && isC c t).map fun (t : Nat) => (t : Int)
theorem filter_range_lo (p : Nat → Bool) (lo hi : Nat) (h : lo ≤ hi) : (List.range hi).filter (fun t => decide (lo ≤ t) && p t) = (List.range' lo (hi - lo)).filter p := by
  have e : List.range hi = List.range lo ++ List.range' lo (hi - lo) := by
    rw [List.range_eq_range', List.range_eq_range', show (List.range' 0 hi) = List.range' 0 (lo + (hi - lo)) from by rw [show lo + (hi - lo) = hi from by omega], ← List.range'_append]
    simp
  rw [e, List.filter_append, List.filter_eq_nil_iff.2, List.nil_append]
  · exact List.filter_congr fun t ht => by rw [decide_eq_true (List.mem_range'_1.1 ht).1, Bool.true_and]
  · intro t ht
    rw [decide_eq_false (by have := List.mem_range.1 ht; omega), Bool.false_and]
    exact Bool.false_ne_true
theorem mt_eq (c : Cr) (lo hi : Nat) (h : lo ≤ hi) : mtL c lo hi = ((List.range' lo (hi - lo)).filter (isC c)).map fun (t : Nat) => (t : Int) := by unfold mtL; rw [filter_range_lo _ _ _ h]
theorem mt_join (c : Cr) {a b d : Nat} (h1 : a ≤ b) (h2 : b ≤ d) : mtL c a b ++ mtL c b d = mtL c a d := by
  rw [mt_eq c a b h1, mt_eq c b d h2, mt_eq c a d (by omega), ← List.map_append, ← List.filter_append, show List.range' a (d - a) = List.range' a (b - a) ++ List.range' b (d - b) from by
    rw [show d - a = (b - a) + (d - b) from by omega, ← List.range'_append, show a + 1 * (b - a) = b from by omega]]
theorem mt_none {c : Cr} {lo hi : Nat} (h : ∀ u, lo ≤ u → u < hi → isC c u = false) : mtL c lo hi = [] := by
  unfold mtL
  rw [List.filter_eq_nil_iff.2]
  · rfl
  · intro t ht
    by_cases hl : lo ≤ t
    · rw [h t hl (List.mem_range.1 ht), Bool.and_false]; exact Bool.false_ne_true
    · rw [decide_eq_false hl, Bool.false_and]; exact Bool.false_ne_true
theorem mt_first {c : Cr} {lo hi t : Nat} (h1 : lo ≤ t) (h2 : t < hi) (h3 : isC c t = true) (h4 : ∀ u, lo ≤ u → u < t → isC c u = false) : mtL c lo hi = (t : Int) :: mtL c (t + 1) hi := by
  rw [← mt_join c (a := lo) (b := t) (d := hi) h1 (by omega), mt_none h4, List.nil_append, ← mt_join c (a := t) (b := t + 1) (d := hi) (by omega) (by omega)]
  have : mtL c t (t + 1) = [(t : Int)] := by
    rw [mt_eq c t (t + 1) (by omega), show t + 1 - t = 1 from by omega, List.range'_one, List.filter_cons, if_pos h3]
    rfl
  rw [this]
  rfl
/-- Between is all the times that match, where it is short. -/
theorem betF_all {c : Cr} {fr to : Int} (hok : okC c = true) (h0 : 0 ≤ fr) (hw : to - fr ≤ 5000) (hm : to ≤ 1073741824) : ∀ (f : Nat) (t : Int) (out : List Int), fr - 1 ≤ t → t < 1073741824 → 257 - out.length ≤ f → out.length ≤ 256 → (betF c to f t out).2 = 0 → (betF c to f t out).1 = out ++ mtL c (t + 1).toNat to.toNat
  | 0, t, out, _, _, hf, hl, _ => by omega
  | f + 1, t, out, ht, htm, hf, hl, he => by
    have hend : to ≤ endN t + 1 := by unfold endN; split <;> omega
    unfold betF at he ⊢
    rcases nx_cases c t with ⟨h, hh⟩ | ⟨_, h1, h2, h | h⟩
    · rcases hh with hh | hh
      · rw [hok] at hh; cases hh
      · omega
    · obtain ⟨n, e, g1, g2, g3, g4⟩ := h
      rw [e] at he ⊢
      by_cases hge : to ≤ (n : Int)
      · rw [if_pos (.inr hge)]
        show out = _
        rw [mt_none (fun u hu hut => g4 u (by omega) (by omega)), List.append_nil]
      · rw [if_neg (by intro h; rcases h with h | h; exact h rfl; exact hge h)] at he ⊢
        by_cases hlen : out.length = 256
        · rw [if_pos hlen] at he; cases he
        · rw [if_neg hlen] at he ⊢
          rw [betF_all hok h0 hw hm f n (out ++ [(n : Int)]) (by omega) (by omega) (by rw [List.length_append]; simp; omega) (by rw [List.length_append]; simp; omega) he, List.append_assoc, mt_first (t := n) (lo := (t + 1).toNat) (by omega) (by omega) g3 (fun u hu hut => g4 u (by omega) hut), show ((n : Int) + 1).toNat = n + 1 from by omega]
          rfl
    · rw [h.1] at he ⊢
      rw [if_pos (.inl (by decide))]
      show out = _
      rw [mt_none (fun u hu hut => h.2 u (by omega) (by omega)), List.append_nil]
/-- The times of two neighbouring spans are those of both. -/
theorem bet_weeks {c : Cr} {fr md to : Int} (h0 : 0 ≤ fr) (h1 : fr ≤ md) (h2 : md ≤ to) (hm : to ≤ 1073741824 - 10080) (hw : to - fr ≤ 5000) (e1 : (betS c fr md).2 = 0) (e2 : (betS c md to).2 = 0) (e3 : (betS c fr to).2 = 0) : (betS c fr md).1 ++ (betS c md to).1 = (betS c fr to).1 := by
  cases hok : okC c with
  | false => rw [bet_bad hok] at e1; cases e1
  | true =>
    rw [bet_go hok (by omega)] at e1 e2 e3 ⊢
    rw [bet_go hok (by omega), bet_go hok (by omega)]
    rw [betF_all hok h0 (by omega) (by omega) 257 _ _ (Int.le_refl _) (by omega) (by simp) (by simp) e1, betF_all (fr := md) hok (by omega) (by omega) (by omega) 257 _ _ (Int.le_refl _) (by omega) (by simp) (by simp) e2, betF_all hok h0 hw (by omega) 257 _ _ (Int.le_refl _) (by omega) (by simp) (by simp) e3,
      List.nil_append, List.nil_append, List.nil_append, show fr - 1 + 1 = fr from by omega, show md - 1 + 1 = md from by omega, mt_join c (by omega) (by omega)]
end Go.Proofs.YtnagnaekcphpiaaDoor
