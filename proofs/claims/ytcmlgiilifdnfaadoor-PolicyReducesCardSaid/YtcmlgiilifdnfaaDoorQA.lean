/- Plain: Parse of Format, Format of Parse; what DenyWins and Keeps ask. -/
import Derived.Test.YtcmlgiilifdnfaaDoorPZ
import Derived.Laws.StructEq
namespace Go.Proofs.YtcmlgiilifdnfaaDoor
open Go.RowKit

theorem pat_free {l : List UInt8} (h : patW l = true) {c : UInt8} (hc : letB (c.toNat : Int) = false) (h42 : (c == 42) = false) : c ∉ l := by
  rw [pat_eq] at h
  unfold rpatW at h
  rcases snoc_cases l with rfl | ⟨i, x, rfl⟩
  · simp
  · rw [List.dropLast_concat, List.getLast?_concat] at h
    simp only [Bool.and_eq_true] at h
    obtain ⟨⟨_, h1⟩, h2⟩ := h
    intro hm
    rcases List.mem_append.1 hm with hm | hm
    · have := List.all_eq_true.1 h1 c hm
      rw [hc] at this; cases this
    · obtain rfl := List.mem_singleton.1 hm
      rw [hc, h42] at h2; cases h2
theorem joinC_mem {k c : UInt8} : ∀ (L : List (List UInt8)), c ∈ joinC k L → c = k ∨ ∃ q ∈ L, c ∈ q
  | [], h => by simp [joinC] at h
  | [p], h => .inr ⟨p, by simp, h⟩
  | p :: q :: r, h => by
    rw [joinC] at h
    rcases List.mem_append.1 h with h | h
    · exact .inr ⟨p, by simp, h⟩
    · rcases List.mem_cons.1 h with h | h
      · exact .inl h
      · rcases joinC_mem (q :: r) h with h | ⟨x, hx, h⟩
        · exact .inl h
        · exact .inr ⟨x, List.mem_cons_of_mem _ hx, h⟩
theorem bj_free {l : List ByteArray} (h : okS l = true) : (32 : UInt8) ∉ (bj l).data.toList := by
  intro hm
  have hm : (32 : UInt8) ∈ joinC 44 (l.map (·.data.toList)) := hm
  rcases joinC_mem _ hm with h1 | ⟨q, hq, h1⟩
  · exact absurd h1 (by decide)
  · obtain ⟨t, ht, rfl⟩ := List.mem_map.1 hq
    exact pat_free (List.all_eq_true.1 h t ht) (by decide) (by decide) h1
theorem bj_back {l : List ByteArray} (h : okS l = true) (h1 : 1 ≤ l.length) : pcs 44 (bj l) = l :=
  pcs_bj (by intro e; rw [e] at h1; simp at h1) fun t ht => pat_free (List.all_eq_true.1 h t ht) (by decide) (by decide)
theorem word_free (b : Bool) : (32 : UInt8) ∉ (wordL b).data.toList := by cases b <;> decide
theorem word_al (b : Bool) : ((wordL b).toList == [97, 108, 108, 111, 119]) = b := by cases b <;> kernel_rfl
theorem word_ok (b : Bool) : ((wordL b).toList == [97, 108, 108, 111, 119] || (wordL b).toList == [100, 101, 110, 121]) = true := by cases b <;> kernel_rfl
theorem three_pcs {a b c : ByteArray} (h1 : (32 : UInt8) ∉ a.data.toList) (h2 : (32 : UInt8) ∉ b.data.toList) (h3 : (32 : UInt8) ∉ c.data.toList) : pcs 32 ((((a ++ ⟨#[32]⟩) ++ b) ++ ⟨#[32]⟩) ++ c) = [a, b, c] := by
  have e : ((((a ++ ⟨#[32]⟩) ++ b) ++ ⟨#[32]⟩) ++ c).data.toList = joinC 32 [a.data.toList, b.data.toList, c.data.toList] := by
    simp [joinC]
  unfold pcs
  rw [e, cutL_join 32 _ (by simp) (fun q hq => by rcases List.mem_cons.1 hq with rfl | hq; exact h1; rcases List.mem_cons.1 hq with rfl | hq; exact h2; rw [List.mem_singleton.1 hq]; exact h3)]
  simp only [List.map_cons, List.map_nil]
theorem three_back {t a b c : ByteArray} (h : pcs 32 t = [a, b, c]) : (((a ++ ⟨#[32]⟩) ++ b) ++ ⟨#[32]⟩) ++ c = t := by
  apply ba_ext
  have := joinC_ba 32 t
  rw [h] at this
  rw [← this]
  simp [joinC]
theorem fm_par {s : St} {t : ByteArray} (h : fmS s = (t, 0)) : parS t = (s, 0) := by
  unfold fmS at h
  split at h
  · rename_i h0
    injection h with h _
    obtain ⟨⟨h1, h2⟩, ⟨h3, h4⟩, h5, h6⟩ := (St.ok_iff s).1 (ok_of h0)
    have e := three_pcs (word_free s.al) (bj_free h5) (bj_free h6)
    rw [h] at e
    rw [par_c e (word_ok s.al), word_al, bj_back h5 h1, bj_back h6 h3]
    exact stP_good h0
  · rename_i h0
    injection h with _ h
    exact absurd h h0
theorem tl_eq {a : ByteArray} {l : List UInt8} (h : (a.toList == l) = true) : a = ⟨l.toArray⟩ := ba_ext (by rw [← ByteArray.toList_eq]; simpa using eq_of_beq h)
theorem al_word {a : ByteArray} (h : (a.toList == [97, 108, 108, 111, 119] || a.toList == [100, 101, 110, 121]) = true) : wordL (a.toList == [97, 108, 108, 111, 119]) = a := by
  rcases Bool.or_eq_true_iff.1 h with h | h
  · rw [h, tl_eq h]; rfl
  · rw [tl_eq h]
    kernel_rfl
theorem par_fm {s : St} {t : ByteArray} (h : parS t = (s, 0)) : fmS s = (t, 0) := by
  unfold parS at h
  split at h
  · rename_i a b c e
    split at h
    · rename_i hw
      unfold stP at h
      split at h
      · rename_i h0
        injection h with h _
        subst h
        rw [fm_good h0 rfl]
        simp only [al_word hw, bj_pcs, three_back e]
      · rename_i h0
        injection h with _ h
        exact absurd h h0
    · injection h with _ h; cases h
  · injection h with _ h; cases h
/-- DenyWins: what the loop gathers, and what Decide says. -/
def perB (l : List St) (a r : ByteArray) : Bool := l.any fun s => s.mt a r && s.al
def forB (l : List St) (a r : ByteArray) : Bool := l.any fun s => s.mt a r && !s.al
theorem dec_pf (l : List St) (a r : ByteArray) : (decS l a r).1 = (perB l a r && !forB l a r) := by
  rw [Bool.eq_iff_iff, decS_al]
  unfold perB forB
  rw [Bool.and_eq_true, Bool.not_eq_true', ← Bool.not_eq_true, List.any_eq_true, List.any_eq_true]
  constructor
  · rintro ⟨h1, s, hs, h2, h3⟩
    refine ⟨⟨s, hs, by rw [h2, h3]; rfl⟩, fun ⟨t, ht, h⟩ => h1 ⟨t, ht, ?_⟩⟩
    simp only [Bool.and_eq_true, Bool.not_eq_true'] at h
    exact ⟨h.2, h.1⟩
  · rintro ⟨⟨s, hs, h⟩, h1⟩
    simp only [Bool.and_eq_true] at h
    exact ⟨fun ⟨t, ht, h2, h3⟩ => h1 ⟨t, ht, by rw [h2, h3]; rfl⟩, s, hs, h.2, h.1⟩
theorem dec_deny {l : List St} {s : St} {a r : ByteArray} (hs : s ∈ l) (h : s.al = false) (hm : s.mt a r = true) : (decS l a r).1 = false := by
  rw [← Bool.not_eq_true, decS_al]
  exact fun ⟨h1, _⟩ => h1 ⟨s, hs, h, hm⟩
theorem anyT_take {l : List St} {k : Nat} {t : St} (ht : l[k]? = some t) (p : St → Bool) : (l.take (k + 1)).any p = ((l.take k).any p || p t) := by
  rw [List.take_add_one, ht]; simp
end Go.Proofs.YtcmlgiilifdnfaaDoor
