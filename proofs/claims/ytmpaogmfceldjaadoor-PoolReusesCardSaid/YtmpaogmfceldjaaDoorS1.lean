/- Plain: the pieces of a text between the places of one byte; Split and Cut at one byte in these words. -/
import Derived.Lib.SplitLaws
namespace Go.Proofs.YtmpaogmfceldjaaDoor
open Go.Lib

/-- The pieces of a list of bytes between the bytes c; p is what was read of the piece at hand. -/
def cutA (c : UInt8) : List UInt8 → List UInt8 → List (List UInt8)
  | p, [] => [p]
  | p, x :: r => if x = c then p :: cutA c [] r else cutA c (p ++ [x]) r
def cutL (c : UInt8) (l : List UInt8) : List (List UInt8) := cutA c [] l
/-- Pieces with the byte c between them. -/
def joinC (c : UInt8) : List (List UInt8) → List UInt8
  | [] => []
  | [p] => p
  | p :: q :: r => p ++ c :: joinC c (q :: r)
theorem cutA_eq (c : UInt8) (p r : List UInt8) : cutA c p (c :: r) = p :: cutA c [] r := by rw [cutA, if_pos rfl]
theorem cutA_ne {c x : UInt8} (h : x ≠ c) (p r : List UInt8) : cutA c p (x :: r) = cutA c (p ++ [x]) r := by rw [cutA, if_neg h]
theorem cutA_no {c : UInt8} : ∀ (r p : List UInt8), c ∉ r → cutA c p r = [p ++ r]
  | [], p, _ => by simp [cutA]
  | x :: r, p, h => by
    simp only [List.mem_cons, not_or] at h
    rw [cutA_ne (Ne.symm h.1), cutA_no r _ h.2]; simp
theorem cutA_hit {c : UInt8} : ∀ (q p r : List UInt8), c ∉ q → cutA c p (q ++ c :: r) = (p ++ q) :: cutA c [] r
  | [], p, r, _ => by rw [List.nil_append, cutA_eq]; simp
  | x :: q, p, r, h => by
    simp only [List.mem_cons, not_or] at h
    rw [List.cons_append, cutA_ne (Ne.symm h.1), cutA_hit q _ r h.2]; simp
theorem cutL_no {c : UInt8} {r : List UInt8} (h : c ∉ r) : cutL c r = [r] := by unfold cutL; rw [cutA_no r [] h]; rfl
theorem cutL_hit {c : UInt8} {q : List UInt8} (r : List UInt8) (h : c ∉ q) : cutL c (q ++ c :: r) = q :: cutL c r := by unfold cutL; rw [cutA_hit q [] r h]; rfl
theorem cutA_ne_nil (c : UInt8) : ∀ (r p : List UInt8), cutA c p r ≠ []
  | [], p => by simp [cutA]
  | x :: r, p => by
    rw [cutA]; split
    · simp
    · exact cutA_ne_nil c r _
theorem joinC_cutA (c : UInt8) : ∀ (r p : List UInt8), joinC c (cutA c p r) = p ++ r
  | [], p => by simp [cutA, joinC]
  | x :: r, p => by
    rw [cutA]; split
    · rename_i h; subst h
      have hn := cutA_ne_nil x r []
      have ih := joinC_cutA x r []
      cases e : cutA x [] r with
      | nil => exact absurd e hn
      | cons a b => rw [e] at ih; rw [joinC, ih]; rfl
    · rw [joinC_cutA c r]; simp
theorem joinC_cutL (c : UInt8) (l : List UInt8) : joinC c (cutL c l) = l := by unfold cutL; rw [joinC_cutA]; rfl
theorem cutL_ne_nil (c : UInt8) (l : List UInt8) : cutL c l ≠ [] := cutA_ne_nil c l []
/-- No piece holds the byte. -/
theorem cutA_free (c : UInt8) : ∀ (r p : List UInt8), c ∉ p → ∀ q ∈ cutA c p r, c ∉ q
  | [], p, hp, q, hq => by
    simp [cutA] at hq; rw [hq]; exact hp
  | x :: r, p, hp, q, hq => by
    rw [cutA] at hq
    split at hq
    · rcases List.mem_cons.1 hq with h | h
      · rw [h]; exact hp
      · exact cutA_free c r [] (by simp) q h
    · rename_i hx
      exact cutA_free c r (p ++ [x]) (by simp [hp]; exact fun h => hx h.symm) q hq
theorem cutL_free {c : UInt8} {l q : List UInt8} (h : q ∈ cutL c l) : c ∉ q := cutA_free c l [] (by simp) q h
/-- Pieces without the byte, joined and cut again. -/
theorem cutL_join (c : UInt8) : ∀ (l : List (List UInt8)), l ≠ [] → (∀ q ∈ l, c ∉ q) → cutL c (joinC c l) = l
  | [], h, _ => absurd rfl h
  | [p], _, h => by rw [joinC]; exact cutL_no (h p (by simp))
  | p :: q :: r, _, h => by
    rw [joinC, cutL_hit _ (h p (by simp)), cutL_join c (q :: r) (by simp) fun x hx => h x (by simp [hx])]
theorem cutA_len (c : UInt8) : ∀ (r p : List UInt8), (cutA c p r).length ≤ r.length + 1
  | [], p => by simp [cutA]
  | x :: r, p => by
    rw [cutA]; split
    · have := cutA_len c r []; simp; omega
    · have := cutA_len c r (p ++ [x]); simp; omega
theorem cutA_piece (c : UInt8) : ∀ (r p q : List UInt8), q ∈ cutA c p r → q.length ≤ p.length + r.length
  | [], p, q, h => by simp [cutA] at h; rw [h]; simp
  | x :: r, p, q, h => by
    rw [cutA] at h
    split at h
    · rcases List.mem_cons.1 h with h | h
      · rw [h]; simp
      · have := cutA_piece c r [] q h; simp at this ⊢; omega
    · have := cutA_piece c r (p ++ [x]) q h; simp at this ⊢; omega
theorem cutL_piece {c : UInt8} {l q : List UInt8} (h : q ∈ cutL c l) : q.length ≤ l.length := by have := cutA_piece c l [] q h; simpa using this

/-! ### the first place of one byte -/
theorem occ_one (l : List UInt8) (c : UInt8) (i : Nat) : occAt l [c] i = (l[i]? == some c) := by
  unfold occAt
  cases h : l.drop i with
  | nil =>
    have : l[i]? = none := by
      rw [List.getElem?_eq_none_iff]
      have := congrArg List.length h
      simp at this; omega
    rw [this]; rfl
  | cons x r =>
    have : l[i]? = some x := by
      have h2 := congrArg (·[0]?) h
      simpa [List.getElem?_drop] using h2
    rw [this]
    simp only [List.isPrefixOf, Bool.and_true]
    rw [Bool.eq_iff_iff]
    simp
    exact ⟨fun h => h.symm, fun h => h.symm⟩
theorem index_byte_no {l : List UInt8} {c : UInt8} (h : c ∉ l) : index l [c] = -1 := by
  apply index_none
  intro j _
  rw [occ_one, beq_eq_false_iff_ne]
  intro e
  exact h (List.mem_of_getElem? e)
theorem index_byte_hit {q : List UInt8} {c : UInt8} (r : List UInt8) (h : c ∉ q) : index (q ++ c :: r) [c] = (q.length : Nat) := by
  apply index_first (by simp)
  · rw [occ_one]; simp
  · intro j hj
    rw [occ_one, List.getElem?_append_left hj, beq_eq_false_iff_ne]
    intro e
    exact h (List.mem_of_getElem? e)
theorem cut_byte_no {l : List UInt8} {c : UInt8} (h : c ∉ l) : Lib.cut l [c] = (l, [], false) := by
  unfold Lib.cut; rw [index_byte_no h, if_neg (by omega)]
theorem cut_byte_hit {q : List UInt8} {c : UInt8} (r : List UInt8) (h : c ∉ q) : Lib.cut (q ++ c :: r) [c] = (q, r, true) := by
  unfold Lib.cut
  rw [index_byte_hit r h, if_pos (by omega)]
  simp
/-- A list holds the byte, or it does not. -/
theorem byte_cases (c : UInt8) (l : List UInt8) : c ∉ l ∨ ∃ q r, l = q ++ c :: r ∧ c ∉ q := by
  induction l with
  | nil => exact .inl (by simp)
  | cons x l ih =>
    by_cases hx : x = c
    · exact .inr ⟨[], l, by rw [hx]; rfl, by simp⟩
    · rcases ih with h | ⟨q, r, e, h⟩
      · exact .inl (by simp [h]; exact fun e => hx e.symm)
      · exact .inr ⟨x :: q, r, by rw [e]; rfl, by simp [h]; exact fun e => hx e.symm⟩
theorem splitK_byte (c : UInt8) : ∀ (n : Nat) (l : List UInt8), l.length ≤ n → splitK [c] 0 (count l [c]) l = cutL c l
  | n, l, hn => by
    rcases byte_cases c l with h | ⟨q, r, e, h⟩
    · rw [cutL_no h, count_miss (index_byte_no h)]; rfl
    · subst e
      have hix := index_byte_hit r h
      rw [cutL_hit r h, count_hit (by simp) hix]
      have e1 : (q ++ c :: r).drop (q.length + 1) = r := by simp
      simp only [List.length_cons, List.length_nil, Nat.zero_add, e1]
      rw [Nat.add_comm, splitK, hix]
      rw [if_neg (by simp)]
      simp only [Int.toNat_natCast, Nat.add_zero, List.length_cons, List.length_nil, Nat.zero_add, e1, List.take_left]
      cases n with
      | zero => simp at hn
      | succ n => rw [splitK_byte c n r (by simp at hn; omega)]
/-- strings.Split at one byte. -/
theorem split_byte (c : UInt8) (s : ByteArray) : (splitB ⟨#[c]⟩ 0 (countB s ⟨#[c]⟩) s).map (·.data.toList) = cutL c s.data.toList := by
  rw [splitB_data]
  exact splitK_byte c _ _ (Nat.le_refl _)
/-- The pieces as strings. -/
def pcs (c : UInt8) (s : ByteArray) : List ByteArray := (cutL c s.data.toList).map fun l => ⟨l.toArray⟩
theorem pcs_data (c : UInt8) (s : ByteArray) : (pcs c s).map (·.data.toList) = cutL c s.data.toList := by
  unfold pcs
  rw [List.map_map]
  exact (List.map_congr_left (g := id) fun _ _ => rfl).trans (List.map_id _)
theorem split_pcs (c : UInt8) (s : ByteArray) : splitB ⟨#[c]⟩ 0 (countB s ⟨#[c]⟩) s = pcs c s := by
  have h := split_byte c s
  unfold pcs
  rw [← h, List.map_map]
  conv => lhs; rw [← List.map_id (splitB ⟨#[c]⟩ 0 (countB s ⟨#[c]⟩) s)]
  apply List.map_congr_left
  intro t _
  obtain ⟨⟨l⟩⟩ := t
  rfl
end Go.Proofs.YtmpaogmfceldjaaDoor
