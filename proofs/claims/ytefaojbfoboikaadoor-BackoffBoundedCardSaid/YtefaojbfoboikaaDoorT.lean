/- What the times are: the plain law of the bounds. -/
import Derived.Test.YtefaojbfoboikaaDoorO
namespace Go.Proofs.YtefaojbfoboikaaDoor
open Go.RowKit
/-- What is known of the list of times behind k rounds. -/
structure TmInv (b f c s m : Int) (k : Nat) (p : List Int × Int × Bool) : Prop where
  pos : 0 < p.1.length
  len : p.1.length ≤ k + 1
  full : p.2.2 = true → p.1.length = k + 1
  first : p.1[0]? = some s
  last : p.1[p.1.length - 1]? = some p.2.1
  step : ∀ (i : Nat) (x : Int), p.1[i]? = some x → i + 1 < p.1.length → p.1[i + 1]? = some (x + dl b f c i)
  low : ∀ (i : Nat) (x : Int), p.1[i]? = some x → s ≤ x
  high : ∀ (i : Nat) (x : Int), p.1[i]? = some x → x ≤ s + m
  stop : p.2.2 = false → s + m < p.2.1 + dl b f c (p.1.length - 1)
theorem tm_inv {b f c s m : Int} (hb : 1 ≤ b) (hf : 1 ≤ f) (hbc : b ≤ c) (hm : 0 ≤ m) (k : Nat) : TmInv b f c s m k (tmS b f c s m k) := by
  induction k with
  | zero =>
    refine ⟨by simp [tmS], by simp [tmS], by simp [tmS], by simp [tmS], by simp [tmS], ?_, ?_, ?_, by simp [tmS]⟩
    · intro i x _ h; simp [tmS] at h
    · intro i x h; simp [tmS, List.getElem?_singleton] at h; omega
    · intro i x h; simp [tmS, List.getElem?_singleton] at h; omega
  | succ k ih =>
    cases hg : (tmS b f c s m k).2.2
    · have e := tm_done hg 1
      rw [e]
      exact ⟨ih.pos, by have := ih.len; omega, fun h => (by rw [hg] at h; cases h), ih.first, ih.last, ih.step, ih.low, ih.high, ih.stop⟩
    · by_cases hs : s + m < (tmS b f c s m k).2.1 + dl b f c k
      · rw [tm_stop hg hs]
        exact ⟨ih.pos, by have := ih.len; show (tmS b f c s m k).1.length ≤ _; omega, fun h => (by cases h), ih.first, ih.last, ih.step, ih.low, ih.high, fun _ => (by show s + m < (tmS b f c s m k).2.1 + dl b f c ((tmS b f c s m k).1.length - 1); rw [ih.full hg, Nat.add_sub_cancel]; exact hs)⟩
      · rw [tm_go hg hs]
        have hfull := ih.full hg
        have hd := (dl_bd hb hf hbc k).1
        have hl := ih.low _ _ ih.last
        obtain ⟨h1, h2, h3, h4, h5, h6, h7, h8, h9⟩ := ih
        generalize tmS b f c s m k = P at *
        obtain ⟨l, x, g⟩ := P
        simp only at *
        have hget : ∀ i y, (l ++ [x + dl b f c k])[i]? = some y → (i < l.length ∧ l[i]? = some y) ∨ (i = l.length ∧ y = x + dl b f c k) := by
          intro i y h
          rcases Nat.lt_or_ge i l.length with hi | hi
          · rw [List.getElem?_append_left hi] at h; exact .inl ⟨hi, h⟩
          · rw [List.getElem?_append_right hi] at h
            have : i - l.length = 0 := by
              rcases Nat.eq_zero_or_pos (i - l.length) with h0 | h0
              · exact h0
              · rw [List.getElem?_eq_none (by simp; omega)] at h; cases h
            rw [this] at h
            simp at h
            exact .inr ⟨by omega, h.symm⟩
        refine ⟨by simp, by simp; omega, by intro _; simp; omega, by rw [List.getElem?_append_left h1]; exact h4, by simp, ?_, ?_, ?_, by intro h; cases h⟩
        · intro i y hy hi
          simp at hi
          rcases hget i y hy with ⟨h, e⟩ | ⟨h, e⟩
          · rcases Nat.lt_or_ge (i + 1) l.length with h' | h'
            · rw [List.getElem?_append_left h']; exact h6 i y e h'
            · have e1 : i + 1 = l.length := by omega
              have e2 : i = l.length - 1 := by omega
              rw [e1, List.getElem?_append_right (Nat.le_refl _)]
              rw [e2, h5] at e
              injection e with e
              subst e
              simp
              congr 1
              omega
          · omega
        · intro i y hy
          rcases hget i y hy with ⟨_, e⟩ | ⟨_, e⟩
          · exact h7 i y e
          · omega
        · intro i y hy
          rcases hget i y hy with ⟨_, e⟩ | ⟨_, e⟩
          · exact h8 i y e
          · omega
/-- What Next says at the i-th time: the next one, if there is one. -/
theorem nx_at {a b f c m s : Int} (hok : RP.ok ⟨a, b, f, c, m⟩ = true) (hs : 0 ≤ s) (hs2 : s ≤ 1073741824) {l : List Int} {y : Int} {g : Bool} (h : TmInv b f c s m (a.toNat - 1) (l, y, g)) {i : Nat} {x : Int} (hx : l[i]? = some x) (hx2 : x ≤ 1073741824) :
    (i + 1 < l.length ∧ ∃ z, l[i + 1]? = some z ∧ x < z ∧ nxI a b f c m s (i + 1) x = (z, true, 0)) ∨ (i + 1 = l.length ∧ nxI a b f c m s (i + 1) x = (0, false, 0)) := by
  have hbd := (RP.ok_iff _).1 hok
  simp only at hbd
  obtain ⟨a1, a2, b1, b2, f1, f2, c1, c2, m1, m2⟩ := hbd
  have hil : i < l.length := (List.getElem?_eq_some_iff.1 hx).1
  have hlow := h.low i x hx
  have hlen := h.len
  simp only at hlow hlen
  have hd := (dl_bd b1 f1 c1 i).1
  unfold nxI
  rw [if_pos hok, if_pos (by omega), if_neg (by omega), show ((i : Int) + 1).toNat - 1 = i by omega]
  rcases Nat.lt_or_ge (i + 1) l.length with h1 | h1
  · left
    have hst := h.step i x hx h1
    have hhi := h.high _ _ hst
    refine ⟨h1, _, hst, by omega, ?_⟩
    rw [if_neg (by omega)]
  · right
    have e : i + 1 = l.length := by omega
    refine ⟨e, ?_⟩
    cases g
    · have h2 := h.stop rfl
      have h3 := h.last
      simp only at h2 h3
      rw [show l.length - 1 = i by omega] at h2 h3
      rw [hx] at h3
      injection h3 with h3
      rw [if_pos (.inr (by omega))]
    · have h2 := h.full rfl
      simp only at h2
      rw [if_pos (.inl (by omega))]
end Go.Proofs.YtefaojbfoboikaaDoor
