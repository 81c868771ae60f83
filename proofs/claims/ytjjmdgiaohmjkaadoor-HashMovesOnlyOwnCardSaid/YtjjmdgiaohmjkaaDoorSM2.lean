/- The theory of a stable sort, continued: blocks sorted by insertion, and merged in pairs. -/
import Derived.Test.YtjjmdgiaohmjkaaDoorSM
namespace Go.Proofs.YtjjmdgiaohmjkaaDoor
open Go.Sort
section
variable {α : Type} [Inhabited α] {R : α → α → Prop} {lt : α → α → Bool}

/-- What the comparison says of two elements of which x came first. -/
def Crs (R : α → α → Prop) (lt : α → α → Bool) (x y : α) : Prop := (lt y x = true → R y x) ∧ (lt y x = false → R x y)

/-- [a, i] is in order but for the place j; what lies there goes before all to its right. -/
structure InsR (R : α → α → Prop) (lt : α → α → Bool) (a j i : Nat) (d : Array α) : Prop where
  rest : ∀ p q, a ≤ p → p < q → q ≤ i → p ≠ j → q ≠ j → R d[p]! d[q]!
  right : ∀ q, j < q → q ≤ i → R d[j]! d[q]!
  crs : ∀ p, a ≤ p → p < j → Crs R lt d[p]! d[j]!
theorem InsR.stop (hR : Before R) {a j i : Nat} {d : Array α} (h : InsR R lt a j i d) (hs : j ≤ a ∨ lt d[j]! d[j - 1]! = false) : Srt R a (i + 1) d := by
  intro p q hp hpq hq
  by_cases e : p = j
  · subst e; exact h.right q hpq (by omega)
  by_cases e' : q = j
  · subst e'
    rcases hs with hs | hs
    · omega
    · have c := (h.crs (q - 1) (by omega) (by omega)).2 hs
      by_cases e2 : p = q - 1
      · rw [e2]; exact c
      · exact hR.trans (h.rest p (q - 1) hp (by omega) (by omega) e (by omega)) c
  · exact h.rest p q hp hpq (by omega) e e'
theorem InsR.step {a j i : Nat} {d : Array α} (h : InsR R lt a (j + 1) i d) (hl : lt d[j + 1]! d[j]! = true) (haj : a ≤ j) (hji : j + 1 ≤ i) (hsz : i < d.size) : InsR R lt a j i (swp d (j + 1) j) := by
  have g := swp_get d (i := j + 1) (j := j) (by omega) (by omega)
  have c := (h.crs j haj (by omega)).1 hl
  refine ⟨fun p q hp hpq hq h1 h2 => ?_, fun q h1 h2 => ?_, fun p h1 h2 => ?_⟩
  · rw [g p, g q, if_neg h1, if_neg h2]
    by_cases e : p = j + 1
    · rw [if_pos e, if_neg (by omega)]; exact h.rest j q haj (by omega) hq (by omega) (by omega)
    · rw [if_neg e]
      by_cases e2 : q = j + 1
      · rw [if_pos e2]; exact h.rest p j hp (by omega) (by omega) e (by omega)
      · rw [if_neg e2]; exact h.rest p q hp hpq hq e e2
  · rw [g j, g q, if_pos rfl, if_neg (by omega)]
    by_cases e : q = j + 1
    · rw [if_pos e]; exact c
    · rw [if_neg e]; exact h.right q (by omega) h2
  · rw [g p, g j, if_pos rfl, if_neg (by omega), if_neg (by omega)]; exact h.crs p h1 (by omega)
theorem insInnerR (hR : Before R) {a b i : Nat} (hib : i < b) : ∀ (j : Nat) (d : Array α), b ≤ d.size → j ≤ i → a ≤ j → InsR R lt a j i d → PermIn a b d (insInner lt a j d) ∧ Srt R a (i + 1) (insInner lt a j d) ∧ (∀ k, i < k → (insInner lt a j d)[k]! = d[k]!) ∧ PermIn a (i + 1) d (insInner lt a j d)
  | 0, d, hb, _, _, h => ⟨permIn_refl _ _ _, h.stop hR (.inl (Nat.zero_le _)), fun _ _ => rfl, permIn_refl _ _ _⟩
  | j + 1, d, hb, hj, haj, h => by
    unfold insInner
    split
    · rename_i hc
      rw [Bool.and_eq_true, decide_eq_true_eq] at hc
      obtain ⟨p1, p2, p3, p4⟩ := insInnerR hR hib j (swp d (j + 1) j) (by rw [swp_size]; exact hb) (by omega) (by omega) (h.step hc.2 (by omega) hj (by omega))
      refine ⟨permIn_trans _ _ _ _ _ (swp_permIn d a b _ _ (by omega) (by omega) (by omega) (by omega) hb) p1, p2, fun k hk => ?_, permIn_trans _ _ _ _ _ (swp_permIn d a (i + 1) _ _ (by omega) (by omega) (by omega) (by omega) (by omega)) p4⟩
      rw [p3 k hk, swp_get d (by omega) (by omega), if_neg (by omega), if_neg (by omega)]
    · rename_i hc
      refine ⟨permIn_refl _ _ _, h.stop hR ?_, fun _ _ => rfl, permIn_refl _ _ _⟩
      rcases Nat.lt_or_ge a (j + 1) with h1 | h1
      · right
        cases hl : lt d[j + 1]! d[j]!
        · simpa using hl
        · rw [hl] at hc; simp at hc; omega
      · exact .inl h1
theorem insOuterR (hR : Before R) {a b : Nat} : ∀ (n i : Nat) (d : Array α), b - i ≤ n → a ≤ i → i ≤ b → b ≤ d.size → Srt R a i d → (∀ p q, a ≤ p → p < q → i ≤ q → q < b → Crs R lt d[p]! d[q]!) →
    PermIn a b d (insOuter lt a b i d) ∧ Srt R a b (insOuter lt a b i d)
  | n, i, d, hn, hai, hib, hb, hs, hc => by
    unfold insOuter
    split
    · rename_i h
      cases n with
      | zero => omega
      | succ n =>
      obtain ⟨p1, p2, p3, p4⟩ := insInnerR (lt := lt) hR h i d hb (Nat.le_refl _) hai ⟨fun p q x1 x2 x3 x4 x5 => hs p q x1 x2 (by omega), fun q x1 x2 => absurd x1 (by omega), fun p x1 x2 => hc p i x1 x2 (Nat.le_refl _) h⟩
      obtain ⟨q1, q2⟩ : PermIn a b (insInner lt a i d) (insOuter lt a b (i + 1) (insInner lt a i d)) ∧ Srt R a b (insOuter lt a b (i + 1) (insInner lt a i d)) := insOuterR hR n (i + 1) (insInner lt a i d) (by omega) (by omega) (by omega) (by rw [p1.1]; exact hb) p2 (fun p q x1 x2 x3 x4 => by
        rw [p3 q (by omega)]
        by_cases e : p < i + 1
        · exact permIn_all d _ a (i + 1) (fun x => Crs R lt x d[q]!) (by omega) p4 (fun k y1 y2 => hc k q y1 (by omega) (by omega) x4) p x1 e
        · rw [p3 p (by omega)]; exact hc p q x1 x2 (by omega) x4)
      exact ⟨permIn_trans _ _ _ _ _ p1 q1, q2⟩
    · obtain rfl : i = b := by omega
      exact ⟨permIn_refl _ _ _, hs⟩
/-- Insertion sort is stable. -/
theorem insSortR (hR : Before R) {a b : Nat} {d : Array α} (hab : a ≤ b) (hb : b ≤ d.size) (hc : ∀ p q, a ≤ p → p < q → q < b → Crs R lt d[p]! d[q]!) : MergePost R a b d (insertionSort lt d a b) := by
  unfold insertionSort
  by_cases e : a = b
  · subst e
    unfold insOuter
    rw [if_neg (by omega)]
    exact ⟨permIn_refl _ _ _, fun i j h1 h2 h3 => absurd h3 (by omega)⟩
  · obtain ⟨p1, p2⟩ := insOuterR (lt := lt) hR (b - (a + 1)) (a + 1) d (Nat.le_refl _) (by omega) (by omega) hb (fun i j h1 h2 h3 => absurd h3 (by omega)) (fun p q x1 x2 x3 x4 => hc p q x1 x2 x4)
    exact ⟨p1, p2⟩

/-! ### blocks -/
theorem dvd_le {c a s : Nat} (h1 : c ∣ a) (h2 : c ∣ s) (h : a < s + c) : a ≤ s := by
  obtain ⟨x, rfl⟩ := h1
  obtain ⟨y, rfl⟩ := h2
  have : c * x < c * (y + 1) := by rw [Nat.mul_succ]; exact h
  have := Nat.lt_of_mul_lt_mul_left this
  exact Nat.mul_le_mul_left c (by omega)
/-- Up to a the blocks of c are in order; from a on those of b are. -/
structure Blocks (R : α → α → Prop) (lt : α → α → Bool) (c b a n : Nat) (d : Array α) : Prop where
  fst : ∀ s e, c ∣ s → e ≤ s + c → e ≤ a → Srt R s e d
  snd : ∀ s e, a ≤ s → b ∣ s → e ≤ s + b → e ≤ n → Srt R s e d
  crs : ∀ s, (c ∣ s ∨ (a ≤ s ∧ b ∣ s)) → ∀ i j, i < s → s ≤ j → j < n → Crs R lt d[i]! d[j]!
theorem Blocks.pre {c b a e n : Nat} {d : Array α} (h : Blocks R lt c b a n d) (hb : b ∣ a) (hab : a + b ≤ n) (he : e ≤ a + b + b) (hn : e ≤ n) : MergePre R lt a (a + b) e d := by
  have hb' : b ∣ a + b := Nat.dvd_add hb (Nat.dvd_refl b)
  exact ⟨h.snd a (a + b) (Nat.le_refl _) hb (Nat.le_refl _) hab, h.snd (a + b) e (by omega) hb' (by omega) hn, fun i j x1 x2 x3 x4 => h.crs (a + b) (.inr ⟨by omega, hb'⟩) i j x2 x3 (by omega)⟩
/-- The block from a on is put in order: e = a + c, or the end. -/
theorem Blocks.step {c b a e n : Nat} {d d' : Array α} (h : Blocks R lt c b a n d) (hc : c ∣ a) (hae : a ≤ e) (he : e = a + c ∨ e = n ∧ e ≤ a + c) (hn : e ≤ n) (hz : n ≤ d.size) (hp : MergePost R a e d d') : Blocks R lt c b e n d' := by
  have ha : ∀ p : α → Prop, (∀ k, a ≤ k → k < e → p d[k]!) → ∀ k, a ≤ k → k < e → p d'[k]! := fun p hk => permIn_all d d' a e p (by omega) hp.perm hk
  refine ⟨fun s q x1 x2 x3 => ?_, fun s q x1 x2 x3 x4 => ?_, fun s x1 i j x2 x3 x4 => ?_⟩
  · by_cases y : q ≤ a
    · intro i j z1 z2 z3
      rw [hp.perm.2.1 i (by omega), hp.perm.2.1 j (by omega)]; exact h.fst s q x1 x2 y i j z1 z2 z3
    · have := dvd_le hc x1 (by omega)
      intro i j z1 z2 z3
      exact hp.srt i j (by omega) z2 (by omega)
  · intro i j z1 z2 z3
    rw [hp.perm.2.1 i (by omega), hp.perm.2.1 j (by omega)]; exact h.snd s q (by omega) x2 x3 x4 i j z1 z2 z3
  · by_cases y : s ≤ a
    · have hs : c ∣ s ∨ (a ≤ s ∧ b ∣ s) := by
        rcases x1 with x1 | x1
        · exact .inl x1
        · exact .inr ⟨by omega, x1.2⟩
      rw [hp.perm.2.1 i (by omega)]
      by_cases z : a ≤ j ∧ j < e
      · exact ha (fun x => Crs R lt d[i]! x) (fun k k1 k2 => h.crs s hs i k x2 (by omega) (by omega)) j z.1 z.2
      · rw [hp.perm.2.1 j (by omega)]; exact h.crs s hs i j x2 x3 x4
    · have hs : c ∣ s ∨ (a ≤ s ∧ b ∣ s) := by
        rcases x1 with x1 | x1
        · exact .inl x1
        · exact .inr ⟨by omega, x1.2⟩
      have hes : e ≤ s := by
        rcases x1 with x1 | x1
        · rcases he with he | he
          · have := dvd_le (s := s) (a := a + c) (Nat.dvd_add hc (Nat.dvd_refl c)) x1 (by omega)
            omega
          · have := dvd_le (s := s) (a := a + c) (Nat.dvd_add hc (Nat.dvd_refl c)) x1 (by omega)
            omega
        · exact x1.1
      rw [hp.perm.2.1 j (by omega)]
      by_cases z : a ≤ i ∧ i < e
      · exact ha (fun x => Crs R lt x d[j]!) (fun k k1 k2 => h.crs s hs k j (by omega) (by omega) x4) i z.1 z.2
      · rw [hp.perm.2.1 i (by omega)]; exact h.crs s hs i j x2 x3 x4
/-- The last block is in order as it stands. -/
theorem Blocks.last {c b a n : Nat} {d : Array α} (h : Blocks R lt c b a n d) (hc : c ∣ a) (hb : b ∣ a) (hn : n ≤ a + b) (hz : n ≤ d.size) : Blocks R lt c b n n d := by
  by_cases y : a ≤ n
  · by_cases w : n ≤ a + c
    · exact h.step hc y (.inr ⟨rfl, w⟩) (Nat.le_refl _) hz ⟨permIn_refl _ _ _, h.snd a n (Nat.le_refl _) hb hn (Nat.le_refl _)⟩
    · refine ⟨fun s e x1 x2 x3 => ?_, fun s e x1 x2 x3 x4 => fun i j z1 z2 z3 => absurd z3 (by omega), fun s x1 i j x2 x3 x4 => ?_⟩
      · by_cases q : e ≤ a
        · exact h.fst s e x1 x2 q
        · have := dvd_le hc x1 (by omega)
          intro i j z1 z2 z3
          exact h.snd a n (Nat.le_refl _) hb hn (Nat.le_refl _) i j (by omega) z2 (by omega)
      · rcases x1 with x1 | x1
        · exact h.crs s (.inl x1) i j x2 x3 x4
        · omega
  · refine ⟨fun s e x1 x2 x3 => h.fst s e x1 x2 (by omega), fun s e x1 x2 x3 x4 => fun i j z1 z2 z3 => absurd z3 (by omega), fun s x1 i j x2 x3 x4 => ?_⟩
    rcases x1 with x1 | x1
    · exact h.crs s (.inl x1) i j x2 x3 x4
    · omega
/-- The next phase begins: blocks of twice the size. -/
theorem Blocks.next {c b n : Nat} {d : Array α} (h : Blocks R lt c b n n d) : Blocks R lt (c + c) c 0 n d := by
  refine ⟨fun s e x1 x2 x3 => fun i j z1 z2 z3 => absurd z3 (by omega), fun s e x1 x2 x3 x4 => h.fst s e x2 x3 x4, fun s x1 i j x2 x3 x4 => ?_⟩
  refine h.crs s (.inl ?_) i j x2 x3 x4
  rcases x1 with x1 | x1
  · exact Nat.dvd_trans ⟨2, by omega⟩ x1
  · exact x1.2
/-- All in order. -/
theorem Blocks.all {c b n : Nat} {d : Array α} (h : Blocks R lt c b n n d) (hn : n ≤ c) : Srt R 0 n d := h.fst 0 n (Nat.dvd_zero c) (by omega) (Nat.le_refl _)
/-- The beginning: blocks of one. -/
theorem Blocks.start {c n : Nat} {d : Array α} (h : ∀ i j, i < j → j < n → Crs R lt d[i]! d[j]!) : Blocks R lt c 1 0 n d :=
  ⟨fun s e x1 x2 x3 => fun i j z1 z2 z3 => absurd z3 (by omega), fun s e x1 x2 x3 x4 => fun i j z1 z2 z3 => absurd z3 (by omega), fun s x1 i j x2 x3 x4 => h i j (by omega) x4⟩
/-- What lies from a on is as the comparison says, one by one: for the insertion sorts. -/
theorem Blocks.ins (hR : Before R) {c a e n : Nat} {d : Array α} (h : Blocks R lt c 1 a n d) (hc : c ∣ a) (hae : a ≤ e) (he : e = a + c ∨ e = n ∧ e ≤ a + c) (hn : e ≤ n) (hz : n ≤ d.size) : Blocks R lt c 1 e n (insertionSort lt d a e) ∧ (insertionSort lt d a e).size = d.size ∧ PermIn 0 n d (insertionSort lt d a e) := by
  have hp : MergePost R a e d (insertionSort lt d a e) := insSortR hR hae (by omega) (fun p q x1 x2 x3 => h.crs q (.inr ⟨by omega, Nat.one_dvd q⟩) p q x2 (Nat.le_refl _) (by omega))
  exact ⟨h.step hc hae he hn hz hp, hp.perm.1, permIn_mono _ _ _ _ _ _ (Nat.zero_le _) hn hz hp.perm⟩
end
end Go.Proofs.YtjjmdgiaohmjkaaDoor
