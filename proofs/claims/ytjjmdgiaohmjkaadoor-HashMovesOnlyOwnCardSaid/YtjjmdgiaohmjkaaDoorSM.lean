/- The theory of a stable sort by merging: rotations of a range, two neighbouring runs in order merged into one. -/
import Derived.Sort.LotA
namespace Go.Proofs.YtjjmdgiaohmjkaaDoor
open Go.Sort
section
variable {α : Type} [Inhabited α]

/-- An order that says which of two elements goes first. -/
structure Before (R : α → α → Prop) : Prop where
  trans : ∀ {x y z}, R x y → R y z → R x z

/-- The places a ≤ k < b are in order. -/
def Srt (R : α → α → Prop) (a b : Nat) (d : Array α) : Prop := ∀ i j, a ≤ i → i < j → j < b → R d[i]! d[j]!
/-- What a comparison says of one of the left run and one of the right run. -/
def Cross (R : α → α → Prop) (lt : α → α → Bool) (a m b : Nat) (d : Array α) : Prop :=
  ∀ i j, a ≤ i → i < m → m ≤ j → j < b → (lt d[j]! d[i]! = true → R d[j]! d[i]!) ∧ (lt d[j]! d[i]! = false → R d[i]! d[j]!)
structure MergePre (R : α → α → Prop) (lt : α → α → Bool) (a m b : Nat) (d : Array α) : Prop where
  left : Srt R a m d
  right : Srt R m b d
  cross : Cross R lt a m b d
structure MergePost (R : α → α → Prop) (a b : Nat) (d d' : Array α) : Prop where
  perm : PermIn a b d d'
  srt : Srt R a b d'

/-- The ranges a ≤ k < a + n and b ≤ k < b + n have changed places. -/
structure SwR (lo hi a b n : Nat) (d d' : Array α) : Prop where
  perm : PermIn lo hi d d'
  fst : ∀ k, k < n → d'[a + k]! = d[b + k]!
  snd : ∀ k, k < n → d'[b + k]! = d[a + k]!
  other : ∀ k, ¬ (a ≤ k ∧ k < a + n) → ¬ (b ≤ k ∧ k < b + n) → d'[k]! = d[k]!
theorem SwR.zero (lo hi a b : Nat) (d : Array α) : SwR lo hi a b 0 d d := ⟨permIn_refl _ _ _, fun _ h => absurd h (by omega), fun _ h => absurd h (by omega), fun _ _ _ => rfl⟩
theorem SwR.step {lo hi a b n : Nat} {d d' : Array α} (h : SwR lo hi a b n d d') (hab : a + n < b) (hlo : lo ≤ a) (hhi : b + n < hi) (hs : hi ≤ d.size) : SwR lo hi a b (n + 1) d (swp d' (a + n) (b + n)) := by
  have hz : d'.size = d.size := h.perm.1
  have g := swp_get d' (i := a + n) (j := b + n) (by omega) (by omega)
  refine ⟨permIn_trans _ _ _ _ _ h.perm (swp_permIn d' lo hi _ _ (by omega) (by omega) (by omega) (by omega) (by omega)), fun k hk => ?_, fun k hk => ?_, fun k h1 h2 => ?_⟩
  · rw [g]
    by_cases e : k = n
    · subst e
      rw [if_neg (by omega), if_pos rfl, h.other _ (by omega) (by omega)]
    · rw [if_neg (by omega), if_neg (by omega), h.fst k (by omega)]
  · rw [g]
    by_cases e : k = n
    · subst e
      rw [if_pos rfl, h.other _ (by omega) (by omega)]
    · rw [if_neg (by omega), if_neg (by omega), h.snd k (by omega)]
  · rw [g, if_neg (by omega), if_neg (by omega), h.other k (by omega) (by omega)]

/-- The ranges a ≤ k < m and m ≤ k < b have changed places, whatever their lengths. -/
structure Rot (lo hi a m b : Nat) (d d' : Array α) : Prop where
  perm : PermIn lo hi d d'
  fst : ∀ k, k < b - m → d'[a + k]! = d[m + k]!
  snd : ∀ k, a + (b - m) ≤ k → k < b → d'[k]! = d[k - (b - m)]!
  other : ∀ k, k < a ∨ b ≤ k → d'[k]! = d[k]!
theorem Rot.of_swr {lo hi a m i : Nat} {d d' : Array α} (h : SwR lo hi a m i d d') (e : a + i = m) : Rot lo hi a m (m + i) d d' := by
  subst e
  refine ⟨h.perm, fun k hk => h.fst k (by omega), fun k h1 h2 => ?_, fun k hk => h.other k (by omega) (by omega)⟩
  have := h.snd (k - (a + i)) (by omega)
  rw [show a + i + (k - (a + i)) = k by omega] at this
  rw [this, show a + (k - (a + i)) = k - (a + i + i - (a + i)) by omega]
/-- rotate, where the left part is the longer one. -/
theorem Rot.left {lo hi m i j : Nat} {d d1 d' : Array α} (hij : j < i) (him : i ≤ m) (h1 : SwR lo hi (m - i) m j d d1) (h : Rot lo hi (m - (i - j)) m (m + j) d1 d') : Rot lo hi (m - i) m (m + j) d d' := by
  refine ⟨permIn_trans _ _ _ _ _ h1.perm h.perm, fun k hk => ?_, fun k h2 h3 => ?_, fun k hk => ?_⟩
  · rw [h.other _ (by omega), h1.fst k (by omega)]
  · by_cases hk : k < m - (i - j) + j
    · have := h.fst (k - (m - (i - j))) (by omega)
      rw [show m - (i - j) + (k - (m - (i - j))) = k by omega] at this
      rw [this, h1.snd _ (by omega)]
      congr 1; omega
    · rw [h.snd k (by omega) h3, h1.other _ (by omega) (by omega)]
  · rw [h.other k (by omega), h1.other k (by omega) (by omega)]
/-- .. where the right part is. -/
theorem Rot.right {lo hi m i j : Nat} {d d1 d' : Array α} (hij : i < j) (him : i ≤ m) (h1 : SwR lo hi (m - i) (m + j - i) i d d1) (h : Rot lo hi (m - i) m (m + (j - i)) d1 d') : Rot lo hi (m - i) m (m + j) d d' := by
  refine ⟨permIn_trans _ _ _ _ _ h1.perm h.perm, fun k hk => ?_, fun k h2 h3 => ?_, fun k hk => ?_⟩
  · by_cases hk' : k < j - i
    · rw [h.fst k (by omega), h1.other _ (by omega) (by omega)]
    · rw [h.snd _ (by omega) (by omega)]
      have := h1.fst (k - (j - i)) (by omega)
      rw [show m - i + (k - (j - i)) = m - i + k - (m + (j - i) - m) by omega] at this
      rw [this]
      congr 1; omega
  · rw [h.other k (by omega)]
    have := h1.snd (k - (m + j - i)) (by omega)
    rw [show m + j - i + (k - (m + j - i)) = k by omega] at this
    rw [this]
    congr 1; omega
  · rw [h.other k (by omega), h1.other k (by omega) (by omega)]
theorem Rot.none (lo hi a m b : Nat) (d : Array α) (h : a = m ∨ b ≤ m) : Rot lo hi a m b d d := by
  rcases h with h | h
  · subst h
    exact ⟨permIn_refl _ _ _, fun k hk => rfl, fun k h1 h2 => absurd h1 (by omega), fun _ _ => rfl⟩
  · exact ⟨permIn_refl _ _ _, fun k hk => absurd hk (by omega), fun k h1 h2 => by rw [show b - m = 0 by omega, Nat.sub_zero], fun _ _ => rfl⟩
/-- One step to the right, of one element. -/
theorem Rot.snoc {lo hi a k : Nat} {d d1 : Array α} (h : Rot lo hi a (a + 1) k d d1) (hak : a < k) (hlo : lo ≤ a) (hhi : k < hi) (hs : hi ≤ d.size) : Rot lo hi a (a + 1) (k + 1) d (swp d1 (k - 1) k) := by
  have hz : d1.size = d.size := h.perm.1
  have g := swp_get d1 (i := k - 1) (j := k) (by omega) (by omega)
  refine ⟨permIn_trans _ _ _ _ _ h.perm (swp_permIn d1 lo hi _ _ (by omega) (by omega) (by omega) (by omega) (by omega)), fun q hq => ?_, fun q h1 h2 => ?_, fun q hq => ?_⟩
  · rw [g]
    by_cases e : a + q = k - 1
    · rw [if_neg (by omega), if_pos e, h.other k (by omega)]
      congr 1; omega
    · rw [if_neg (by omega), if_neg e, h.fst q (by omega)]
  · obtain rfl : q = k := by omega
    rw [g, if_pos rfl]
    rw [h.snd (q - 1) (by omega) (by omega)]
    congr 1; omega
  · rw [g, if_neg (by omega), if_neg (by omega), h.other q (by omega)]
/-- One step to the left, of one element. -/
theorem Rot.cons {lo hi m k : Nat} {d d1 : Array α} (h : Rot lo hi k m (m + 1) d d1) (hk : 0 < k) (hkm : k ≤ m) (hlo : lo < k) (hhi : m < hi) (hs : hi ≤ d.size) : Rot lo hi (k - 1) m (m + 1) d (swp d1 k (k - 1)) := by
  have hz : d1.size = d.size := h.perm.1
  have g := swp_get d1 (i := k) (j := k - 1) (by omega) (by omega)
  refine ⟨permIn_trans _ _ _ _ _ h.perm (swp_permIn d1 lo hi _ _ (by omega) (by omega) (by omega) (by omega) (by omega)), fun q hq => ?_, fun q h1 h2 => ?_, fun q hq => ?_⟩
  · obtain rfl : q = 0 := by omega
    rw [g, if_pos (by omega)]
    have := h.fst 0 (by omega)
    simpa using this
  · rw [g, if_neg (by omega)]
    by_cases e : q = k
    · subst e
      rw [if_pos rfl, h.other _ (by omega)]
      congr 1; omega
    · rw [if_neg e, h.snd q (by omega) h2]
  · rw [g, if_neg (by omega), if_neg (by omega), h.other q (by omega)]
end

section
variable {α : Type} [Inhabited α] {R : α → α → Prop} {lt : α → α → Bool}
/-- A left run of one element. -/
theorem MergePre.one_left (hR : Before R) {a b i : Nat} {d d' : Array α} (h : MergePre R lt a (a + 1) b d) (hi : a + 1 ≤ i) (hib : i ≤ b)
    (hlo : i = a + 1 ∨ lt d[i - 1]! d[a]! = true) (hhi : i = b ∨ lt d[i]! d[a]! = false) (hr : Rot a b a (a + 1) i d d') : MergePost R a b d d' := by
  refine ⟨hr.perm, ?_⟩
  have hpre : ∀ p, a + 1 ≤ p → p < i → R d[p]! d[a]! := fun p h1 h2 => by
    rcases hlo with e | e
    · omega
    · have c := (h.cross a (i - 1) (Nat.le_refl _) (by omega) (by omega) (by omega)).1 e
      by_cases hp : p = i - 1
      · rw [hp]; exact c
      · exact hR.trans (h.right p (i - 1) h1 (by omega) (by omega)) c
  have hpost : ∀ q, i ≤ q → q < b → R d[a]! d[q]! := fun q h1 h2 => by
    rcases hhi with e | e
    · omega
    · have c := (h.cross a i (Nat.le_refl _) (by omega) (by omega) (by omega)).2 e
      by_cases hq : q = i
      · rw [hq]; exact c
      · exact hR.trans c (h.right i q (by omega) (by omega) h2)
  have f : ∀ k, a ≤ k → k < i - 1 → d'[k]! = d[k + 1]! := fun k h1 h2 => by
    have := hr.fst (k - a) (by omega)
    rw [show a + (k - a) = k by omega, show a + 1 + (k - a) = k + 1 by omega] at this
    exact this
  have l : d'[i - 1]! = d[a]! := by
    rw [hr.snd (i - 1) (by omega) (by omega)]
    congr 1; omega
  intro p q hp hpq hq
  by_cases h1 : q < i - 1
  · rw [f p hp (by omega), f q (by omega) h1]; exact h.right _ _ (by omega) (by omega) (by omega)
  · by_cases h2 : q = i - 1
    · subst h2
      rw [l, f p hp (by omega)]; exact hpre _ (by omega) (by omega)
    · rw [hr.other q (by omega)]
      by_cases h3 : p < i - 1
      · rw [f p hp h3]; exact h.right _ _ (by omega) (by omega) (by omega)
      · by_cases h4 : p = i - 1
        · subst h4; rw [l]; exact hpost q (by omega) hq
        · rw [hr.other p (by omega)]; exact h.right _ _ (by omega) (by omega) (by omega)
/-- A right run of one element. -/
theorem MergePre.one_right (hR : Before R) {a m i : Nat} {d d' : Array α} (h : MergePre R lt a m (m + 1) d) (hi : a ≤ i) (him : i ≤ m)
    (hlo : i = a ∨ lt d[m]! d[i - 1]! = false) (hhi : i = m ∨ lt d[m]! d[i]! = true) (hr : Rot a (m + 1) i m (m + 1) d d') : MergePost R a (m + 1) d d' := by
  refine ⟨hr.perm, ?_⟩
  have hpre : ∀ p, a ≤ p → p < i → R d[p]! d[m]! := fun p h1 h2 => by
    rcases hlo with e | e
    · omega
    · have c := (h.cross (i - 1) m (by omega) (by omega) (Nat.le_refl _) (by omega)).2 e
      by_cases hp : p = i - 1
      · rw [hp]; exact c
      · exact hR.trans (h.left p (i - 1) h1 (by omega) (by omega)) c
  have hpost : ∀ q, i ≤ q → q < m → R d[m]! d[q]! := fun q h1 h2 => by
    rcases hhi with e | e
    · omega
    · have c := (h.cross i m (by omega) (by omega) (Nat.le_refl _) (by omega)).1 e
      by_cases hq : q = i
      · rw [hq]; exact c
      · exact hR.trans c (h.left i q (by omega) (by omega) h2)
  have l : d'[i]! = d[m]! := by have := hr.fst 0 (by omega); simpa using this
  have s : ∀ k, i < k → k < m + 1 → d'[k]! = d[k - 1]! := fun k h1 h2 => by
    rw [hr.snd k (by omega) h2]
    congr 1; omega
  intro p q hp hpq hq
  by_cases h1 : q < i
  · rw [hr.other p (by omega), hr.other q (by omega)]; exact h.left _ _ hp hpq (by omega)
  · by_cases h2 : q = i
    · subst h2
      rw [l, hr.other p (by omega)]; exact hpre _ hp (by omega)
    · rw [s q (by omega) hq]
      by_cases h3 : p < i
      · rw [hr.other p (by omega)]; exact h.left _ _ hp (by omega) (by omega)
      · by_cases h4 : p = i
        · subst h4; rw [l]; exact hpost _ (by omega) (by omega)
        · rw [s p (by omega) (by omega)]; exact h.left _ _ (by omega) (by omega) (by omega)

/-- Where the two halves are cut. -/
structure CutAt (R : α → α → Prop) (a m b mid s e : Nat) (d : Array α) : Prop where
  h0 : a ≤ s
  h1 : s ≤ mid
  h2 : s ≤ m
  h3 : m ≤ e
  h4 : mid ≤ e
  h5 : e ≤ b
  sum : s + e = mid + m
  lo : s = a ∨ e = b ∨ R d[s - 1]! d[e]!
  hi : s = m ∨ e = m ∨ R d[e - 1]! d[s]!
theorem CutAt.halves (hR : Before R) {a m b mid s e : Nat} {d d1 : Array α} (h : MergePre R lt a m b d) (hc : CutAt R a m b mid s e d) (hr : Rot a b s m e d d1) :
    ∀ i j, a ≤ i → i < mid → mid ≤ j → j < b → R d1[i]! d1[j]! := by
  obtain ⟨h0, h1, h2, h3, h4, h5, sum, lo, hi⟩ := hc
  have L1 : ∀ i j, a ≤ i → i < s → s ≤ j → j < m → R d[i]! d[j]! := fun i j x1 x2 x3 x4 => h.left i j x1 (by omega) x4
  have L2 : ∀ i j, m ≤ i → i < e → e ≤ j → j < b → R d[i]! d[j]! := fun i j x1 x2 x3 x4 => h.right i j x1 (by omega) x4
  have L3 : ∀ i j, a ≤ i → i < s → e ≤ j → j < b → R d[i]! d[j]! := fun i j x1 x2 x3 x4 => by
    rcases lo with c | c | c
    · omega
    · omega
    · have c1 : R d[i]! d[e]! := by
        by_cases q : i = s - 1
        · rw [q]; exact c
        · exact hR.trans (h.left i (s - 1) x1 (by omega) (by omega)) c
      by_cases q : j = e
      · rw [q]; exact c1
      · exact hR.trans c1 (h.right e j (by omega) (by omega) x4)
  have L4 : ∀ i j, m ≤ i → i < e → s ≤ j → j < m → R d[i]! d[j]! := fun i j x1 x2 x3 x4 => by
    rcases hi with c | c | c
    · omega
    · omega
    · have c1 : R d[i]! d[s]! := by
        by_cases q : i = e - 1
        · rw [q]; exact c
        · exact hR.trans (h.right i (e - 1) x1 (by omega) (by omega)) c
      by_cases q : j = s
      · rw [q]; exact c1
      · exact hR.trans c1 (h.left s j (by omega) (by omega) x4)
  have f : ∀ k, s ≤ k → k < mid → d1[k]! = d[m + (k - s)]! := fun k x1 x2 => by
    have := hr.fst (k - s) (by omega)
    rwa [show s + (k - s) = k by omega] at this
  have g : ∀ k, mid ≤ k → k < e → d1[k]! = d[k - (e - m)]! := fun k x1 x2 => hr.snd k (by omega) x2
  intro i j x1 x2 x3 x4
  by_cases p : i < s
  · rw [hr.other i (by omega)]
    by_cases q : j < e
    · rw [g j x3 q]; exact L1 _ _ x1 p (by omega) (by omega)
    · rw [hr.other j (by omega)]; exact L3 _ _ x1 p (by omega) x4
  · rw [f i (by omega) x2]
    by_cases q : j < e
    · rw [g j x3 q]; exact L4 _ _ (by omega) (by omega) (by omega) (by omega)
    · rw [hr.other j (by omega)]; exact L2 _ _ (by omega) (by omega) (by omega) x4
/-- What the first half is when the second merge begins, and the other way round. -/
theorem CutAt.first {a m b mid s e : Nat} {d d1 : Array α} (h : MergePre R lt a m b d) (hc : CutAt R a m b mid s e d) (hr : Rot a b s m e d d1) : MergePre R lt a s mid d1 := by
  obtain ⟨h0, h1, h2, h3, h4, h5, sum, -, -⟩ := hc
  have f : ∀ k, s ≤ k → k < mid → d1[k]! = d[m + (k - s)]! := fun k x1 x2 => by
    have := hr.fst (k - s) (by omega)
    rwa [show s + (k - s) = k by omega] at this
  refine ⟨fun i j x1 x2 x3 => ?_, fun i j x1 x2 x3 => ?_, fun i j x1 x2 x3 x4 => ?_⟩
  · rw [hr.other i (by omega), hr.other j (by omega)]; exact h.left _ _ x1 x2 (by omega)
  · rw [f i x1 (by omega), f j (by omega) x3]; exact h.right _ _ (by omega) (by omega) (by omega)
  · rw [hr.other i (by omega), f j x3 x4]; exact h.cross _ _ x1 (by omega) (by omega) (by omega)
theorem CutAt.second {a m b mid s e : Nat} {d d1 d2 : Array α} (h : MergePre R lt a m b d) (hc : CutAt R a m b mid s e d) (hr : Rot a b s m e d d1) (h2 : PermIn a mid d1 d2) : MergePre R lt mid e b d2 := by
  obtain ⟨h0, h1, h2', h3, h4, h5, sum, -, -⟩ := hc
  have g : ∀ k, mid ≤ k → k < e → d2[k]! = d[k - (e - m)]! := fun k x1 x2 => (h2.2.1 k (by omega)).trans (hr.snd k (by omega) x2)
  have o : ∀ k, e ≤ k → d2[k]! = d[k]! := fun k x1 => (h2.2.1 k (by omega)).trans (hr.other k (by omega))
  refine ⟨fun i j x1 x2 x3 => ?_, fun i j x1 x2 x3 => ?_, fun i j x1 x2 x3 x4 => ?_⟩
  · rw [g i x1 (by omega), g j (by omega) x3]; exact h.left _ _ (by omega) (by omega) (by omega)
  · rw [o i (by omega), o j (by omega)]; exact h.right _ _ (by omega) x2 x3
  · rw [g i x1 x2, o j x3]; exact h.cross _ _ (by omega) (by omega) (by omega) x4
theorem MergePre.whole_left {a m b : Nat} {d : Array α} (h : MergePre R lt a m b d) (e : b ≤ m) : Srt R a b d := fun i j x1 x2 x3 => h.left i j x1 x2 (by omega)
theorem MergePre.whole_right {a m b : Nat} {d : Array α} (h : MergePre R lt a m b d) (e : m ≤ a) : Srt R a b d := fun i j x1 x2 x3 => h.right i j (by omega) x2 x3
/-- The two halves merged: the whole merged. -/
theorem CutAt.done (hR : Before R) {a m b mid s e : Nat} {d d1 d2 d3 : Array α} (h : MergePre R lt a m b d) (hc : CutAt R a m b mid s e d) (hb : b ≤ d.size) (ham : a ≤ mid) (hmb : mid ≤ b) (hr : Rot a b s m e d d1)
    (p2 : MergePost R a mid d1 d2) (p3 : MergePost R mid b d2 d3) : MergePost R a b d d3 := by
  have z1 : d1.size = d.size := hr.perm.1
  have z2 : d2.size = d1.size := p2.perm.1
  have m2 : PermIn a b d1 d2 := permIn_mono _ _ _ _ _ _ (Nat.le_refl _) hmb (by omega) p2.perm
  have m3 : PermIn a b d2 d3 := permIn_mono _ _ _ _ _ _ ham (Nat.le_refl _) (by omega) p3.perm
  refine ⟨permIn_trans _ _ _ _ _ (permIn_trans _ _ _ _ _ hr.perm m2) m3, ?_⟩
  have hh := CutAt.halves hR h hc hr
  have k2 : ∀ i j, a ≤ i → i < mid → mid ≤ j → j < b → R d2[i]! d2[j]! := fun i j x1 x2 x3 x4 => by
    rw [p2.perm.2.1 j (by omega)]
    exact permIn_all d1 d2 a mid (fun x => R x d1[j]!) (by omega) p2.perm (fun k y1 y2 => hh k j y1 y2 x3 x4) i x1 x2
  have k3 : ∀ i j, a ≤ i → i < mid → mid ≤ j → j < b → R d3[i]! d3[j]! := fun i j x1 x2 x3 x4 => by
    rw [p3.perm.2.1 i (by omega)]
    exact permIn_all d2 d3 mid b (fun x => R d2[i]! x) (by omega) p3.perm (fun k y1 y2 => k2 i k x1 x2 y1 y2) j x3 x4
  intro i j x1 x2 x3
  by_cases q : j < mid
  · rw [p3.perm.2.1 i (by omega), p3.perm.2.1 j (by omega)]; exact p2.srt i j x1 x2 q
  · by_cases p : i < mid
    · exact k3 i j x1 p (by omega) x3
    · exact p3.srt i j (by omega) x2 x3
end
end Go.Proofs.YtjjmdgiaohmjkaaDoor
