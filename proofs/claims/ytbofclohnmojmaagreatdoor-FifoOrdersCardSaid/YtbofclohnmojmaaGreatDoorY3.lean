/- The stable sort at entries of a queue. -/
import Derived.Sort.LotA
import Derived.Test.YtbofclohnmojmaaGreatDoorY1
import Derived.Shelf.SlSortCmp.KitK
import Derived.BigRegion
import Derived.Shelf.SlSortCmp.InsertionK
import Derived.Deep.CutBlock
namespace Go.Proofs.YtbofclohnmojmaaGreatDoor
open Go.Sort
section
variable {α : Type} [Inhabited α]

/-- An order that says which of two elements goes first. -/
structure Before (R : α → α → Prop) : Prop where
  trans : ∀ {x y z}, R x y → R y z → R x z

/-- The places a ≤ k < b are in order. -/
def Srt (R : α → α → Prop) (a b : Nat) (d : Array α) : Prop := ∀ i j, a ≤ i → i < j → j < b → R d[i]! d[j]!
/-- What a comparison says of one of the left run and one of the right run. -/
def Cross (R : α → α → Prop) (lt : α → α → Bool) (a m b : Nat) (d : Array α) : Prop :=
  ∀ i j, a ≤ i → i < m → m ≤ j → j < b → (lt d[j]! d[i]! = true → R d[j]! d[i]!) ∧ (lt d[j]! d[i]! = false → R d[i]! d[j]!)
structure MergePre (R : α → α → Prop) (lt : α → α → Bool) (a m b : Nat) (d : Array α) : Prop where
  left : Srt R a m d
  right : Srt R m b d
  cross : Cross R lt a m b d
structure MergePost (R : α → α → Prop) (a b : Nat) (d d' : Array α) : Prop where
  perm : PermIn a b d d'
  srt : Srt R a b d'

/-- The ranges a ≤ k < a + n and b ≤ k < b + n have changed places. -/
structure SwR (lo hi a b n : Nat) (d d' : Array α) : Prop where
  perm : PermIn lo hi d d'
  fst : ∀ k, k < n → d'[a + k]! = d[b + k]!
  snd : ∀ k, k < n → d'[b + k]! = d[a + k]!
  other : ∀ k, ¬ (a ≤ k ∧ k < a + n) → ¬ (b ≤ k ∧ k < b + n) → d'[k]! = d[k]!
theorem SwR.zero (lo hi a b : Nat) (d : Array α) : SwR lo hi a b 0 d d := ⟨permIn_refl _ _ _, fun _ h => absurd h (by omega), fun _ h => absurd h (by omega), fun _ _ _ => rfl⟩
theorem SwR.step {lo hi a b n : Nat} {d d' : Array α} (h : SwR lo hi a b n d d') (hab : a + n < b) (hlo : lo ≤ a) (hhi : b + n < hi) (hs : hi ≤ d.size) : SwR lo hi a b (n + 1) d (swp d' (a + n) (b + n)) := by
  have hz : d'.size = d.size := h.perm.1
  have g := swp_get d' (i := a + n) (j := b + n) (by omega) (by omega)
  refine ⟨permIn_trans _ _ _ _ _ h.perm (swp_permIn d' lo hi _ _ (by omega) (by omega) (by omega) (by omega) (by omega)), fun k hk => ?_, fun k hk => ?_, fun k h1 h2 => ?_⟩
  · rw [g]
    by_cases e : k = n
    · subst e
      rw [if_neg (by omega), if_pos rfl, h.other _ (by omega) (by omega)]
    · rw [if_neg (by omega), if_neg (by omega), h.fst k (by omega)]
  · rw [g]
    by_cases e : k = n
    · subst e
      rw [if_pos rfl, h.other _ (by omega) (by omega)]
    · rw [if_neg (by omega), if_neg (by omega), h.snd k (by omega)]
  · rw [g, if_neg (by omega), if_neg (by omega), h.other k (by omega) (by omega)]

/-- The ranges a ≤ k < m and m ≤ k < b have changed places, whatever their lengths. -/
structure Rot (lo hi a m b : Nat) (d d' : Array α) : Prop where
  perm : PermIn lo hi d d'
  fst : ∀ k, k < b - m → d'[a + k]! = d[m + k]!
  snd : ∀ k, a + (b - m) ≤ k → k < b → d'[k]! = d[k - (b - m)]!
  other : ∀ k, k < a ∨ b ≤ k → d'[k]! = d[k]!
theorem Rot.of_swr {lo hi a m i : Nat} {d d' : Array α} (h : SwR lo hi a m i d d') (e : a + i = m) : Rot lo hi a m (m + i) d d' := by
  subst e
  refine ⟨h.perm, fun k hk => h.fst k (by omega), fun k h1 h2 => ?_, fun k hk => h.other k (by omega) (by omega)⟩
  have := h.snd (k - (a + i)) (by omega)
  rw [show a + i + (k - (a + i)) = k by omega] at this
  rw [this, show a + (k - (a + i)) = k - (a + i + i - (a + i)) by omega]
/-- rotate, where the left part is the longer one. -/
theorem Rot.left {lo hi m i j : Nat} {d d1 d' : Array α} (hij : j < i) (him : i ≤ m) (h1 : SwR lo hi (m - i) m j d d1) (h : Rot lo hi (m - (i - j)) m (m + j) d1 d') : Rot lo hi (m - i) m (m + j) d d' := by
  refine ⟨permIn_trans _ _ _ _ _ h1.perm h.perm, fun k hk => ?_, fun k h2 h3 => ?_, fun k hk => ?_⟩
  · rw [h.other _ (by omega), h1.fst k (by omega)]
  · by_cases hk : k < m - (i - j) + j
    · have := h.fst (k - (m - (i - j))) (by omega)
      rw [show m - (i - j) + (k - (m - (i - j))) = k by omega] at this
      rw [this, h1.snd _ (by omega)]
      congr 1; omega
    · rw [h.snd k (by omega) h3, h1.other _ (by omega) (by omega)]
  · rw [h.other k (by omega), h1.other k (by omega) (by omega)]
/-- .. where the right part is. -/
theorem Rot.right {lo hi m i j : Nat} {d d1 d' : Array α} (hij : i < j) (him : i ≤ m) (h1 : SwR lo hi (m - i) (m + j - i) i d d1) (h : Rot lo hi (m - i) m (m + (j - i)) d1 d') : Rot lo hi (m - i) m (m + j) d d' := by
  refine ⟨permIn_trans _ _ _ _ _ h1.perm h.perm, fun k hk => ?_, fun k h2 h3 => ?_, fun k hk => ?_⟩
  · by_cases hk' : k < j - i
    · rw [h.fst k (by omega), h1.other _ (by omega) (by omega)]
    · rw [h.snd _ (by omega) (by omega)]
      have := h1.fst (k - (j - i)) (by omega)
      rw [show m - i + (k - (j - i)) = m - i + k - (m + (j - i) - m) by omega] at this
      rw [this]
      congr 1; omega
  · rw [h.other k (by omega)]
    have := h1.snd (k - (m + j - i)) (by omega)
    rw [show m + j - i + (k - (m + j - i)) = k by omega] at this
    rw [this]
    congr 1; omega
  · rw [h.other k (by omega), h1.other k (by omega) (by omega)]
theorem Rot.none (lo hi a m b : Nat) (d : Array α) (h : a = m ∨ b ≤ m) : Rot lo hi a m b d d := by
  rcases h with h | h
  · subst h
    exact ⟨permIn_refl _ _ _, fun k hk => rfl, fun k h1 h2 => absurd h1 (by omega), fun _ _ => rfl⟩
  · exact ⟨permIn_refl _ _ _, fun k hk => absurd hk (by omega), fun k h1 h2 => by rw [show b - m = 0 by omega, Nat.sub_zero], fun _ _ => rfl⟩
/-- One step to the right, of one element. -/
theorem Rot.snoc {lo hi a k : Nat} {d d1 : Array α} (h : Rot lo hi a (a + 1) k d d1) (hak : a < k) (hlo : lo ≤ a) (hhi : k < hi) (hs : hi ≤ d.size) : Rot lo hi a (a + 1) (k + 1) d (swp d1 (k - 1) k) := by
  have hz : d1.size = d.size := h.perm.1
  have g := swp_get d1 (i := k - 1) (j := k) (by omega) (by omega)
  refine ⟨permIn_trans _ _ _ _ _ h.perm (swp_permIn d1 lo hi _ _ (by omega) (by omega) (by omega) (by omega) (by omega)), fun q hq => ?_, fun q h1 h2 => ?_, fun q hq => ?_⟩
  · rw [g]
    by_cases e : a + q = k - 1
    · rw [if_neg (by omega), if_pos e, h.other k (by omega)]
      congr 1; omega
    · rw [if_neg (by omega), if_neg e, h.fst q (by omega)]
  · obtain rfl : q = k := by omega
    rw [g, if_pos rfl]
    rw [h.snd (q - 1) (by omega) (by omega)]
    congr 1; omega
  · rw [g, if_neg (by omega), if_neg (by omega), h.other q (by omega)]
/-- One step to the left, of one element. -/
theorem Rot.cons {lo hi m k : Nat} {d d1 : Array α} (h : Rot lo hi k m (m + 1) d d1) (hk : 0 < k) (hkm : k ≤ m) (hlo : lo < k) (hhi : m < hi) (hs : hi ≤ d.size) : Rot lo hi (k - 1) m (m + 1) d (swp d1 k (k - 1)) := by
  have hz : d1.size = d.size := h.perm.1
  have g := swp_get d1 (i := k) (j := k - 1) (by omega) (by omega)
  refine ⟨permIn_trans _ _ _ _ _ h.perm (swp_permIn d1 lo hi _ _ (by omega) (by omega) (by omega) (by omega) (by omega)), fun q hq => ?_, fun q h1 h2 => ?_, fun q hq => ?_⟩
  · obtain rfl : q = 0 := by omega
    rw [g, if_pos (by omega)]
    have := h.fst 0 (by omega)
    simpa using this
  · rw [g, if_neg (by omega)]
    by_cases e : q = k
    · subst e
      rw [if_pos rfl, h.other _ (by omega)]
      congr 1; omega
    · rw [if_neg e, h.snd q (by omega) h2]
  · rw [g, if_neg (by omega), if_neg (by omega), h.other q (by omega)]
end

section
variable {α : Type} [Inhabited α] {R : α → α → Prop} {lt : α → α → Bool}
/-- A left run of one element. -/
theorem MergePre.one_left (hR : Before R) {a b i : Nat} {d d' : Array α} (h : MergePre R lt a (a + 1) b d) (hi : a + 1 ≤ i) (hib : i ≤ b)
    (hlo : i = a + 1 ∨ lt d[i - 1]! d[a]! = true) (hhi : i = b ∨ lt d[i]! d[a]! = false) (hr : Rot a b a (a + 1) i d d') : MergePost R a b d d' := by
  refine ⟨hr.perm, ?_⟩
  have hpre : ∀ p, a + 1 ≤ p → p < i → R d[p]! d[a]! := fun p h1 h2 => by
    rcases hlo with e | e
    · omega
    · have c := (h.cross a (i - 1) (Nat.le_refl _) (by omega) (by omega) (by omega)).1 e
      by_cases hp : p = i - 1
      · rw [hp]; exact c
      · exact hR.trans (h.right p (i - 1) h1 (by omega) (by omega)) c
  have hpost : ∀ q, i ≤ q → q < b → R d[a]! d[q]! := fun q h1 h2 => by
    rcases hhi with e | e
    · omega
    · have c := (h.cross a i (Nat.le_refl _) (by omega) (by omega) (by omega)).2 e
      by_cases hq : q = i
      · rw [hq]; exact c
      · exact hR.trans c (h.right i q (by omega) (by omega) h2)
  have f : ∀ k, a ≤ k → k < i - 1 → d'[k]! = d[k + 1]! := fun k h1 h2 => by
    have := hr.fst (k - a) (by omega)
    rw [show a + (k - a) = k by omega, show a + 1 + (k - a) = k + 1 by omega] at this
    exact this
  have l : d'[i - 1]! = d[a]! := by
    rw [hr.snd (i - 1) (by omega) (by omega)]
    congr 1; omega
  intro p q hp hpq hq
  by_cases h1 : q < i - 1
  · rw [f p hp (by omega), f q (by omega) h1]; exact h.right _ _ (by omega) (by omega) (by omega)
  · by_cases h2 : q = i - 1
    · subst h2
      rw [l, f p hp (by omega)]; exact hpre _ (by omega) (by omega)
    · rw [hr.other q (by omega)]
      by_cases h3 : p < i - 1
      · rw [f p hp h3]; exact h.right _ _ (by omega) (by omega) (by omega)
      · by_cases h4 : p = i - 1
        · subst h4; rw [l]; exact hpost q (by omega) hq
        · rw [hr.other p (by omega)]; exact h.right _ _ (by omega) (by omega) (by omega)
/-- A right run of one element. -/
theorem MergePre.one_right (hR : Before R) {a m i : Nat} {d d' : Array α} (h : MergePre R lt a m (m + 1) d) (hi : a ≤ i) (him : i ≤ m)
    (hlo : i = a ∨ lt d[m]! d[i - 1]! = false) (hhi : i = m ∨ lt d[m]! d[i]! = true) (hr : Rot a (m + 1) i m (m + 1) d d') : MergePost R a (m + 1) d d' := by
  refine ⟨hr.perm, ?_⟩
  have hpre : ∀ p, a ≤ p → p < i → R d[p]! d[m]! := fun p h1 h2 => by
    rcases hlo with e | e
    · omega
    · have c := (h.cross (i - 1) m (by omega) (by omega) (Nat.le_refl _) (by omega)).2 e
      by_cases hp : p = i - 1
      · rw [hp]; exact c
      · exact hR.trans (h.left p (i - 1) h1 (by omega) (by omega)) c
  have hpost : ∀ q, i ≤ q → q < m → R d[m]! d[q]! := fun q h1 h2 => by
    rcases hhi with e | e
    · omega
    · have c := (h.cross i m (by omega) (by omega) (Nat.le_refl _) (by omega)).1 e
      by_cases hq : q = i
      · rw [hq]; exact c
      · exact hR.trans c (h.left i q (by omega) (by omega) h2)
  have l : d'[i]! = d[m]! := by have := hr.fst 0 (by omega); simpa using this
  have s : ∀ k, i < k → k < m + 1 → d'[k]! = d[k - 1]! := fun k h1 h2 => by
    rw [hr.snd k (by omega) h2]
    congr 1; omega
  intro p q hp hpq hq
  by_cases h1 : q < i
  · rw [hr.other p (by omega), hr.other q (by omega)]; exact h.left _ _ hp hpq (by omega)
  · by_cases h2 : q = i
    · subst h2
      rw [l, hr.other p (by omega)]; exact hpre _ hp (by omega)
    · rw [s q (by omega) hq]
      by_cases h3 : p < i
      · rw [hr.other p (by omega)]; exact h.left _ _ hp (by omega) (by omega)
      · by_cases h4 : p = i
        · subst h4; rw [l]; exact hpost _ (by omega) (by omega)
        · rw [s p (by omega) (by omega)]; exact h.left _ _ (by omega) (by omega) (by omega)

/-- Where the two halves are cut. -/
structure CutAt (R : α → α → Prop) (a m b mid s e : Nat) (d : Array α) : Prop where
  h0 : a ≤ s
  h1 : s ≤ mid
  h2 : s ≤ m
  h3 : m ≤ e
  h4 : mid ≤ e
  h5 : e ≤ b
  sum : s + e = mid + m
  lo : s = a ∨ e = b ∨ R d[s - 1]! d[e]!
  hi : s = m ∨ e = m ∨ R d[e - 1]! d[s]!
theorem CutAt.halves (hR : Before R) {a m b mid s e : Nat} {d d1 : Array α} (h : MergePre R lt a m b d) (hc : CutAt R a m b mid s e d) (hr : Rot a b s m e d d1) :
    ∀ i j, a ≤ i → i < mid → mid ≤ j → j < b → R d1[i]! d1[j]! := by
  obtain ⟨h0, h1, h2, h3, h4, h5, sum, lo, hi⟩ := hc
  have L1 : ∀ i j, a ≤ i → i < s → s ≤ j → j < m → R d[i]! d[j]! := fun i j x1 x2 x3 x4 => h.left i j x1 (by omega) x4
  have L2 : ∀ i j, m ≤ i → i < e → e ≤ j → j < b → R d[i]! d[j]! := fun i j x1 x2 x3 x4 => h.right i j x1 (by omega) x4
  have L3 : ∀ i j, a ≤ i → i < s → e ≤ j → j < b → R d[i]! d[j]! := fun i j x1 x2 x3 x4 => by
    rcases lo with c | c | c
    · omega
    · omega
    · have c1 : R d[i]! d[e]! := by
        by_cases q : i = s - 1
        · rw [q]; exact c
        · exact hR.trans (h.left i (s - 1) x1 (by omega) (by omega)) c
      by_cases q : j = e
      · rw [q]; exact c1
      · exact hR.trans c1 (h.right e j (by omega) (by omega) x4)
  have L4 : ∀ i j, m ≤ i → i < e → s ≤ j → j < m → R d[i]! d[j]! := fun i j x1 x2 x3 x4 => by
    rcases hi with c | c | c
    · omega
    · omega
    · have c1 : R d[i]! d[s]! := by
        by_cases q : i = e - 1
        · rw [q]; exact c
        · exact hR.trans (h.right i (e - 1) x1 (by omega) (by omega)) c
      by_cases q : j = s
      · rw [q]; exact c1
      · exact hR.trans c1 (h.left s j (by omega) (by omega) x4)
  have f : ∀ k, s ≤ k → k < mid → d1[k]! = d[m + (k - s)]! := fun k x1 x2 => by
    have := hr.fst (k - s) (by omega)
    rwa [show s + (k - s) = k by omega] at this
  have g : ∀ k, mid ≤ k → k < e → d1[k]! = d[k - (e - m)]! := fun k x1 x2 => hr.snd k (by omega) x2
  intro i j x1 x2 x3 x4
  by_cases p : i < s
  · rw [hr.other i (by omega)]
    by_cases q : j < e
    · rw [g j x3 q]; exact L1 _ _ x1 p (by omega) (by omega)
    · rw [hr.other j (by omega)]; exact L3 _ _ x1 p (by omega) x4
  · rw [f i (by omega) x2]
    by_cases q : j < e
    · rw [g j x3 q]; exact L4 _ _ (by omega) (by omega) (by omega) (by omega)
    · rw [hr.other j (by omega)]; exact L2 _ _ (by omega) (by omega) (by omega) x4
/-- What the first half is when the second merge begins, and the other way round. -/
theorem CutAt.first {a m b mid s e : Nat} {d d1 : Array α} (h : MergePre R lt a m b d) (hc : CutAt R a m b mid s e d) (hr : Rot a b s m e d d1) : MergePre R lt a s mid d1 := by
  obtain ⟨h0, h1, h2, h3, h4, h5, sum, -, -⟩ := hc
  have f : ∀ k, s ≤ k → k < mid → d1[k]! = d[m + (k - s)]! := fun k x1 x2 => by
    have := hr.fst (k - s) (by omega)
    rwa [show s + (k - s) = k by omega] at this
  refine ⟨fun i j x1 x2 x3 => ?_, fun i j x1 x2 x3 => ?_, fun i j x1 x2 x3 x4 => ?_⟩
  · rw [hr.other i (by omega), hr.other j (by omega)]; exact h.left _ _ x1 x2 (by omega)
  · rw [f i x1 (by omega), f j (by omega) x3]; exact h.right _ _ (by omega) (by omega) (by omega)
  · rw [hr.other i (by omega), f j x3 x4]; exact h.cross _ _ x1 (by omega) (by omega) (by omega)
theorem CutAt.second {a m b mid s e : Nat} {d d1 d2 : Array α} (h : MergePre R lt a m b d) (hc : CutAt R a m b mid s e d) (hr : Rot a b s m e d d1) (h2 : PermIn a mid d1 d2) : MergePre R lt mid e b d2 := by
  obtain ⟨h0, h1, h2', h3, h4, h5, sum, -, -⟩ := hc
  have g : ∀ k, mid ≤ k → k < e → d2[k]! = d[k - (e - m)]! := fun k x1 x2 => (h2.2.1 k (by omega)).trans (hr.snd k (by omega) x2)
  have o : ∀ k, e ≤ k → d2[k]! = d[k]! := fun k x1 => (h2.2.1 k (by omega)).trans (hr.other k (by omega))
  refine ⟨fun i j x1 x2 x3 => ?_, fun i j x1 x2 x3 => ?_, fun i j x1 x2 x3 x4 => ?_⟩
  · rw [g i x1 (by omega), g j (by omega) x3]; exact h.left _ _ (by omega) (by omega) (by omega)
  · rw [o i (by omega), o j (by omega)]; exact h.right _ _ (by omega) x2 x3
  · rw [g i x1 x2, o j x3]; exact h.cross _ _ (by omega) (by omega) (by omega) x4
theorem MergePre.whole_left {a m b : Nat} {d : Array α} (h : MergePre R lt a m b d) (e : b ≤ m) : Srt R a b d := fun i j x1 x2 x3 => h.left i j x1 x2 (by omega)
theorem MergePre.whole_right {a m b : Nat} {d : Array α} (h : MergePre R lt a m b d) (e : m ≤ a) : Srt R a b d := fun i j x1 x2 x3 => h.right i j (by omega) x2 x3
/-- The two halves merged: the whole merged. -/
theorem CutAt.done (hR : Before R) {a m b mid s e : Nat} {d d1 d2 d3 : Array α} (h : MergePre R lt a m b d) (hc : CutAt R a m b mid s e d) (hb : b ≤ d.size) (ham : a ≤ mid) (hmb : mid ≤ b) (hr : Rot a b s m e d d1)
    (p2 : MergePost R a mid d1 d2) (p3 : MergePost R mid b d2 d3) : MergePost R a b d d3 := by
  have z1 : d1.size = d.size := hr.perm.1
  have z2 : d2.size = d1.size := p2.perm.1
  have m2 : PermIn a b d1 d2 := permIn_mono _ _ _ _ _ _ (Nat.le_refl _) hmb (by omega) p2.perm
  have m3 : PermIn a b d2 d3 := permIn_mono _ _ _ _ _ _ ham (Nat.le_refl _) (by omega) p3.perm
  refine ⟨permIn_trans _ _ _ _ _ (permIn_trans _ _ _ _ _ hr.perm m2) m3, ?_⟩
  have hh := CutAt.halves hR h hc hr
  have k2 : ∀ i j, a ≤ i → i < mid → mid ≤ j → j < b → R d2[i]! d2[j]! := fun i j x1 x2 x3 x4 => by
    rw [p2.perm.2.1 j (by omega)]
    exact permIn_all d1 d2 a mid (fun x => R x d1[j]!) (by omega) p2.perm (fun k y1 y2 => hh k j y1 y2 x3 x4) i x1 x2
  have k3 : ∀ i j, a ≤ i → i < mid → mid ≤ j → j < b → R d3[i]! d3[j]! := fun i j x1 x2 x3 x4 => by
    rw [p3.perm.2.1 i (by omega)]
    exact permIn_all d2 d3 mid b (fun x => R d2[i]! x) (by omega) p3.perm (fun k y1 y2 => k2 i k x1 x2 y1 y2) j x3 x4
  intro i j x1 x2 x3
  by_cases q : j < mid
  · rw [p3.perm.2.1 i (by omega), p3.perm.2.1 j (by omega)]; exact p2.srt i j x1 x2 q
  · by_cases p : i < mid
    · exact k3 i j x1 p (by omega) x3
    · exact p3.srt i j (by omega) x2 x3
end
end Go.Proofs.YtbofclohnmojmaaGreatDoor
namespace Go.Proofs.YtbofclohnmojmaaGreatDoor
open Go.Sort
section
variable {α : Type} [Inhabited α] {R : α → α → Prop} {lt : α → α → Bool}

/-- What the comparison says of two elements of which x came first. -/
def Crs (R : α → α → Prop) (lt : α → α → Bool) (x y : α) : Prop := (lt y x = true → R y x) ∧ (lt y x = false → R x y)

/-- [a, i] is in order but for the place j; what lies there goes before all to its right. -/
structure InsR (R : α → α → Prop) (lt : α → α → Bool) (a j i : Nat) (d : Array α) : Prop where
  rest : ∀ p q, a ≤ p → p < q → q ≤ i → p ≠ j → q ≠ j → R d[p]! d[q]!
  right : ∀ q, j < q → q ≤ i → R d[j]! d[q]!
  crs : ∀ p, a ≤ p → p < j → Crs R lt d[p]! d[j]!
theorem InsR.stop (hR : Before R) {a j i : Nat} {d : Array α} (h : InsR R lt a j i d) (hs : j ≤ a ∨ lt d[j]! d[j - 1]! = false) : Srt R a (i + 1) d := by
  intro p q hp hpq hq
  by_cases e : p = j
  · subst e; exact h.right q hpq (by omega)
  by_cases e' : q = j
  · subst e'
    rcases hs with hs | hs
    · omega
    · have c := (h.crs (q - 1) (by omega) (by omega)).2 hs
      by_cases e2 : p = q - 1
      · rw [e2]; exact c
      · exact hR.trans (h.rest p (q - 1) hp (by omega) (by omega) e (by omega)) c
  · exact h.rest p q hp hpq (by omega) e e'
theorem InsR.step {a j i : Nat} {d : Array α} (h : InsR R lt a (j + 1) i d) (hl : lt d[j + 1]! d[j]! = true) (haj : a ≤ j) (hji : j + 1 ≤ i) (hsz : i < d.size) : InsR R lt a j i (swp d (j + 1) j) := by
  have g := swp_get d (i := j + 1) (j := j) (by omega) (by omega)
  have c := (h.crs j haj (by omega)).1 hl
  refine ⟨fun p q hp hpq hq h1 h2 => ?_, fun q h1 h2 => ?_, fun p h1 h2 => ?_⟩
  · rw [g p, g q, if_neg h1, if_neg h2]
    by_cases e : p = j + 1
    · rw [if_pos e, if_neg (by omega)]; exact h.rest j q haj (by omega) hq (by omega) (by omega)
    · rw [if_neg e]
      by_cases e2 : q = j + 1
      · rw [if_pos e2]; exact h.rest p j hp (by omega) (by omega) e (by omega)
      · rw [if_neg e2]; exact h.rest p q hp hpq hq e e2
  · rw [g j, g q, if_pos rfl, if_neg (by omega)]
    by_cases e : q = j + 1
    · rw [if_pos e]; exact c
    · rw [if_neg e]; exact h.right q (by omega) h2
  · rw [g p, g j, if_pos rfl, if_neg (by omega), if_neg (by omega)]; exact h.crs p h1 (by omega)
theorem insInnerR (hR : Before R) {a b i : Nat} (hib : i < b) : ∀ (j : Nat) (d : Array α), b ≤ d.size → j ≤ i → a ≤ j → InsR R lt a j i d → PermIn a b d (insInner lt a j d) ∧ Srt R a (i + 1) (insInner lt a j d) ∧ (∀ k, i < k → (insInner lt a j d)[k]! = d[k]!) ∧ PermIn a (i + 1) d (insInner lt a j d)
  | 0, d, hb, _, _, h => ⟨permIn_refl _ _ _, h.stop hR (.inl (Nat.zero_le _)), fun _ _ => rfl, permIn_refl _ _ _⟩
  | j + 1, d, hb, hj, haj, h => by
    unfold insInner
    split
    · rename_i hc
      rw [Bool.and_eq_true, decide_eq_true_eq] at hc
      obtain ⟨p1, p2, p3, p4⟩ := insInnerR hR hib j (swp d (j + 1) j) (by rw [swp_size]; exact hb) (by omega) (by omega) (h.step hc.2 (by omega) hj (by omega))
      refine ⟨permIn_trans _ _ _ _ _ (swp_permIn d a b _ _ (by omega) (by omega) (by omega) (by omega) hb) p1, p2, fun k hk => ?_, permIn_trans _ _ _ _ _ (swp_permIn d a (i + 1) _ _ (by omega) (by omega) (by omega) (by omega) (by omega)) p4⟩
      rw [p3 k hk, swp_get d (by omega) (by omega), if_neg (by omega), if_neg (by omega)]
    · rename_i hc
      refine ⟨permIn_refl _ _ _, h.stop hR ?_, fun _ _ => rfl, permIn_refl _ _ _⟩
      rcases Nat.lt_or_ge a (j + 1) with h1 | h1
      · right
        cases hl : lt d[j + 1]! d[j]!
        · simpa using hl
        · rw [hl] at hc; simp at hc; omega
      · exact .inl h1
theorem insOuterR (hR : Before R) {a b : Nat} : ∀ (n i : Nat) (d : Array α), b - i ≤ n → a ≤ i → i ≤ b → b ≤ d.size → Srt R a i d → (∀ p q, a ≤ p → p < q → i ≤ q → q < b → Crs R lt d[p]! d[q]!) →
    PermIn a b d (insOuter lt a b i d) ∧ Srt R a b (insOuter lt a b i d)
  | n, i, d, hn, hai, hib, hb, hs, hc => by
    unfold insOuter
    split
    · rename_i h
      cases n with
      | zero => omega
      | succ n =>
      obtain ⟨p1, p2, p3, p4⟩ := insInnerR (lt := lt) hR h i d hb (Nat.le_refl _) hai ⟨fun p q x1 x2 x3 x4 x5 => hs p q x1 x2 (by omega), fun q x1 x2 => absurd x1 (by omega), fun p x1 x2 => hc p i x1 x2 (Nat.le_refl _) h⟩
      obtain ⟨q1, q2⟩ : PermIn a b (insInner lt a i d) (insOuter lt a b (i + 1) (insInner lt a i d)) ∧ Srt R a b (insOuter lt a b (i + 1) (insInner lt a i d)) := insOuterR hR n (i + 1) (insInner lt a i d) (by omega) (by omega) (by omega) (by rw [p1.1]; exact hb) p2 (fun p q x1 x2 x3 x4 => by
        rw [p3 q (by omega)]
        by_cases e : p < i + 1
        · exact permIn_all d _ a (i + 1) (fun x => Crs R lt x d[q]!) (by omega) p4 (fun k y1 y2 => hc k q y1 (by omega) (by omega) x4) p x1 e
        · rw [p3 p (by omega)]; exact hc p q x1 x2 (by omega) x4)
      exact ⟨permIn_trans _ _ _ _ _ p1 q1, q2⟩
    · obtain rfl : i = b := by omega
      exact ⟨permIn_refl _ _ _, hs⟩
/-- Insertion sort is stable. -/
theorem insSortR (hR : Before R) {a b : Nat} {d : Array α} (hab : a ≤ b) (hb : b ≤ d.size) (hc : ∀ p q, a ≤ p → p < q → q < b → Crs R lt d[p]! d[q]!) : MergePost R a b d (insertionSort lt d a b) := by
  unfold insertionSort
  by_cases e : a = b
  · subst e
    unfold insOuter
    rw [if_neg (by omega)]
    exact ⟨permIn_refl _ _ _, fun i j h1 h2 h3 => absurd h3 (by omega)⟩
  · obtain ⟨p1, p2⟩ := insOuterR (lt := lt) hR (b - (a + 1)) (a + 1) d (Nat.le_refl _) (by omega) (by omega) hb (fun i j h1 h2 h3 => absurd h3 (by omega)) (fun p q x1 x2 x3 x4 => hc p q x1 x2 x4)
    exact ⟨p1, p2⟩

/-! ### blocks -/
theorem dvd_le {c a s : Nat} (h1 : c ∣ a) (h2 : c ∣ s) (h : a < s + c) : a ≤ s := by
  obtain ⟨x, rfl⟩ := h1
  obtain ⟨y, rfl⟩ := h2
  have : c * x < c * (y + 1) := by rw [Nat.mul_succ]; exact h
  have := Nat.lt_of_mul_lt_mul_left this
  exact Nat.mul_le_mul_left c (by omega)
/-- Up to a the blocks of c are in order; from a on those of b are. -/
structure Blocks (R : α → α → Prop) (lt : α → α → Bool) (c b a n : Nat) (d : Array α) : Prop where
  fst : ∀ s e, c ∣ s → e ≤ s + c → e ≤ a → Srt R s e d
  snd : ∀ s e, a ≤ s → b ∣ s → e ≤ s + b → e ≤ n → Srt R s e d
  crs : ∀ s, (c ∣ s ∨ (a ≤ s ∧ b ∣ s)) → ∀ i j, i < s → s ≤ j → j < n → Crs R lt d[i]! d[j]!
theorem Blocks.pre {c b a e n : Nat} {d : Array α} (h : Blocks R lt c b a n d) (hb : b ∣ a) (hab : a + b ≤ n) (he : e ≤ a + b + b) (hn : e ≤ n) : MergePre R lt a (a + b) e d := by
  have hb' : b ∣ a + b := Nat.dvd_add hb (Nat.dvd_refl b)
  exact ⟨h.snd a (a + b) (Nat.le_refl _) hb (Nat.le_refl _) hab, h.snd (a + b) e (by omega) hb' (by omega) hn, fun i j x1 x2 x3 x4 => h.crs (a + b) (.inr ⟨by omega, hb'⟩) i j x2 x3 (by omega)⟩
/-- The block from a on is put in order: e = a + c, or the end. -/
theorem Blocks.step {c b a e n : Nat} {d d' : Array α} (h : Blocks R lt c b a n d) (hc : c ∣ a) (hae : a ≤ e) (he : e = a + c ∨ e = n ∧ e ≤ a + c) (hn : e ≤ n) (hz : n ≤ d.size) (hp : MergePost R a e d d') : Blocks R lt c b e n d' := by
  have ha : ∀ p : α → Prop, (∀ k, a ≤ k → k < e → p d[k]!) → ∀ k, a ≤ k → k < e → p d'[k]! := fun p hk => permIn_all d d' a e p (by omega) hp.perm hk
  refine ⟨fun s q x1 x2 x3 => ?_, fun s q x1 x2 x3 x4 => ?_, fun s x1 i j x2 x3 x4 => ?_⟩
  · by_cases y : q ≤ a
    · intro i j z1 z2 z3
      rw [hp.perm.2.1 i (by omega), hp.perm.2.1 j (by omega)]; exact h.fst s q x1 x2 y i j z1 z2 z3
    · have := dvd_le hc x1 (by omega)
      intro i j z1 z2 z3
      exact hp.srt i j (by omega) z2 (by omega)
  · intro i j z1 z2 z3
    rw [hp.perm.2.1 i (by omega), hp.perm.2.1 j (by omega)]; exact h.snd s q (by omega) x2 x3 x4 i j z1 z2 z3
  · by_cases y : s ≤ a
    · have hs : c ∣ s ∨ (a ≤ s ∧ b ∣ s) := by
        rcases x1 with x1 | x1
        · exact .inl x1
        · exact .inr ⟨by omega, x1.2⟩
      rw [hp.perm.2.1 i (by omega)]
      by_cases z : a ≤ j ∧ j < e
      · exact ha (fun x => Crs R lt d[i]! x) (fun k k1 k2 => h.crs s hs i k x2 (by omega) (by omega)) j z.1 z.2
      · rw [hp.perm.2.1 j (by omega)]; exact h.crs s hs i j x2 x3 x4
    · have hs : c ∣ s ∨ (a ≤ s ∧ b ∣ s) := by
        rcases x1 with x1 | x1
        · exact .inl x1
        · exact .inr ⟨by omega, x1.2⟩
      have hes : e ≤ s := by
        rcases x1 with x1 | x1
        · rcases he with he | he
          · have := dvd_le (s := s) (a := a + c) (Nat.dvd_add hc (Nat.dvd_refl c)) x1 (by omega)
            omega
          · have := dvd_le (s := s) (a := a + c) (Nat.dvd_add hc (Nat.dvd_refl c)) x1 (by omega)
            omega
        · exact x1.1
      rw [hp.perm.2.1 j (by omega)]
      by_cases z : a ≤ i ∧ i < e
      · exact ha (fun x => Crs R lt x d[j]!) (fun k k1 k2 => h.crs s hs k j (by omega) (by omega) x4) i z.1 z.2
      · rw [hp.perm.2.1 i (by omega)]; exact h.crs s hs i j x2 x3 x4
/-- The last block is in order as it stands. -/
theorem Blocks.last {c b a n : Nat} {d : Array α} (h : Blocks R lt c b a n d) (hc : c ∣ a) (hb : b ∣ a) (hn : n ≤ a + b) (hz : n ≤ d.size) : Blocks R lt c b n n d := by
  by_cases y : a ≤ n
  · by_cases w : n ≤ a + c
    · exact h.step hc y (.inr ⟨rfl, w⟩) (Nat.le_refl _) hz ⟨permIn_refl _ _ _, h.snd a n (Nat.le_refl _) hb hn (Nat.le_refl _)⟩
    · refine ⟨fun s e x1 x2 x3 => ?_, fun s e x1 x2 x3 x4 => fun i j z1 z2 z3 => absurd z3 (by omega), fun s x1 i j x2 x3 x4 => ?_⟩
      · by_cases q : e ≤ a
        · exact h.fst s e x1 x2 q
        · have := dvd_le hc x1 (by omega)
          intro i j z1 z2 z3
          exact h.snd a n (Nat.le_refl _) hb hn (Nat.le_refl _) i j (by omega) z2 (by omega)
      · rcases x1 with x1 | x1
        · exact h.crs s (.inl x1) i j x2 x3 x4
        · omega
  · refine ⟨fun s e x1 x2 x3 => h.fst s e x1 x2 (by omega), fun s e x1 x2 x3 x4 => fun i j z1 z2 z3 => absurd z3 (by omega), fun s x1 i j x2 x3 x4 => ?_⟩
    rcases x1 with x1 | x1
    · exact h.crs s (.inl x1) i j x2 x3 x4
    · omega
/-- The next phase begins: blocks of twice the size. -/
theorem Blocks.next {c b n : Nat} {d : Array α} (h : Blocks R lt c b n n d) : Blocks R lt (c + c) c 0 n d := by
  refine ⟨fun s e x1 x2 x3 => fun i j z1 z2 z3 => absurd z3 (by omega), fun s e x1 x2 x3 x4 => h.fst s e x2 x3 x4, fun s x1 i j x2 x3 x4 => ?_⟩
  refine h.crs s (.inl ?_) i j x2 x3 x4
  rcases x1 with x1 | x1
  · exact Nat.dvd_trans ⟨2, by omega⟩ x1
  · exact x1.2
/-- All in order. -/
theorem Blocks.all {c b n : Nat} {d : Array α} (h : Blocks R lt c b n n d) (hn : n ≤ c) : Srt R 0 n d := h.fst 0 n (Nat.dvd_zero c) (by omega) (Nat.le_refl _)
/-- The beginning: blocks of one. -/
theorem Blocks.start {c n : Nat} {d : Array α} (h : ∀ i j, i < j → j < n → Crs R lt d[i]! d[j]!) : Blocks R lt c 1 0 n d :=
  ⟨fun s e x1 x2 x3 => fun i j z1 z2 z3 => absurd z3 (by omega), fun s e x1 x2 x3 x4 => fun i j z1 z2 z3 => absurd z3 (by omega), fun s x1 i j x2 x3 x4 => h i j (by omega) x4⟩
/-- What lies from a on is as the comparison says, one by one: for the insertion sorts. -/
theorem Blocks.ins (hR : Before R) {c a e n : Nat} {d : Array α} (h : Blocks R lt c 1 a n d) (hc : c ∣ a) (hae : a ≤ e) (he : e = a + c ∨ e = n ∧ e ≤ a + c) (hn : e ≤ n) (hz : n ≤ d.size) : Blocks R lt c 1 e n (insertionSort lt d a e) ∧ (insertionSort lt d a e).size = d.size ∧ PermIn 0 n d (insertionSort lt d a e) := by
  have hp : MergePost R a e d (insertionSort lt d a e) := insSortR hR hae (by omega) (fun p q x1 x2 x3 => h.crs q (.inr ⟨by omega, Nat.one_dvd q⟩) p q x2 (Nat.le_refl _) (by omega))
  exact ⟨h.step hc hae he hn hz hp, hp.perm.1, permIn_mono _ _ _ _ _ _ (Nat.zero_le _) hn hz hp.perm⟩
end
end Go.Proofs.YtbofclohnmojmaaGreatDoor
namespace Go.Proofs.YtbofclohnmojmaaGreatDoor
open Go.RowKit Go.Sort

/-- A load of 11 cells, that the walk leaves whole. -/
def lcK (a : Addr) : Sem (Array Value) := loadCellsFrom a 0 11 #[]
theorem run_lcK (P : Program) (a : Addr) (W : World) : Sem.run P (loadCellsFrom a 0 11 #[]) W = Sem.run P (lcK a) W := rfl
attribute [local go_sem ↓] run_lcK
section
variable {α : Type} [Inhabited α] {enc : α → List Value} {w0 w : World} {blk off cap : Nat} {d0 d : Array α}
theorem SWK.of_eq {d d' : Array α} (h : SWK enc 11 w0 blk off d w) (e : d = d') : SWK enc 11 w0 blk off d' w := e ▸ h
set_option maxHeartbeats 4000000 in
set_option maxRecDepth 100000 in
theorem swapRange_s (R : RowK enc 11 w0 blk off d0) (hs : d0.size = d.size) (S : SWK enc 11 w0 blk off d w) (lo hi a b n : Nat) (f : Value) (hab : a + n ≤ b) (hlo : lo ≤ a) (hhi : b + n ≤ hi) (hhs : hi ≤ d.size) (hsz : d.size < 4611686018427387904) :
    Calls Tryz.prog 126 #[.slice (some ⟨blk, off, none⟩) d.size cap, .int .i64 a, .int .i64 b, .int .i64 n, f] w fun e w' => e = .returned (.tuple #[]) ∧ ∃ d', SWK enc 11 w0 blk off d' w' ∧ SwR lo hi a b n d d' := by
  have S0 := Lib.hid S
  have HR := Lib.hid R
  clear S R
  go_enter Tryz.func126, Tryz.ntmps126
  go_wp2_with fail
  go_loopw [10] (fun vi wr => ∃ (i : Nat) (dk : Array α), vi = .int .i64 i ∧ i ≤ n ∧ dk.size = d.size ∧ SWK enc 11 w0 blk off dk wr ∧ SwR lo hi a b i d dk) (fun vi _ => n - (intOf vi).toNat)
  case atStart => exact ⟨0, d, rfl, Nat.zero_le _, rfl, S0.out, SwR.zero _ _ _ _ _⟩
  case round =>
    clear S0
    obtain ⟨i, dk, rfl, hin, hsk, hS, hW⟩ := hrel
    have S := Lib.hid hS
    have HW := Lib.hid hW
    clear hS hW
    by_cases hlt : i < n
    · have hltz : (i : Int) < (n : Int) := by omega
      have HW2 := Lib.hid (HW.out.step (by omega) hlo (by omega) hhs)
      obtain ⟨N1, hN1⟩ : ∃ q, q = a + i := ⟨_, rfl⟩
      have e1 : (((a : Int) + (i : Int))).toNat = N1 := by omega
      have p1 : (0 : Int) ≤ ((a : Int) + (i : Int)) := by omega
      have b1 : ((a : Int) + (i : Int)) < (d.size : Int) := by omega
      have ra : IntKind.i64.wrap ((a : Int) + (i : Int)) = (a : Int) + (i : Int) := by rw [IntKind.wrap_i64]; omega
      obtain ⟨N2, hN2⟩ : ∃ q, q = b + i := ⟨_, rfl⟩
      have e2 : (((b : Int) + (i : Int))).toNat = N2 := by omega
      have p2 : (0 : Int) ≤ ((b : Int) + (i : Int)) := by omega
      have b2 : ((b : Int) + (i : Int)) < (d.size : Int) := by omega
      have rc : IntKind.i64.wrap ((b : Int) + (i : Int)) = (b : Int) + (i : Int) := by rw [IntKind.wrap_i64]; omega
      obtain ⟨x, hx⟩ : ∃ x, x = dk[a + i]! := ⟨_, rfl⟩
      obtain ⟨y, hy⟩ : ∃ x, x = dk[b + i]! := ⟨_, rfl⟩
      obtain ⟨cJ, hcJ⟩ : ∃ c, c = enc x := ⟨_, rfl⟩
      obtain ⟨cP, hcP⟩ : ∃ c, c = enc y := ⟨_, rfl⟩
      have S3 := Lib.hid (show SWK enc 11 w0 blk off (swp dk (a + i) (b + i)) ((wr.drew.setCells blk (off + N1 * 11) cP).setCells blk (off + N2 * 11) cJ) by rw [hcJ, hcP, hN1, hN2, hx, hy]; exact S.out.swapped HR.out (a + i) (b + i) (by omega) (by omega))
      have hsJ : cJ.length = 11 := by rw [hcJ]; exact HR.out.hk _
      have hsP : cP.length = 11 := by rw [hcP]; exact HR.out.hk _
      have mixed : Tryz.prog.follows .mixedOrders = true := by kernel_rfl
      have lj := S.out.ld1 HR.out (by omega) Tryz.prog (a + i) (by omega)
      have lp := S.out.ld1 HR.out (by omega) Tryz.prog (b + i) (by omega)
      have s1 := S.out.st1 HR.out (by omega) Tryz.prog (a + i) (by omega) y
      have s2 := S.out.st2 HR.out (by omega) Tryz.prog (a + i) (b + i) (by omega) (by omega) y x
      rw [← hx, ← hcJ, ← hN1] at lj
      rw [← hy, ← hcP, ← hN2] at lp
      rw [← hcP, ← hN1] at s1
      rw [← hcP, ← hcJ, ← hN2, ← hN1] at s2
      have lj : Sem.run Tryz.prog (lcK ⟨blk, off + N1 * 11, none⟩) wr.drew = .ok cJ.toArray wr.drew := lj
      have lp : Sem.run Tryz.prog (lcK ⟨blk, off + N2 * 11, none⟩) wr.drew = .ok cP.toArray wr.drew := lp
      clear S hx hy hcJ hcP hN1 hN2
      go_wp2_with fail
      go_big_region_o
      clear lj lp s1 s2 hsJ hsP
      generalize (wr.drew.setCells blk (off + N1 * 11) cP).setCells blk (off + N2 * 11) cJ = w3 at S3 ⊢
      clear e1 e2
      go_wp2_with fail
      go_roundw
      case rel => exact ⟨i + 1, swp dk (a + i) (b + i), by go_num, by omega, by rw [size_swp]; exact hsk, S3.out, HW2.out⟩
      case measure => simp [intOf]; omega
    · obtain rfl : i = n := by omega
      go_wp2_with fail
      go_end0
      exact ⟨rfl, dk, S.out, HW.out⟩
set_option maxHeartbeats 4000000 in
set_option maxRecDepth 100000 in
theorem rotate_s (R : RowK enc 11 w0 blk off d0) (hs : d0.size = d.size) (S : SWK enc 11 w0 blk off d w) (lo hi a m b : Nat) (f : Value) (ham : a < m) (hmb : m < b) (hlo : lo ≤ a) (hhi : b ≤ hi) (hhs : hi ≤ d.size) (hsz : d.size < 4611686018427387904) :
    Calls Tryz.prog 113 #[.slice (some ⟨blk, off, none⟩) d.size cap, .int .i64 a, .int .i64 m, .int .i64 b, f] w fun e w' => e = .returned (.tuple #[]) ∧ ∃ d', SWK enc 11 w0 blk off d' w' ∧ Rot lo hi a m b d d' := by
  have S0 := Lib.hid S
  have HR := Lib.hid R
  obtain ⟨i0, hi0⟩ : ∃ q, a + q = m := ⟨m - a, by omega⟩
  obtain ⟨j0, hj0⟩ : ∃ q, m + q = b := ⟨b - m, by omega⟩
  have r0 : IntKind.i64.wrap ((m : Int) - (a : Int)) = (i0 : Int) := by rw [IntKind.wrap_i64]; omega
  have r1 : IntKind.i64.wrap ((b : Int) - (m : Int)) = (j0 : Int) := by rw [IntKind.wrap_i64]; omega
  clear S R
  go_enter Tryz.func113, Tryz.ntmps113
  go_wp2_with fail
  go_loopw [10, 11] (fun vi vj wr => ∃ (i j : Nat) (dk : Array α), vi = .int .i64 i ∧ vj = .int .i64 j ∧ 0 < i ∧ 0 < j ∧ i ≤ i0 ∧ j ≤ j0 ∧ dk.size = d.size ∧ SWK enc 11 w0 blk off dk wr ∧ ∀ d', Rot lo hi (m - i) m (m + j) dk d' → Rot lo hi a m b d d') (fun vi vj _ => (intOf vi).toNat + (intOf vj).toNat)
  case atStart => exact ⟨i0, j0, d, by first | rfl | go_num | (congr 1; omega), by first | rfl | go_num | (congr 1; omega), by omega, by omega, Nat.le_refl _, Nat.le_refl _, rfl, S0.out, fun d' h => by rw [show m - i0 = a by omega, hj0] at h; exact h⟩
  case round =>
    clear S0
    obtain ⟨i, j, dk, rfl, rfl, hi1, hj1, hii, hjj, hsk, hS, hW⟩ := hrel
    have S := Lib.hid hS
    have HW := Lib.hid hW
    clear hS hW
    obtain ⟨mi, hmi⟩ : ∃ q, q + i = m := ⟨m - i, by omega⟩
    have rmi : IntKind.i64.wrap ((m : Int) - (i : Int)) = (mi : Int) := by rw [IntKind.wrap_i64]; omega
    have emi : (m : Int) - (i : Int) = (mi : Int) := by omega
    rcases Nat.lt_trichotomy j i with h | h | h
    · have h1 : (j : Int) < (i : Int) := by omega
      have h2 : ((i : Int) != (j : Int)) = true := by simp; omega
      obtain ⟨i2, hi2⟩ : ∃ q, q + j = i := ⟨i - j, by omega⟩
      have ri2 : IntKind.i64.wrap ((i : Int) - (j : Int)) = (i2 : Int) := by rw [IntKind.wrap_i64]; omega
      go_wp2_with fail
      try rw [emi]
      rw [← hsk]
      refine (swapRange_s HR.out (by omega) S.out lo hi mi m j f (by omega) (by omega) (by omega) (by omega) (by omega)).mono ?_
      rintro e w3 ⟨rfl, d3, hS3, hW3⟩
      have S3 := Lib.hid hS3
      have HW3 := Lib.hid (fun d' h => HW.out d' (Rot.left (i := i) (j := j) (by omega) (by omega) (by rw [show m - i = mi by omega]; exact hW3) h))
      have hs3 := hW3.perm.1
      clear hS3 hW3 S HW
      go_wp2_with fail
      go_roundw
      case rel => exact ⟨i2, j, d3, by first | rfl | go_num | (congr 1; omega), rfl, by omega, hj1, by omega, hjj, by omega, S3.out, fun d' h => HW3.out d' (by rw [show i - j = i2 by omega]; exact h)⟩
      case measure => simp [intOf]; omega
    · subst h
      have h2 : ((j : Int) != (j : Int)) = false := by simp
      go_wp2_with fail
      try rw [emi]
      rw [← hsk]
      refine (swapRange_s HR.out (by omega) S.out lo hi mi m j f (by omega) (by omega) (by omega) (by omega) (by omega)).mono ?_
      rintro e w3 ⟨rfl, d3, hS3, hW3⟩
      have hF := HW.out d3 (by rw [show m - j = mi by omega]; exact Rot.of_swr hW3 (by omega))
      go_wp2_with fail
      go_end0
      exact ⟨rfl, d3, hS3, hF⟩
    · have h1 : ¬ (j : Int) < (i : Int) := by omega
      have h2 : ((i : Int) != (j : Int)) = true := by simp; omega
      obtain ⟨j2, hj2⟩ : ∃ q, q + i = j := ⟨j - i, by omega⟩
      have rj2 : IntKind.i64.wrap ((j : Int) - (i : Int)) = (j2 : Int) := by rw [IntKind.wrap_i64]; omega
      have rs : IntKind.i64.wrap ((m : Int) + (j : Int)) = ((m + j : Nat) : Int) := by rw [IntKind.wrap_i64]; omega
      have rs2 : IntKind.i64.wrap (((m + j : Nat) : Int) - (i : Int)) = ((m + j2 : Nat) : Int) := by rw [IntKind.wrap_i64]; omega
      have es : (m : Int) + (j : Int) - (i : Int) = ((m + j2 : Nat) : Int) := by omega
      go_wp2_with fail
      try rw [emi]
      try rw [es]
      rw [← hsk]
      refine (swapRange_s HR.out (by omega) S.out lo hi mi (m + j2) i f (by omega) (by omega) (by omega) (by omega) (by omega)).mono ?_
      rintro e w3 ⟨rfl, d3, hS3, hW3⟩
      have S3 := Lib.hid hS3
      have HW3 := Lib.hid (fun d' h => HW.out d' (Rot.right (i := i) (j := j) (by omega) (by omega) (by rw [show m - i = mi by omega, show m + j - i = m + j2 by omega]; exact hW3) h))
      have hs3 := hW3.perm.1
      clear hS3 hW3 S HW
      go_wp2_with fail
      go_roundw
      case rel => exact ⟨i, j2, d3, rfl, by first | rfl | go_num | (congr 1; omega), hi1, by omega, hii, by omega, by omega, S3.out, fun d' h => HW3.out d' (by rw [show j - i = j2 by omega]; exact h)⟩
      case measure => simp [intOf]; omega
end
end Go.Proofs.YtbofclohnmojmaaGreatDoor
namespace Go.Proofs.YtbofclohnmojmaaGreatDoor
open Go.RowKit Go.Sort

attribute [local go_sem ↓] run_lcK
section
variable {α : Type} [Inhabited α] {enc : α → List Value} {cf : α → α → Int} {R : α → α → Prop} {w0 w : World} {blk off cap g : Nat} {cb : Array Value} {d0 d : Array α}
set_option maxHeartbeats 8000000 in
set_option maxRecDepth 100000 in
theorem sym_left (eg : ∀ args w, (callFunc g args).run Tryz.prog w = .ok (.enter g args) w) (hcmp : CmpLays Tryz.prog g cb enc 11 cf blk off d0.size w0) (R1 : RowK enc 11 w0 blk off d0) (hR : Before R)
    (hs : d0.size = d.size) (S : SWK enc 11 w0 blk off d w) (a b : Nat) (hab : a + 1 < b) (hb : b ≤ d.size) (hsz : d.size < 4611686018427387904) (hm : MergePre R (ltOf cf) a (a + 1) b d) :
    Calls Tryz.prog 99 #[.slice (some ⟨blk, off, none⟩) d.size cap, .int .i64 a, .int .i64 (a + 1 : Nat), .int .i64 (b : Nat), .func (.func g) #[] cb] w fun e w' => e = .returned (.tuple #[]) ∧ ∃ d', SWK enc 11 w0 blk off d' w' ∧ MergePost R a (b) d d' := by
  have mixed : Tryz.prog.follows .mixedOrders = true := by kernel_rfl
  have HC := Lib.hid hcmp
  have S0 := Lib.hid S
  have HR := Lib.hid R1
  have HM := Lib.hid hm
  have t1 : (((a : Int) + 1 - (a : Int)) == 1) = true := by simp; omega
  have q1 : IntKind.i64.wrap ((a : Int) + 1 - (a : Int)) = (a : Int) + 1 - (a : Int) := by rw [IntKind.wrap_i64]; omega
  clear S R1 hcmp hm
  go_enter Tryz.func99, Tryz.ntmps99
  go_wp2_with fail
  go_loopw [10, 11, 12] (fun vi vj _ wr => ∃ (i j : Nat), vi = .int .i64 i ∧ vj = .int .i64 j ∧ a + 1 ≤ i ∧ i ≤ j ∧ j ≤ b ∧ SWK enc 11 w0 blk off d wr ∧ (i = a + 1 ∨ ltOf cf d[i - 1]! d[a]! = true) ∧ (j = b ∨ ltOf cf d[j]! d[a]! = false)) (fun vi vj _ _ => (intOf vj).toNat - (intOf vi).toNat)
  case atStart => exact ⟨a + 1, b, rfl, rfl, Nat.le_refl _, by omega, Nat.le_refl _, S0.out, .inl rfl, .inl rfl⟩
  case round =>
    clear S0
    obtain ⟨i, j, rfl, rfl, hai, hij, hjb, hS, hlo, hhi⟩ := hrel
    have S := Lib.hid hS
    have HB := Lib.hid (And.intro hlo hhi)
    clear hS hlo hhi
    by_cases hlt : i < j
    · have hltz : (i : Int) < (j : Int) := by omega
      obtain ⟨h, hh⟩ : ∃ q, q = (i + j) / 2 := ⟨_, rfl⟩
      obtain ⟨N1, hN1⟩ : ∃ q, q = h := ⟨_, rfl⟩
      have e1 : ((((i : Int) + (j : Int)) / 2)).toNat = N1 := by omega
      have p1 : (0 : Int) ≤ (((i : Int) + (j : Int)) / 2) := by omega
      have b1 : (((i : Int) + (j : Int)) / 2) < (d.size : Int) := by omega
      have b2 : (a : Int) < (d.size : Int) := by omega
      have bn2 : a < d.size := by omega
      obtain ⟨x, hx⟩ : ∃ x, x = d[h]! := ⟨_, rfl⟩
      obtain ⟨y, hy⟩ : ∃ x, x = d[a]! := ⟨_, rfl⟩
      have l1 := S.out.ld HR.out (by omega) Tryz.prog (h) (by omega)
      have l2 := S.out.ld HR.out (by omega) Tryz.prog (a) (by omega)
      rw [← hx, ← hN1] at l1
      rw [← hy] at l2
      have l1 : ∀ n os, Sem.run Tryz.prog (lcK ⟨blk, off + N1 * 11, none⟩) (grow (wr.drewN n) os) = .ok (enc x).toArray (grow (wr.drewN n) os) := l1
      have l2 : ∀ n os, Sem.run Tryz.prog (lcK ⟨blk, off + a * 11, none⟩) (grow (wr.drewN n) os) = .ok (enc y).toArray (grow (wr.drewN n) os) := l2
      have hc := S.out.cmp HC.out (by omega) x y
      cases hlv : ltOf cf d[h]! d[a]! with
      | true =>
        have hv :  cf x y < 0 := by rw [hx, hy]; exact of_decide_eq_true hlv
        have hd : decide (cf x y < 0) = true := decide_eq_true hv
        clear hx hy hN1
        go_wp2_with fail
        go_quiet_grown (first | (go_at_fn g; refine Calls.grown_of (hc _ _)))
        have S2 := Lib.hid (show SWK enc 11 w0 blk off d (grow (wr.drewN nq) osq) from S.out.grown nq osq)
        clear l1 l2 hc S
        generalize grow (wr.drewN nq) osq = w2 at S2 ⊢
        clear nq osq
        clear e1
        go_wp2_with fail
        go_roundw
        case rel => first | exact ⟨h + 1, j, by first | rfl | go_num | (congr 1; omega), rfl, by omega, by omega, hjb, S2.out, .inr (by rw [Nat.add_sub_cancel]; exact hlv), HB.out.2⟩ | ((repeat apply Exists.intro); exact ⟨⟨h + 1, j, by first | rfl | go_num | (congr 1; omega), rfl, by omega, by omega, hjb, S2.out, .inr (by rw [Nat.add_sub_cancel]; exact hlv), HB.out.2⟩, rfl⟩)
        case measure => simp [intOf]; omega
      | false =>
        have hv : ¬ cf x y < 0 := by rw [hx, hy]; exact of_decide_eq_false hlv
        have hd : decide (cf x y < 0) = false := decide_eq_false hv
        clear hx hy hN1
        go_wp2_with fail
        go_quiet_grown (first | (go_at_fn g; refine Calls.grown_of (hc _ _)))
        have S2 := Lib.hid (show SWK enc 11 w0 blk off d (grow (wr.drewN nq) osq) from S.out.grown nq osq)
        clear l1 l2 hc S
        generalize grow (wr.drewN nq) osq = w2 at S2 ⊢
        clear nq osq
        clear e1
        go_wp2_with fail
        go_roundw
        case rel => first | exact ⟨i, h, rfl, by first | rfl | go_num | (congr 1; omega), hai, by omega, by omega, S2.out, HB.out.1, .inr hlv⟩ | ((repeat apply Exists.intro); exact ⟨⟨i, h, rfl, by first | rfl | go_num | (congr 1; omega), hai, by omega, by omega, S2.out, HB.out.1, .inr hlv⟩, rfl⟩)
        case measure => simp [intOf]; omega
    · obtain rfl : i = j := by omega
      have hd1 : ¬ (i : Int) < (i : Int) := by omega
      have q2 : IntKind.i64.wrap ((i : Int) - 1) = (i : Int) - 1 := by rw [IntKind.wrap_i64]; omega
      go_wp2_with fail
      go_loopw [13] (fun vk wk => ∃ (k : Nat) (dk : Array α), vk = .int .i64 k ∧ a ≤ k ∧ k + 1 ≤ i ∧ dk.size = d.size ∧ SWK enc 11 w0 blk off dk wk ∧ Rot a b a (a + 1) (k + 1) d dk) (fun vk _ => i - (intOf vk).toNat)
      case atStart => exact ⟨a, d, rfl, Nat.le_refl _, by omega, rfl, S.out, Rot.none _ _ _ _ _ _ (.inr (by omega))⟩
      case round =>
        clear S
        obtain ⟨k, dk, rfl, hak, hki, hsk, hS, hrot⟩ := hrel
        have S := Lib.hid hS
        have HW := Lib.hid hrot
        clear hS hrot
        by_cases hlt2 : k + 1 < i
        · have hltz2 : (k : Int) < (i : Int) - 1 := by omega
          have HW2 := Lib.hid (show Rot a b a (a + 1) (k + 1 + 1) d (swp dk k (k + 1)) from HW.out.snoc (by omega) (by omega) (by omega) (by omega))
          have b1 : (k : Int) < (d.size : Int) := by omega
          have bn1 : k < d.size := by omega
          obtain ⟨N2, hN2⟩ : ∃ q, q = k + 1 := ⟨_, rfl⟩
          have e2 : (((k : Int) + 1)).toNat = N2 := by omega
          have p2 : (0 : Int) ≤ ((k : Int) + 1) := by omega
          have b2 : ((k : Int) + 1) < (d.size : Int) := by omega
          have r2 : IntKind.i64.wrap ((k : Int) + 1) = (k : Int) + 1 := by rw [IntKind.wrap_i64]; omega
          obtain ⟨x, hx⟩ : ∃ x, x = dk[k]! := ⟨_, rfl⟩
          obtain ⟨y, hy⟩ : ∃ x, x = dk[k + 1]! := ⟨_, rfl⟩
          obtain ⟨cJ, hcJ⟩ : ∃ c, c = enc x := ⟨_, rfl⟩
          obtain ⟨cP, hcP⟩ : ∃ c, c = enc y := ⟨_, rfl⟩
          have S3 := Lib.hid (show SWK enc 11 w0 blk off (swp dk (k) (k + 1)) ((wr.drew.setCells blk (off + k * 11) cP).setCells blk (off + N2 * 11) cJ) by rw [hcJ, hcP, hN2, hx, hy]; exact S.out.swapped HR.out (k) (k + 1) (by omega) (by omega))
          have hsJ : cJ.length = 11 := by rw [hcJ]; exact HR.out.hk _
          have hsP : cP.length = 11 := by rw [hcP]; exact HR.out.hk _
          have mixed : Tryz.prog.follows .mixedOrders = true := by kernel_rfl
          have lj := S.out.ld1 HR.out (by omega) Tryz.prog (k) (by omega)
          have lp := S.out.ld1 HR.out (by omega) Tryz.prog (k + 1) (by omega)
          have s1 := S.out.st1 HR.out (by omega) Tryz.prog (k) (by omega) y
          have s2 := S.out.st2 HR.out (by omega) Tryz.prog (k) (k + 1) (by omega) (by omega) y x
          rw [← hx, ← hcJ] at lj
          rw [← hy, ← hcP, ← hN2] at lp
          rw [← hcP] at s1
          rw [← hcP, ← hcJ, ← hN2] at s2
          have lj : Sem.run Tryz.prog (lcK ⟨blk, off + k * 11, none⟩) wr.drew = .ok cJ.toArray wr.drew := lj
          have lp : Sem.run Tryz.prog (lcK ⟨blk, off + N2 * 11, none⟩) wr.drew = .ok cP.toArray wr.drew := lp
          clear S hx hy hcJ hcP hN2
          go_wp2_with fail
          go_big_region_o
          clear lj lp s1 s2 hsJ hsP
          generalize (wr.drew.setCells blk (off + k * 11) cP).setCells blk (off + N2 * 11) cJ = w3 at S3 ⊢
          clear e2
          go_wp2_with fail
          go_roundw
          case rel => first | exact ⟨k + 1, swp dk k (k + 1), by go_num, by omega, by omega, by rw [size_swp]; exact hsk, S3.out, HW2.out⟩ | ((repeat apply Exists.intro); exact ⟨⟨k + 1, swp dk k (k + 1), by go_num, by omega, by omega, by rw [size_swp]; exact hsk, S3.out, HW2.out⟩, rfl⟩)
          case measure => simp [intOf]; omega
        · have hltz2 : ¬ (k : Int) < (i : Int) - 1 := by omega
          obtain rfl : i = k + 1 := by omega
          go_wp2_with fail
          refine bodyPost_ret (results_none rfl _ _ _) rfl ?_
          exact ⟨rfl, dk, S.out, MergePre.one_left hR HM.out hai hjb HB.out.1 HB.out.2 HW.out⟩
set_option maxHeartbeats 8000000 in
set_option maxRecDepth 100000 in
theorem sym_right (eg : ∀ args w, (callFunc g args).run Tryz.prog w = .ok (.enter g args) w) (hcmp : CmpLays Tryz.prog g cb enc 11 cf blk off d0.size w0) (R1 : RowK enc 11 w0 blk off d0) (hR : Before R)
    (hs : d0.size = d.size) (S : SWK enc 11 w0 blk off d w) (a m : Nat) (hab : a + 1 < m) (hb : m + 1 ≤ d.size) (hsz : d.size < 4611686018427387904) (hm : MergePre R (ltOf cf) a m (m + 1) d) :
    Calls Tryz.prog 99 #[.slice (some ⟨blk, off, none⟩) d.size cap, .int .i64 a, .int .i64 (m : Nat), .int .i64 (m + 1 : Nat), .func (.func g) #[] cb] w fun e w' => e = .returned (.tuple #[]) ∧ ∃ d', SWK enc 11 w0 blk off d' w' ∧ MergePost R a (m + 1) d d' := by
  have mixed : Tryz.prog.follows .mixedOrders = true := by kernel_rfl
  have HC := Lib.hid hcmp
  have S0 := Lib.hid S
  have HR := Lib.hid R1
  have HM := Lib.hid hm
  have t1 : (((m : Int) - (a : Int)) == 1) = false := by simp; omega
  have q1 : IntKind.i64.wrap ((m : Int) - (a : Int)) = (m : Int) - (a : Int) := by rw [IntKind.wrap_i64]; omega
  have t3 : (((m : Int) + 1 - (m : Int)) == 1) = true := by simp; omega
  have q3 : IntKind.i64.wrap ((m : Int) + 1 - (m : Int)) = (m : Int) + 1 - (m : Int) := by rw [IntKind.wrap_i64]; omega
  clear S R1 hcmp hm
  go_enter Tryz.func99, Tryz.ntmps99
  go_wp2_with fail
  go_loopw [14, 15, 16] (fun vi vj _ wr => ∃ (i j : Nat), vi = .int .i64 i ∧ vj = .int .i64 j ∧ a ≤ i ∧ i ≤ j ∧ j ≤ m ∧ SWK enc 11 w0 blk off d wr ∧ (i = a ∨ ltOf cf d[m]! d[i - 1]! = false) ∧ (j = m ∨ ltOf cf d[m]! d[j]! = true)) (fun vi vj _ _ => (intOf vj).toNat - (intOf vi).toNat)
  case atStart => exact ⟨a, m, rfl, rfl, Nat.le_refl _, by omega, Nat.le_refl _, S0.out, .inl rfl, .inl rfl⟩
  case round =>
    clear S0
    obtain ⟨i, j, rfl, rfl, hai, hij, hjb, hS, hlo, hhi⟩ := hrel
    have S := Lib.hid hS
    have HB := Lib.hid (And.intro hlo hhi)
    clear hS hlo hhi
    by_cases hlt : i < j
    · have hltz : (i : Int) < (j : Int) := by omega
      obtain ⟨h, hh⟩ : ∃ q, q = (i + j) / 2 := ⟨_, rfl⟩
      have b1 : (m : Int) < (d.size : Int) := by omega
      have bn1 : m < d.size := by omega
      obtain ⟨N2, hN2⟩ : ∃ q, q = h := ⟨_, rfl⟩
      have e2 : ((((i : Int) + (j : Int)) / 2)).toNat = N2 := by omega
      have p2 : (0 : Int) ≤ (((i : Int) + (j : Int)) / 2) := by omega
      have b2 : (((i : Int) + (j : Int)) / 2) < (d.size : Int) := by omega
      obtain ⟨x, hx⟩ : ∃ x, x = d[m]! := ⟨_, rfl⟩
      obtain ⟨y, hy⟩ : ∃ x, x = d[h]! := ⟨_, rfl⟩
      have l1 := S.out.ld HR.out (by omega) Tryz.prog (m) (by omega)
      have l2 := S.out.ld HR.out (by omega) Tryz.prog (h) (by omega)
      rw [← hx] at l1
      rw [← hy, ← hN2] at l2
      have l1 : ∀ n os, Sem.run Tryz.prog (lcK ⟨blk, off + m * 11, none⟩) (grow (wr.drewN n) os) = .ok (enc x).toArray (grow (wr.drewN n) os) := l1
      have l2 : ∀ n os, Sem.run Tryz.prog (lcK ⟨blk, off + N2 * 11, none⟩) (grow (wr.drewN n) os) = .ok (enc y).toArray (grow (wr.drewN n) os) := l2
      have hc := S.out.cmp HC.out (by omega) x y
      cases hlv : ltOf cf d[m]! d[h]! with
      | true =>
        have hv :  cf x y < 0 := by rw [hx, hy]; exact of_decide_eq_true hlv
        have hd : decide (cf x y < 0) = true := decide_eq_true hv
        clear hx hy hN2
        go_wp2_with fail
        go_quiet_grown (first | (go_at_fn g; refine Calls.grown_of (hc _ _)))
        have S2 := Lib.hid (show SWK enc 11 w0 blk off d (grow (wr.drewN nq) osq) from S.out.grown nq osq)
        clear l1 l2 hc S
        generalize grow (wr.drewN nq) osq = w2 at S2 ⊢
        clear nq osq
        clear e2
        go_wp2_with fail
        go_roundw
        case rel => first | exact ⟨i, h, rfl, by first | rfl | go_num | (congr 1; omega), hai, by omega, by omega, S2.out, HB.out.1, .inr hlv⟩ | ((repeat apply Exists.intro); exact ⟨⟨i, h, rfl, by first | rfl | go_num | (congr 1; omega), hai, by omega, by omega, S2.out, HB.out.1, .inr hlv⟩, rfl⟩)
        case measure => simp [intOf]; omega
      | false =>
        have hv : ¬ cf x y < 0 := by rw [hx, hy]; exact of_decide_eq_false hlv
        have hd : decide (cf x y < 0) = false := decide_eq_false hv
        clear hx hy hN2
        go_wp2_with fail
        go_quiet_grown (first | (go_at_fn g; refine Calls.grown_of (hc _ _)))
        have S2 := Lib.hid (show SWK enc 11 w0 blk off d (grow (wr.drewN nq) osq) from S.out.grown nq osq)
        clear l1 l2 hc S
        generalize grow (wr.drewN nq) osq = w2 at S2 ⊢
        clear nq osq
        clear e2
        go_wp2_with fail
        go_roundw
        case rel => first | exact ⟨h + 1, j, by first | rfl | go_num | (congr 1; omega), rfl, by omega, by omega, hjb, S2.out, .inr (by rw [Nat.add_sub_cancel]; exact hlv), HB.out.2⟩ | ((repeat apply Exists.intro); exact ⟨⟨h + 1, j, by first | rfl | go_num | (congr 1; omega), rfl, by omega, by omega, hjb, S2.out, .inr (by rw [Nat.add_sub_cancel]; exact hlv), HB.out.2⟩, rfl⟩)
        case measure => simp [intOf]; omega
    · obtain rfl : i = j := by omega
      have hd1 : ¬ (i : Int) < (i : Int) := by omega
      go_wp2_with fail
      go_loopw [17] (fun vk wk => ∃ (k : Nat) (dk : Array α), vk = .int .i64 k ∧ i ≤ k ∧ k ≤ m ∧ dk.size = d.size ∧ SWK enc 11 w0 blk off dk wk ∧ Rot a (m + 1) k m (m + 1) d dk) (fun vk _ => (intOf vk).toNat)
      case atStart => exact ⟨m, d, rfl, hjb, Nat.le_refl _, rfl, S.out, Rot.none _ _ _ _ _ _ (.inl rfl)⟩
      case round =>
        clear S
        obtain ⟨k, dk, rfl, hak, hki, hsk, hS, hrot⟩ := hrel
        have S := Lib.hid hS
        have HW := Lib.hid hrot
        clear hS hrot
        by_cases hlt2 : i < k
        · have hltz2 : (i : Int) < (k : Int) := by omega
          have HW2 := Lib.hid (HW.out.cons (by omega) (by omega) (by omega) (by omega) (by omega))
          have b1 : (k : Int) < (d.size : Int) := by omega
          have bn1 : k < d.size := by omega
          obtain ⟨N2, hN2⟩ : ∃ q, q = k - 1 := ⟨_, rfl⟩
          have e2 : (((k : Int) - 1)).toNat = N2 := by omega
          have p2 : (0 : Int) ≤ ((k : Int) - 1) := by omega
          have b2 : ((k : Int) - 1) < (d.size : Int) := by omega
          have r2 : IntKind.i64.wrap ((k : Int) - 1) = (k : Int) - 1 := by rw [IntKind.wrap_i64]; omega
          obtain ⟨x, hx⟩ : ∃ x, x = dk[k]! := ⟨_, rfl⟩
          obtain ⟨y, hy⟩ : ∃ x, x = dk[k - 1]! := ⟨_, rfl⟩
          obtain ⟨cJ, hcJ⟩ : ∃ c, c = enc x := ⟨_, rfl⟩
          obtain ⟨cP, hcP⟩ : ∃ c, c = enc y := ⟨_, rfl⟩
          have S3 := Lib.hid (show SWK enc 11 w0 blk off (swp dk (k) (k - 1)) ((wr.drew.setCells blk (off + k * 11) cP).setCells blk (off + N2 * 11) cJ) by rw [hcJ, hcP, hN2, hx, hy]; exact S.out.swapped HR.out (k) (k - 1) (by omega) (by omega))
          have hsJ : cJ.length = 11 := by rw [hcJ]; exact HR.out.hk _
          have hsP : cP.length = 11 := by rw [hcP]; exact HR.out.hk _
          have mixed : Tryz.prog.follows .mixedOrders = true := by kernel_rfl
          have lj := S.out.ld1 HR.out (by omega) Tryz.prog (k) (by omega)
          have lp := S.out.ld1 HR.out (by omega) Tryz.prog (k - 1) (by omega)
          have s1 := S.out.st1 HR.out (by omega) Tryz.prog (k) (by omega) y
          have s2 := S.out.st2 HR.out (by omega) Tryz.prog (k) (k - 1) (by omega) (by omega) y x
          rw [← hx, ← hcJ] at lj
          rw [← hy, ← hcP, ← hN2] at lp
          rw [← hcP] at s1
          rw [← hcP, ← hcJ, ← hN2] at s2
          have lj : Sem.run Tryz.prog (lcK ⟨blk, off + k * 11, none⟩) wr.drew = .ok cJ.toArray wr.drew := lj
          have lp : Sem.run Tryz.prog (lcK ⟨blk, off + N2 * 11, none⟩) wr.drew = .ok cP.toArray wr.drew := lp
          clear S hx hy hcJ hcP hN2
          go_wp2_with fail
          go_big_region_o
          clear lj lp s1 s2 hsJ hsP
          generalize (wr.drew.setCells blk (off + k * 11) cP).setCells blk (off + N2 * 11) cJ = w3 at S3 ⊢
          clear e2
          go_wp2_with fail
          go_roundw
          case rel => first | exact ⟨k - 1, swp dk k (k - 1), by first | rfl | go_num | (congr 1; omega), by omega, by omega, by rw [size_swp]; exact hsk, S3.out, HW2.out⟩ | ((repeat apply Exists.intro); exact ⟨⟨k - 1, swp dk k (k - 1), by first | rfl | go_num | (congr 1; omega), by omega, by omega, by rw [size_swp]; exact hsk, S3.out, HW2.out⟩, rfl⟩)
          case measure => simp [intOf]; omega
        · have hltz2 : ¬ (i : Int) < (k : Int) := by omega
          obtain rfl : i = k := by omega
          go_wp2_with fail
          refine bodyPost_ret (results_none rfl _ _ _) rfl ?_
          exact ⟨rfl, dk, S.out, MergePre.one_right hR HM.out hai hjb HB.out.1 HB.out.2 HW.out⟩
end
end Go.Proofs.YtbofclohnmojmaaGreatDoor
namespace Go.Proofs.YtbofclohnmojmaaGreatDoor
open Go.RowKit Go.Sort

attribute [local go_sem ↓] run_lcK
section
variable {α : Type} [Inhabited α] {enc : α → List Value} {cf : α → α → Int} {R : α → α → Prop} {w0 w : World} {blk off cap g : Nat} {cb : Array Value} {d0 d : Array α}
/-- What symMerge leaves. -/
def SymPost (enc : α → List Value) (R : α → α → Prop) (w0 : World) (blk off a b : Nat) (d : Array α) (e : Ending) (w' : World) : Prop := e = .returned (.tuple #[]) ∧ ∃ d', SWK enc 11 w0 blk off d' w' ∧ MergePost R a b d d'
theorem MergePost.same {R : α → α → Prop} {a b : Nat} {d : Array α} (h : Srt R a b d) : MergePost R a b d d := ⟨permIn_refl _ _ _, h⟩
theorem cut_of {a m b mid s e s0 r0 : Nat} (hm : MergePre R (ltOf cf) a m b d) (h0 : s0 ≤ s) (h1 : s ≤ r0) (he : s + e = mid + m) (ha : a ≤ s0) (hr1 : r0 ≤ mid) (hr2 : r0 ≤ m) (hb : mid + m ≤ b + s0)
    (hs0 : s0 = a ∨ s0 + b = mid + m) (hr0 : r0 = m ∨ r0 = mid) (hlo : s = s0 ∨ ltOf cf d[mid + m - 1 - (s - 1)]! d[s - 1]! = false) (hhi : s = r0 ∨ ltOf cf d[mid + m - 1 - s]! d[s]! = true) : CutAt R a m b mid s e d := by
  refine ⟨by omega, by omega, by omega, by omega, by omega, by omega, he, ?_, ?_⟩
  · rcases hlo with h | h
    · rcases hs0 with h' | h'
      · exact .inl (by omega)
      · exact .inr (.inl (by omega))
    · by_cases hsa : s = a
      · exact .inl hsa
      by_cases heb : e = b
      · exact .inr (.inl heb)
      refine .inr (.inr ?_)
      rw [show mid + m - 1 - (s - 1) = e by omega] at h
      exact (hm.cross (s - 1) e (by omega) (by omega) (by omega) (by omega)).2 h
  · rcases hhi with h | h
    · rcases hr0 with h' | h'
      · exact .inl (by omega)
      · exact .inr (.inl (by omega))
    · by_cases hsm : s = m
      · exact .inl hsm
      by_cases hem : e = m
      · exact .inr (.inl hem)
      refine .inr (.inr ?_)
      rw [show mid + m - 1 - s = e - 1 by omega] at h
      exact (hm.cross s (e - 1) (by omega) (by omega) (by omega) (by omega)).1 h
set_option maxHeartbeats 16000000 in
set_option maxRecDepth 100000 in
theorem sym_gen (eg : ∀ args w, (callFunc g args).run Tryz.prog w = .ok (.enter g args) w) (hcmp : CmpLays Tryz.prog g cb enc 11 cf blk off d0.size w0) (R1 : RowK enc 11 w0 blk off d0) (hR : Before R)
    (hs : d0.size = d.size) (S : SWK enc 11 w0 blk off d w) (a m b : Nat) (ham : a + 1 < m) (hmb : m + 1 < b) (hb : b ≤ d.size) (hsz : d.size < 4611686018427387904) (hm : MergePre R (ltOf cf) a m b d)
    (ih : ∀ (a' m' b' : Nat) (d' : Array α) (w' : World), b' - a' < b - a → d0.size = d'.size → SWK enc 11 w0 blk off d' w' → a' < m' → m' < b' → b' ≤ d'.size → MergePre R (ltOf cf) a' m' b' d' →
      Calls Tryz.prog 99 #[.slice (some ⟨blk, off, none⟩) d'.size cap, .int .i64 a', .int .i64 m', .int .i64 b', .func (.func g) #[] cb] w' (SymPost enc R w0 blk off a' b' d')) :
    Calls Tryz.prog 99 #[.slice (some ⟨blk, off, none⟩) d.size cap, .int .i64 a, .int .i64 m, .int .i64 b, .func (.func g) #[] cb] w (SymPost enc R w0 blk off a b d) := by
  have mixed : Tryz.prog.follows .mixedOrders = true := by kernel_rfl
  have HC := Lib.hid hcmp
  have S0 := Lib.hid S
  have HR := Lib.hid R1
  have HM := Lib.hid hm
  have IH := Lib.hid ih
  have t1 : (((m : Int) - (a : Int)) == 1) = false := by simp; omega
  have q1 : IntKind.i64.wrap ((m : Int) - (a : Int)) = (m : Int) - (a : Int) := by rw [IntKind.wrap_i64]; omega
  have t3 : (((b : Int) - (m : Int)) == 1) = false := by simp; omega
  have q3 : IntKind.i64.wrap ((b : Int) - (m : Int)) = (b : Int) - (m : Int) := by rw [IntKind.wrap_i64]; omega
  obtain ⟨mid, hmid⟩ : ∃ q, q = (a + b) / 2 := ⟨_, rfl⟩
  have emid : (((a : Int) + (b : Int)) / 2) = (mid : Int) := by omega
  have HEM := Lib.hid emid
  have HMD := Lib.hid (show 2 * mid ≤ a + b ∧ a + b ≤ 2 * mid + 1 by omega)
  clear hmid
  clear S R1 hcmp hm ih emid
  go_enter Tryz.func99, Tryz.ntmps99
  go_upto_region 25 with fail
  have emid := HEM.out
  simp only [emid]
  clear emid HEM
  obtain ⟨hmm1, hmm2⟩ := HMD.out
  clear HMD
  have qb : IntKind.i64.wrap ((mid : Int) + (m : Int)) = (mid : Int) + (m : Int) := by rw [IntKind.wrap_i64]; omega
  have qc : IntKind.i64.wrap ((mid : Int) + (m : Int) - (b : Int)) = (mid : Int) + (m : Int) - (b : Int) := by rw [IntKind.wrap_i64]; omega
  go_upto_if 140 with fail
  go_cut [18, 19, 20, 21] from 25 (fun v18 v19 v20 v21 wx => ∃ s0 r0 : Nat, v18 = .int .i64 mid ∧ v19 = .int .i64 ((mid : Int) + (m : Int)) ∧ v20 = .int .i64 s0 ∧ v21 = .int .i64 r0 ∧ wx = w ∧ a ≤ s0 ∧ s0 ≤ r0 ∧ r0 ≤ mid ∧ r0 ≤ m ∧ mid + m ≤ b + s0 ∧ (s0 = a ∨ s0 + b = mid + m) ∧ (r0 = m ∨ r0 = mid))
  case first =>
    as_aux_lemma =>
      clear t1 q1 t3 q3 S0 HC HR HM IH mixed
      by_cases hmm : mid < m
      · have hmz : (mid : Int) < (m : Int) := by omega
        go_wp2_with fail
        go_meet
        exact ⟨mid + m - b, mid, by first | rfl | go_num | (congr 1; omega), by first | rfl | go_num | (congr 1; omega), by first | rfl | go_num | (congr 1; omega), by first | rfl | go_num | (congr 1; omega), rfl, by omega, by omega, by omega, by omega, by omega, .inr (by omega), .inr rfl⟩
      · have hmz : ¬ (mid : Int) < (m : Int) := by omega
        go_wp2_with fail
        go_meet
        exact ⟨a, m, by first | rfl | go_num | (congr 1; omega), by first | rfl | go_num | (congr 1; omega), rfl, rfl, rfl, by omega, by omega, by omega, by omega, by omega, .inl rfl, .inl rfl⟩
  case rest =>
    as_aux_lemma =>
      obtain ⟨s0, r0, rfl, rfl, rfl, rfl, rfl, k1, k2, k3, k4, k5, k6, k7⟩ := hcut
      clear t1 q1 t3 q3 qb qc
      have HCUT := Lib.hid (fun (s e : Nat) (h0 : s0 ≤ s) (h1 : s ≤ r0) (he : s + e = mid + m) hlo hhi => cut_of (s0 := s0) (r0 := r0) (e := e) HM.out h0 h1 he k1 k3 k4 k5 k6 k7 hlo hhi)
      clear k6 k7
      have qd : IntKind.i64.wrap ((mid : Int) + (m : Int) - 1) = (mid : Int) + (m : Int) - 1 := by rw [IntKind.wrap_i64]; omega
      go_upto_block 8 with fail
      go_cut [20] from 25 (fun v20 wx => ∃ (s e : Nat), v20 = .int .i64 s ∧ s + e = mid + m ∧ SWK enc 11 w0 blk off d wx ∧ CutAt R a m b mid s e d)
      case first =>
        as_aux_lemma =>
          go_wp2_with fail
          go_loopw [20, 21, 23] (fun vi vj _ wr => ∃ (i j : Nat), vi = .int .i64 i ∧ vj = .int .i64 j ∧ s0 ≤ i ∧ i ≤ j ∧ j ≤ r0 ∧ SWK enc 11 w0 blk off d wr ∧ (i = s0 ∨ ltOf cf d[mid + m - 1 - (i - 1)]! d[i - 1]! = false) ∧ (j = r0 ∨ ltOf cf d[mid + m - 1 - j]! d[j]! = true)) (fun vi vj _ _ => (intOf vj).toNat - (intOf vi).toNat)
          case atStart => exact ⟨s0, r0, by first | rfl | go_num | (congr 1; omega), by first | rfl | go_num | (congr 1; omega), Nat.le_refl _, by omega, Nat.le_refl _, S0.out, .inl rfl, .inl rfl⟩
          case round =>
            clear S0
            obtain ⟨i, j, rfl, rfl, hai, hij, hjb, hS, hlo, hhi⟩ := hrel
            have S := Lib.hid hS
            have HB := Lib.hid (And.intro hlo hhi)
            clear hS hlo hhi
            by_cases hlt : i < j
            · have hltz : (i : Int) < (j : Int) := by omega
              obtain ⟨h, hh⟩ : ∃ q, q = (i + j) / 2 := ⟨_, rfl⟩
              have HEH := Lib.hid (show ((i : Int) + (j : Int)) / 2 = (h : Int) by omega)
              have hih : i ≤ h := by omega
              have hhj : h < j := by omega
              clear hh
              go_upto_region 35 with fail
              have eh := HEH.out
              simp only [eh]
              clear eh HEH
              obtain ⟨pc, hpc⟩ : ∃ q, q = mid + m - 1 - h := ⟨_, rfl⟩
              have hpcb : pc < d.size := by omega
              have rr : IntKind.i64.wrap ((mid : Int) + (m : Int) - 1 - (h : Int)) = (pc : Int) := by rw [IntKind.wrap_i64]; omega
              have rr2 : wrap64 ((mid : Int) + (m : Int) - 1 - (h : Int)) = (pc : Int) := by rw [← IntWalk.i64_left]; exact rr
              have HPC := Lib.hid hpc
              clear hpc
              have b1 : (pc : Int) < (d.size : Int) := by omega
              have bn1 : pc < d.size := by omega
              have b2 : (h : Int) < (d.size : Int) := by omega
              have bn2 : h < d.size := by omega
              obtain ⟨x, hx⟩ : ∃ x, x = d[pc]! := ⟨_, rfl⟩
              obtain ⟨y, hy⟩ : ∃ x, x = d[h]! := ⟨_, rfl⟩
              have l1 := S.out.ld HR.out (by omega) Tryz.prog (pc) (by omega)
              have l2 := S.out.ld HR.out (by omega) Tryz.prog (h) (by omega)
              rw [← hx] at l1
              rw [← hy] at l2
              have l1 : ∀ n os, Sem.run Tryz.prog (lcK ⟨blk, off + pc * 11, none⟩) (grow (wr.drewN n) os) = .ok (enc x).toArray (grow (wr.drewN n) os) := l1
              have l2 : ∀ n os, Sem.run Tryz.prog (lcK ⟨blk, off + h * 11, none⟩) (grow (wr.drewN n) os) = .ok (enc y).toArray (grow (wr.drewN n) os) := l2
              have hc := S.out.cmp HC.out (by omega) x y
              cases hlv : ltOf cf d[pc]! d[h]! with
              | true =>
                as_aux_lemma =>
                  have hv :  cf x y < 0 := by rw [hx, hy]; exact of_decide_eq_true hlv
                  have hd : decide (cf x y < 0) = true := decide_eq_true hv
                  clear hx hy
                  go_wp2_with fail
                  go_quiet_grown (first | (go_at_fn g; refine Calls.grown_of (hc _ _)))
                  have S2 := Lib.hid (show SWK enc 11 w0 blk off d (grow (wr.drewN nq) osq) from S.out.grown nq osq)
                  clear l1 l2 hc S
                  generalize grow (wr.drewN nq) osq = w2 at S2 ⊢
                  clear nq osq
                  go_wp2_with fail
                  go_roundw
                  case rel => first | exact ⟨i, h, rfl, by first | rfl | go_num | (congr 1; omega), hai, by omega, by omega, S2.out, HB.out.1, .inr (by rw [← HPC.out]; exact hlv)⟩ | ((repeat apply Exists.intro); exact ⟨⟨i, h, rfl, by first | rfl | go_num | (congr 1; omega), hai, by omega, by omega, S2.out, HB.out.1, .inr (by rw [← HPC.out]; exact hlv)⟩, rfl⟩)
                  case measure => simp [intOf]; omega
              | false =>
                as_aux_lemma =>
                  have hv : ¬ cf x y < 0 := by rw [hx, hy]; exact of_decide_eq_false hlv
                  have hd : decide (cf x y < 0) = false := decide_eq_false hv
                  clear hx hy
                  go_wp2_with fail
                  go_quiet_grown (first | (go_at_fn g; refine Calls.grown_of (hc _ _)))
                  have S2 := Lib.hid (show SWK enc 11 w0 blk off d (grow (wr.drewN nq) osq) from S.out.grown nq osq)
                  clear l1 l2 hc S
                  generalize grow (wr.drewN nq) osq = w2 at S2 ⊢
                  clear nq osq
                  go_wp2_with fail
                  go_roundw
                  case rel => first | exact ⟨h + 1, j, by first | rfl | go_num | (congr 1; omega), rfl, by omega, by omega, hjb, S2.out, .inr (by rw [Nat.add_sub_cancel, ← HPC.out]; exact hlv), HB.out.2⟩ | ((repeat apply Exists.intro); exact ⟨⟨h + 1, j, by first | rfl | go_num | (congr 1; omega), rfl, by omega, by omega, hjb, S2.out, .inr (by rw [Nat.add_sub_cancel, ← HPC.out]; exact hlv), HB.out.2⟩, rfl⟩)
                  case measure => simp [intOf]; omega
            · obtain rfl : i = j := by omega
              obtain ⟨e, he⟩ : ∃ q, i + q = mid + m := ⟨mid + m - i, by omega⟩
              have hd1 : ¬ (i : Int) < (i : Int) := by omega
              have hfin := HCUT.out i e hai hjb he HB.out.1 HB.out.2
              go_wp2_with fail
              go_meet
              exact ⟨i, e, rfl, he, S.out, hfin⟩
      case rest =>
        as_aux_lemma =>
          clear qd HCUT k1 k2 k3 k4 k5 s0 r0
          obtain ⟨s, e, rfl, he, hS, hct⟩ := hcut
          have S := Lib.hid hS
          have HCT := Lib.hid hct
          have c3 := hct.h3
          have c5 := hct.h5
          have c0 := hct.h0
          have c1 := hct.h1
          have c2 := hct.h2
          have c4 := hct.h4
          clear hS hct S0
          have ee : (mid : Int) + (m : Int) - (s : Int) = (e : Int) := by omega
          have q9 : IntKind.i64.wrap ((mid : Int) + (m : Int) - (s : Int)) = (e : Int) := by rw [IntKind.wrap_i64]; omega
          have hmid1 : a ≤ mid := by omega
          have hmid2 : mid ≤ b := by omega
          go_upto_region 39 with fail
          obtain ⟨wk, hwk⟩ : ∃ q : World, q = wc := ⟨_, rfl⟩
          rw [← hwk]
          go_cut [185] from 25 (fun v wx => v = .bool (decide (s < m) && decide (m < e)) ∧ wx = wk)
          case first =>
            as_aux_lemma =>
              clear hwk
              by_cases g1 : s < m
              · have z1 : (s : Int) < (m : Int) := by omega
                by_cases g2 : m < e
                · have z2 : (m : Int) < (e : Int) := by omega
                  go_wp2_with fail
                  go_meet
                  exact ⟨by rw [decide_eq_true g1, decide_eq_true g2]; rfl, rfl⟩
                · have z2 : ¬ (m : Int) < (e : Int) := by omega
                  go_wp2_with fail
                  go_meet
                  exact ⟨by rw [decide_eq_true g1, decide_eq_false g2]; rfl, rfl⟩
              · have z1 : ¬ (s : Int) < (m : Int) := by omega
                go_wp2_with fail
                go_meet
                exact ⟨by rw [decide_eq_false g1]; rfl, rfl⟩
          obtain ⟨rfl, rfl⟩ := hcut
          rw [hwk]
          clear hwk
          go_upto_if 185 with fail
          go_cut [] from 25 (fun wx => ∃ d1, SWK enc 11 w0 blk off d1 wx ∧ Rot a b s m e d d1)
          case first =>
            as_aux_lemma =>
              by_cases g1 : s < m ∧ m < e
              · have z1 : (decide (s < m) && decide (m < e)) = true := by rw [decide_eq_true g1.1, decide_eq_true g1.2]; rfl
                go_wp2_with fail
                try rw [ee]
                refine (rotate_s HR.out hs S.out a b s m e _ (by omega) (by omega) (by omega) (by omega) hb hsz).mono ?_
                rintro er w1 ⟨rfl, d1, hS1, hrt⟩
                go_wp2_with fail
                go_meet
                exact ⟨d1, hS1, hrt⟩
              · have z1 : (decide (s < m) && decide (m < e)) = false := by rw [← Bool.not_eq_true, Bool.and_eq_true, decide_eq_true_eq, decide_eq_true_eq]; exact g1
                go_wp2_with fail
                go_meet
                exact ⟨d, S.out, Rot.none _ _ _ _ _ _ (by omega)⟩
          case rest =>
            as_aux_lemma =>
              obtain ⟨d1, hS1, hrt⟩ := hcut
              have S1 := Lib.hid hS1
              have HRT := Lib.hid hrt
              have hz1 : d1.size = d.size := hrt.perm.1
              clear hS1 hrt S
              go_upto_region 41 with fail
              obtain ⟨wk, hwk⟩ : ∃ q : World, q = wc := ⟨_, rfl⟩
              rw [← hwk]
              go_cut [199] from 25 (fun v wx => v = .bool (decide (a < s) && decide (s < mid)) ∧ wx = wk)
              case first =>
                as_aux_lemma =>
                  clear hwk
                  by_cases g1 : a < s
                  · have z1 : (a : Int) < (s : Int) := by omega
                    by_cases g2 : s < mid
                    · have z2 : (s : Int) < (mid : Int) := by omega
                      go_wp2_with fail
                      go_meet
                      exact ⟨by rw [decide_eq_true g1, decide_eq_true g2]; rfl, rfl⟩
                    · have z2 : ¬ (s : Int) < (mid : Int) := by omega
                      go_wp2_with fail
                      go_meet
                      exact ⟨by rw [decide_eq_true g1, decide_eq_false g2]; rfl, rfl⟩
                  · have z1 : ¬ (a : Int) < (s : Int) := by omega
                    go_wp2_with fail
                    go_meet
                    exact ⟨by rw [decide_eq_false g1]; rfl, rfl⟩
              obtain ⟨rfl, rfl⟩ := hcut
              rw [hwk]
              clear hwk
              go_upto_if 199 with fail
              go_cut [] from 25 (fun wx => ∃ d2, SWK enc 11 w0 blk off d2 wx ∧ MergePost R a mid d1 d2)
              case first =>
                as_aux_lemma =>
                  by_cases g1 : a < s ∧ s < mid
                  · have z1 : (decide (a < s) && decide (s < mid)) = true := by rw [decide_eq_true g1.1, decide_eq_true g1.2]; rfl
                    go_wp2_with fail
                    rw [← hz1]
                    refine (IH.out a s mid d1 _ (by omega) (by omega) S1.out (by omega) (by omega) (by omega) (HCT.out.first HM.out HRT.out)).mono ?_
                    rintro er w2 ⟨rfl, d2, hS2, hp2⟩
                    go_wp2_with fail
                    go_meet
                    exact ⟨d2, hS2, hp2⟩
                  · have z1 : (decide (a < s) && decide (s < mid)) = false := by rw [← Bool.not_eq_true, Bool.and_eq_true, decide_eq_true_eq, decide_eq_true_eq]; exact g1
                    have hp2 : MergePost R a mid d1 d1 := .same (by
                      have h := HCT.out.first HM.out HRT.out
                      by_cases h1 : s ≤ a
                      · exact h.whole_right h1
                      · exact h.whole_left (by omega))
                    go_wp2_with fail
                    go_meet
                    exact ⟨d1, S1.out, hp2⟩
              case rest =>
                as_aux_lemma =>
                  obtain ⟨d2, hS2, hp2⟩ := hcut
                  have S2 := Lib.hid hS2
                  have HP2 := Lib.hid hp2
                  have hz2 : d2.size = d.size := hp2.perm.1.trans hz1
                  clear hS2 hp2 S1
                  by_cases g1 : mid < e
                  · have z1 : (mid : Int) < (e : Int) := by omega
                    by_cases g2 : e < b
                    · have z2 : (e : Int) < (b : Int) := by omega
                      go_wp2_with fail
                      rw [← hz2]
                      refine (IH.out mid e b d2 _ (by omega) (by omega) S2.out (by omega) (by omega) (by omega) (HCT.out.second HM.out HRT.out HP2.out.perm)).mono ?_
                      rintro er w3 ⟨rfl, d3, hS3, hp3⟩
                      go_wp2_with fail
                      go_end0
                      exact ⟨rfl, d3, hS3, HCT.out.done hR HM.out hb hmid1 hmid2 HRT.out HP2.out hp3⟩
                    · have z2 : ¬ (e : Int) < (b : Int) := by omega
                      have hp3 : MergePost R mid b d2 d2 := .same ((HCT.out.second HM.out HRT.out HP2.out.perm).whole_left (by omega))
                      have hfin := HCT.out.done hR HM.out hb hmid1 hmid2 HRT.out HP2.out hp3
                      go_wp2_with fail
                      go_end0
                      exact ⟨rfl, d2, S2.out, hfin⟩
                  · have z1 : ¬ (mid : Int) < (e : Int) := by omega
                    have hp3 : MergePost R mid b d2 d2 := .same ((HCT.out.second HM.out HRT.out HP2.out.perm).whole_right (by omega))
                    have hfin := HCT.out.done hR HM.out hb hmid1 hmid2 HRT.out HP2.out hp3
                    go_wp2_with fail
                    go_end0
                    exact ⟨rfl, d2, S2.out, hfin⟩
set_option maxRecDepth 100000 in
theorem sym_any (eg : ∀ args w, (callFunc g args).run Tryz.prog w = .ok (.enter g args) w) (hcmp : CmpLays Tryz.prog g cb enc 11 cf blk off d0.size w0) (R1 : RowK enc 11 w0 blk off d0) (hR : Before R) (hsz : d0.size < 4611686018427387904) :
    ∀ (N a m b : Nat) (d : Array α) (w : World), b - a ≤ N → d0.size = d.size → SWK enc 11 w0 blk off d w → a < m → m < b → b ≤ d.size → MergePre R (ltOf cf) a m b d →
      Calls Tryz.prog 99 #[.slice (some ⟨blk, off, none⟩) d.size cap, .int .i64 a, .int .i64 m, .int .i64 b, .func (.func g) #[] cb] w (SymPost enc R w0 blk off a b d)
  | 0, a, m, b, d, w, hN, _, _, h1, h2, _, _ => absurd hN (by omega)
  | N + 1, a, m, b, d, w, hN, hs, S, h1, h2, hb, hm => by
    by_cases e1 : m = a + 1
    · subst e1
      exact sym_left eg hcmp R1 hR hs S a b h2 hb (by omega) hm
    · by_cases e2 : b = m + 1
      · subst e2
        exact sym_right eg hcmp R1 hR hs S a m (by omega) hb (by omega) hm
      · exact sym_gen eg hcmp R1 hR hs S a m b (by omega) (by omega) hb (by omega) hm fun a' m' b' d' w' k1 k2 k3 k4 k5 k6 k7 => sym_any eg hcmp R1 hR hsz N a' m' b' d' w' (by omega) k2 k3 k4 k5 k6 k7
end
end Go.Proofs.YtbofclohnmojmaaGreatDoor
namespace Go.Proofs.YtbofclohnmojmaaGreatDoor
open Go.RowKit Go.Sort

attribute [local go_sem ↓] run_lcK
section
variable {α : Type} [Inhabited α] {enc : α → List Value} {cf : α → α → Int} {R : α → α → Prop} {w0 w : World} {blk off cap g : Nat} {cb : Array Value} {d0 d : Array α}
set_option maxHeartbeats 16000000 in
set_option maxRecDepth 100000 in
theorem ins_s (eg : ∀ args w, (callFunc g args).run Tryz.prog w = .ok (.enter g args) w) (hcmp : CmpLays Tryz.prog g cb enc 11 cf blk off d0.size w0) (R1 : RowK enc 11 w0 blk off d0) (hs : d0.size = d.size) (S : SWK enc 11 w0 blk off d w) (a b : Nat) (hab : a ≤ b) (hb : b ≤ d.size) (hsz : d.size < 4611686018427387904) :
    Calls Tryz.prog 98 #[.slice (some ⟨blk, off, none⟩) d.size cap, .int .i64 a, .int .i64 b, .func (.func g) #[] cb] w fun e w' => e = .returned (.tuple #[]) ∧ SWK enc 11 w0 blk off (Go.Sort.insertionSort (ltOf cf) d a b) w' := by
  have mixed : Tryz.prog.follows .mixedOrders = true := by kernel_rfl
  have HC := Lib.hid hcmp
  have S0 := Lib.hid S
  have HR := Lib.hid R1
  clear S R1 hcmp
  go_enter Tryz.func98, Tryz.ntmps98
  go_wp2_with fail
  go_loopw [8] (fun vi wr => ∃ (i : Nat) (dk : Array α), vi = .int .i64 i ∧ a < i ∧ i ≤ b + 1 ∧ dk.size = d.size ∧ SWK enc 11 w0 blk off dk wr ∧ insOuter (ltOf cf) a b i dk = insOuter (ltOf cf) a b (a + 1) d) (fun vi _ => b + 1 - (intOf vi).toNat)
  case atStart => exact ⟨a + 1, d, by go_num, by omega, by omega, rfl, S0.out, rfl⟩
  case round =>
    clear S0
    obtain ⟨i, dk, rfl, hai, hib, hsk, hS, hO⟩ := hrel
    have S := Lib.hid hS
    have HO := Lib.hid hO
    clear hS hO
    by_cases hlt : i < b
    · have hltz : (i : Int) < (b : Int) := by omega
      go_wp2_with fail
      go_loopw [9] (fun vj wr2 => ∃ (j : Nat) (dj : Array α), vj = .int .i64 j ∧ a ≤ j ∧ j ≤ i ∧ dj.size = d.size ∧ SWK enc 11 w0 blk off dj wr2 ∧ insInner (ltOf cf) a j dj = insInner (ltOf cf) a i dk) (fun vj _ => (intOf vj).toNat)
      case atStart => exact ⟨i, dk, rfl, by omega, Nat.le_refl _, hsk, S.out, rfl⟩
      case round =>
        clear S
        obtain ⟨j, dj, rfl, haj, hji, hsj, hS, hI⟩ := hrel
        have S := Lib.hid hS
        have HI := Lib.hid hI
        clear hS hI
        have OUT := Lib.hid (fun (hs : j ≤ a ∨ (ltOf cf) dj[j]! dj[j - 1]! = false) => show insOuter (ltOf cf) a b (i + 1) dj = insOuter (ltOf cf) a b (a + 1) d by
          rw [← HO.out, insOuter_go _ _ _ _ _ hlt, ← HI.out, insInner_stop _ _ _ _ hs])
        by_cases hja : a < j
        · obtain ⟨jp, rfl⟩ : ∃ q, j = q + 1 := ⟨j - 1, by omega⟩
          have hjad : decide ((jp : Int) + 1 > (a : Int)) = true := decide_eq_true (by omega)
          have hjaz' : (a : Int) < (jp : Int) + 1 := by omega
          have rj : IntKind.i64.wrap ((jp : Int) + 1) = (jp : Int) + 1 := by rw [IntKind.wrap_i64]; omega
          have rj3 : IntKind.i64.wrap (jp : Int) = (jp : Int) := by rw [IntKind.wrap_i64]; omega
          have rj2 : IntKind.i64.wrap ((jp : Int) + 1 - 1) = (jp : Int) := by rw [IntKind.wrap_i64]; omega
          obtain ⟨N1, hN1⟩ : ∃ q, q = jp + 1 := ⟨_, rfl⟩
          have e1 : (((jp : Int) + 1)).toNat = N1 := by omega
          have p1 : (0 : Int) ≤ ((jp : Int) + 1) := by omega
          have b1 : ((jp : Int) + 1) < (d.size : Int) := by omega
          have b2 : (jp : Int) < (d.size : Int) := by omega
          have bn2 : jp < d.size := by omega
          obtain ⟨x, hx⟩ : ∃ x, x = dj[jp + 1]! := ⟨_, rfl⟩
          obtain ⟨y, hy⟩ : ∃ x, x = dj[jp]! := ⟨_, rfl⟩
          have l1 := S.out.ld HR.out (by omega) Tryz.prog (jp + 1) (by omega)
          have l2 := S.out.ld HR.out (by omega) Tryz.prog (jp) (by omega)
          rw [← hx, ← hN1] at l1
          rw [← hy] at l2
          have l1 : ∀ n os, Sem.run Tryz.prog (lcK ⟨blk, off + N1 * 11, none⟩) (grow (wr.drewN n) os) = .ok (enc x).toArray (grow (wr.drewN n) os) := l1
          have l2 : ∀ n os, Sem.run Tryz.prog (lcK ⟨blk, off + jp * 11, none⟩) (grow (wr.drewN n) os) = .ok (enc y).toArray (grow (wr.drewN n) os) := l2
          have hc := S.out.cmp HC.out (by omega) x y
          cases hlv : ltOf cf dj[jp + 1]! dj[jp]! with
          | true =>
            have hv :  cf x y < 0 := by rw [hx, hy]; exact of_decide_eq_true hlv
            have hd : decide (cf x y < 0) = true := decide_eq_true hv
            clear hx hy hN1
            go_wp2_with fail
            go_quiet_grown (first | (go_at_fn g; refine Calls.grown_of (hc _ _)))
            have S2 := Lib.hid (show SWK enc 11 w0 blk off dj (grow (wr.drewN nq) osq) from S.out.grown nq osq)
            clear l1 l2 hc S
            generalize grow (wr.drewN nq) osq = w2 at S2 ⊢
            clear nq osq
            clear e1
            go_wp2_with fail
            have S := S2
            clear S2
            obtain ⟨N1, hN1⟩ : ∃ q, q = jp + 1 := ⟨_, rfl⟩
            have e1 : (((jp : Int) + 1)).toNat = N1 := by omega
            have p1 : (0 : Int) ≤ ((jp : Int) + 1) := by omega
            have b1 : ((jp : Int) + 1) < (d.size : Int) := by omega
            have r1 : IntKind.i64.wrap ((jp : Int) + 1) = (jp : Int) + 1 := by rw [IntKind.wrap_i64]; omega
            have b2 : (jp : Int) < (d.size : Int) := by omega
            have bn2 : jp < d.size := by omega
            obtain ⟨x, hx⟩ : ∃ x, x = dj[jp + 1]! := ⟨_, rfl⟩
            obtain ⟨y, hy⟩ : ∃ x, x = dj[jp]! := ⟨_, rfl⟩
            obtain ⟨cJ, hcJ⟩ : ∃ c, c = enc x := ⟨_, rfl⟩
            obtain ⟨cP, hcP⟩ : ∃ c, c = enc y := ⟨_, rfl⟩
            have S3 := Lib.hid (show SWK enc 11 w0 blk off (swp dj (jp + 1) (jp)) ((w2.drew.setCells blk (off + N1 * 11) cP).setCells blk (off + jp * 11) cJ) by rw [hcJ, hcP, hN1, hx, hy]; exact S.out.swapped HR.out (jp + 1) (jp) (by omega) (by omega))
            have hsJ : cJ.length = 11 := by rw [hcJ]; exact HR.out.hk _
            have hsP : cP.length = 11 := by rw [hcP]; exact HR.out.hk _
            have mixed : Tryz.prog.follows .mixedOrders = true := by kernel_rfl
            have lj := S.out.ld1 HR.out (by omega) Tryz.prog (jp + 1) (by omega)
            have lp := S.out.ld1 HR.out (by omega) Tryz.prog (jp) (by omega)
            have s1 := S.out.st1 HR.out (by omega) Tryz.prog (jp + 1) (by omega) y
            have s2 := S.out.st2 HR.out (by omega) Tryz.prog (jp + 1) (jp) (by omega) (by omega) y x
            rw [← hx, ← hcJ, ← hN1] at lj
            rw [← hy, ← hcP] at lp
            rw [← hcP, ← hN1] at s1
            rw [← hcP, ← hcJ, ← hN1] at s2
            have lj : Sem.run Tryz.prog (lcK ⟨blk, off + N1 * 11, none⟩) w2.drew = .ok cJ.toArray w2.drew := lj
            have lp : Sem.run Tryz.prog (lcK ⟨blk, off + jp * 11, none⟩) w2.drew = .ok cP.toArray w2.drew := lp
            clear S hx hy hcJ hcP hN1
            go_wp2_with fail
            go_big_region_o
            clear lj lp s1 s2 hsJ hsP
            generalize (w2.drew.setCells blk (off + N1 * 11) cP).setCells blk (off + jp * 11) cJ = w3 at S3 ⊢
            clear e1
            go_wp2_with fail
            go_roundw
            case rel => first | exact ⟨jp, swp dj (jp + 1) jp, (by first | rfl | go_num | (congr 1; omega)), by omega, by omega, by rw [size_swp]; exact hsj, S3.out, by rw [← HI.out, insInner_go (ltOf cf) a (jp + 1) dj hja hlv] <;> rfl⟩ | ((repeat apply Exists.intro); exact ⟨⟨jp, swp dj (jp + 1) jp, (by first | rfl | go_num | (congr 1; omega)), by omega, by omega, by rw [size_swp]; exact hsj, S3.out, by rw [← HI.out, insInner_go (ltOf cf) a (jp + 1) dj hja hlv] <;> rfl⟩, rfl⟩)
            case measure => (simp [intOf] <;> omega)
          | false =>
            have hv : ¬ cf x y < 0 := by rw [hx, hy]; exact of_decide_eq_false hlv
            have hd : decide (cf x y < 0) = false := decide_eq_false hv
            clear hx hy hN1
            go_wp2_with fail
            go_quiet_grown (first | (go_at_fn g; refine Calls.grown_of (hc _ _)))
            have S2 := Lib.hid (show SWK enc 11 w0 blk off dj (grow (wr.drewN nq) osq) from S.out.grown nq osq)
            clear l1 l2 hc S
            generalize grow (wr.drewN nq) osq = w2 at S2 ⊢
            clear nq osq
            clear e1
            go_wp2_with fail
            go_roundw
            case rel => first | exact ⟨i + 1, dj, (by first | rfl | go_num | (congr 1; omega)), by omega, by omega, hsj, S2.out, OUT.out (.inr hlv)⟩ | ((repeat apply Exists.intro); exact ⟨⟨i + 1, dj, (by first | rfl | go_num | (congr 1; omega)), by omega, by omega, hsj, S2.out, OUT.out (.inr hlv)⟩, rfl⟩)
            case measure => (simp [intOf] <;> omega)
        · have hjaz : decide ((j : Int) > (a : Int)) = false := decide_eq_false (by omega)
          have hjaz' : ¬ (a : Int) < (j : Int) := by omega
          go_wp2_with fail
          go_big_region_o
          have S2 := Lib.hid (show SWK enc 11 w0 blk off dj wr.drew from S.out.drew)
          clear S
          generalize wr.drew = w2 at S2 ⊢
          go_wp2_with fail
          go_roundw
          case rel => first | exact ⟨i + 1, dj, (by first | rfl | go_num | (congr 1; omega)), by omega, by omega, hsj, S2.out, OUT.out (.inl (by omega))⟩ | ((repeat apply Exists.intro); exact ⟨⟨i + 1, dj, (by first | rfl | go_num | (congr 1; omega)), by omega, by omega, hsj, S2.out, OUT.out (.inl (by omega))⟩, rfl⟩)
          case measure => (simp [intOf] <;> omega)
    · have hltz : ¬ (i : Int) < (b : Int) := by omega
      go_wp2_with fail
      go_end0
      exact ⟨rfl, by unfold Go.Sort.insertionSort; rw [← HO.out, insOuter_stop _ _ _ _ _ hlt]; exact S.out⟩
end
end Go.Proofs.YtbofclohnmojmaaGreatDoor
namespace Go.Proofs.YtbofclohnmojmaaGreatDoor
open Go.RowKit Go.Sort

attribute [local go_sem ↓] run_lcK
section
variable {α : Type} [Inhabited α] {enc : α → List Value} {cf : α → α → Int} {R : α → α → Prop} {w0 w : World} {blk off cap g : Nat} {cb : Array Value} {d0 d : Array α}

theorem perm_dvd_add {c a : Nat} (h : c ∣ a) : c ∣ a + c := Nat.dvd_add h (Nat.dvd_refl c)
/-- What a stable sort leaves. -/
def StPost (enc : α → List Value) (R : α → α → Prop) (w0 : World) (blk off : Nat) (d : Array α) (e : Ending) (w' : World) : Prop := e = .returned (.tuple #[]) ∧ ∃ d', SWK enc 11 w0 blk off d' w' ∧ PermIn 0 d.size d d' ∧ Srt R 0 d.size d'
set_option maxHeartbeats 16000000 in
set_option maxRecDepth 100000 in
theorem stable_s (eg : ∀ args w, (callFunc g args).run Tryz.prog w = .ok (.enter g args) w) (hcmp : CmpLays Tryz.prog g cb enc 11 cf blk off d0.size w0) (R1 : RowK enc 11 w0 blk off d0) (hR : Before R) (hs : d0.size = d.size) (S : SWK enc 11 w0 blk off d w) (hsz : d.size < 1099511627776) (hcr : ∀ i j, i < j → j < d.size → Crs R (ltOf cf) d[i]! d[j]!) :
    Calls Tryz.prog 85 #[.slice (some ⟨blk, off, none⟩) d.size cap, .int .i64 d.size, .func (.func g) #[] cb] w (StPost enc R w0 blk off d) := by
  have HC := Lib.hid hcmp
  have S0 := Lib.hid S
  have HR := Lib.hid R1
  have HCR := Lib.hid hcr
  clear S R1 hcmp hcr
  go_enter Tryz.func85, Tryz.ntmps85
  go_upto_block 0 with fail
  obtain ⟨n, hn⟩ : ∃ q, q = d.size := ⟨_, rfl⟩
  rw [← hn] at hs hsz HCR ⊢
  have HN := Lib.hid hn
  clear hn
  go_cut [7] from 10 (fun v7 wx => ∃ (a : Nat) (dk : Array α), v7 = .int .i64 a ∧ a ≤ n ∧ n ≤ a + 20 ∧ 20 ∣ a ∧ dk.size = n ∧ SWK enc 11 w0 blk off dk wx ∧ PermIn 0 n d dk ∧ Blocks R (ltOf cf) 20 1 a n dk)
  case first =>
    as_aux_lemma =>
      go_wp2_with fail
      go_loopw [7, 8] (fun vi vj wr => ∃ (a : Nat) (dk : Array α), vi = .int .i64 a ∧ vj = .int .i64 (a + 20 : Nat) ∧ a ≤ n ∧ 20 ∣ a ∧ dk.size = n ∧ SWK enc 11 w0 blk off dk wr ∧ PermIn 0 n d dk ∧ Blocks R (ltOf cf) 20 1 a n dk) (fun vi _ _ => n - (intOf vi).toNat)
      case atStart => exact ⟨0, d, (by first | rfl | go_num | (congr 1; omega)), (by first | rfl | go_num | (congr 1; omega)), Nat.zero_le _, Nat.dvd_zero _, HN.out.symm, S0.out, permIn_refl _ _ _, Blocks.start HCR.out⟩
      case round =>
        clear S0
        obtain ⟨a, dk, rfl, rfl, han, hdv, hsk, hS, hP, hB⟩ := hrel
        have S := Lib.hid hS
        have HP := Lib.hid hP
        have HB := Lib.hid hB
        clear hS hP hB
        by_cases hlt : a + 20 ≤ n
        · have hltz : (a : Int) + 20 ≤ (n : Int) := by omega
          have r1 : IntKind.i64.wrap ((a : Int) + 20 + 20) = (a : Int) + 20 + 20 := by rw [IntKind.wrap_i64]; omega
          go_wp2_with fail
          rw [show ((a : Int) + 20) = ((a + 20 : Nat) : Int) by omega, ← hsk]
          refine (ins_s (cap := cap) eg HC.out HR.out (by omega) S.out a (a + 20) (by omega) (by omega) (by omega)).mono ?_
          rintro er w1 ⟨rfl, hS1⟩
          have hins := HB.out.ins hR hdv (Nat.le_add_right a 20) (.inl rfl) hlt (by omega)
          have hP2 := permIn_trans _ _ _ _ _ HP.out hins.2.2
          go_wp2_with fail
          go_roundw
          case rel => first | exact ⟨a + 20, Go.Sort.insertionSort (ltOf cf) dk a (a + 20), (by first | rfl | go_num | (congr 1; omega)), (by first | rfl | go_num | (congr 1; omega)), hlt, perm_dvd_add hdv, hins.2.1.trans hsk, hS1, hP2, hins.1⟩ | ((repeat apply Exists.intro); exact ⟨⟨a + 20, Go.Sort.insertionSort (ltOf cf) dk a (a + 20), (by first | rfl | go_num | (congr 1; omega)), (by first | rfl | go_num | (congr 1; omega)), hlt, perm_dvd_add hdv, hins.2.1.trans hsk, hS1, hP2, hins.1⟩, rfl⟩)
          case measure => (simp [intOf] <;> omega)
        · have hltz : ¬ (a : Int) + 20 ≤ (n : Int) := by omega
          go_wp2_with fail
          go_meet
          exact ⟨a, dk, rfl, han, by omega, hdv, hsk, S.out, HP.out, HB.out⟩
  case rest =>
    obtain ⟨a, dk, rfl, han, hna, hdv, hsk, hS, hP, hB⟩ := hcut
    clear S0 HCR
    have hS' := Lib.hid hS
    have HP := Lib.hid hP
    have HB := Lib.hid hB
    clear hS hP hB
    go_upto_region 6 with fail
    go_wp2_with fail
    rw [← hsk]
    refine (ins_s (cap := cap) eg HC.out HR.out (by omega) hS'.out a dk.size (by omega) (by omega) (by omega)).mono ?_
    rw [hsk]
    rintro er w1 ⟨rfl, hS1⟩
    have hins := HB.out.ins hR hdv han (.inr ⟨rfl, hna⟩) (Nat.le_refl _) (by omega)
    have S1 := Lib.hid hS1
    have HB1 := Lib.hid hins.1
    have HP1 := Lib.hid (permIn_trans _ _ _ _ _ HP.out hins.2.2)
    have hs1 : (Go.Sort.insertionSort (ltOf cf) dk a n).size = n := hins.2.1.trans hsk
    obtain ⟨d1, hd1⟩ : ∃ q, q = Go.Sort.insertionSort (ltOf cf) dk a n := ⟨_, rfl⟩
    rw [← hd1] at S1 HB1 HP1 hs1
    clear hS' HP HB hins hS1 hd1 hsk hdv han hna
    go_wp2_with fail
    go_loopw [6, 7, 8, 9] (fun vb _ _ _ wr => ∃ (c b' : Nat) (dk : Array α), vb = .int .i64 c ∧ 0 < c ∧ c ≤ 20 + n + n ∧ dk.size = n ∧ SWK enc 11 w0 blk off dk wr ∧ PermIn 0 n d dk ∧ Blocks R (ltOf cf) c b' n n dk) (fun vb _ _ _ _ => n - (intOf vb).toNat)
    case atStart => exact ⟨20, 1, d1, rfl, by omega, by omega, hs1, S1.out, HP1.out, HB1.out⟩
    case round =>
      clear S1 HP1 HB1 hs1 d1
      obtain ⟨c, b', dk, rfl, hc0, hcn, hsk, hS, hP, hB⟩ := hrel
      have S := Lib.hid hS
      have HP := Lib.hid hP
      have HB := Lib.hid hB
      clear hS hP hB
      by_cases hlt : c < n
      · have hltz : (c : Int) < (n : Int) := by omega
        have r1 : IntKind.i64.wrap (2 * (c : Int)) = 2 * (c : Int) := by rw [IntKind.wrap_i64]; omega
        have r2 : IntKind.i64.wrap ((c : Int) * 2) = (c : Int) * 2 := by rw [IntKind.wrap_i64]; omega
        have HB2 := Lib.hid HB.out.next
        clear HB
        go_upto_block 4 with fail
        go_cut [7] from 28 to 62 (fun v7 wx => ∃ (a : Nat) (dk : Array α), v7 = .int .i64 a ∧ a ≤ n ∧ n < a + 2 * c ∧ (c + c) ∣ a ∧ dk.size = n ∧ SWK enc 11 w0 blk off dk wx ∧ PermIn 0 n d dk ∧ Blocks R (ltOf cf) (c + c) c a n dk)
        case first =>
          as_aux_lemma =>
            go_wp2_with fail
            go_loopw [7, 8] (fun vi vj wr => ∃ (a : Nat) (dk : Array α), vi = .int .i64 a ∧ vj = .int .i64 (a + 2 * c : Nat) ∧ a ≤ n ∧ (c + c) ∣ a ∧ dk.size = n ∧ SWK enc 11 w0 blk off dk wr ∧ PermIn 0 n d dk ∧ Blocks R (ltOf cf) (c + c) c a n dk) (fun vi _ _ => n - (intOf vi).toNat)
            case atStart => exact ⟨0, dk, (by first | rfl | go_num | (congr 1; omega)), (by first | rfl | go_num | (congr 1; omega)), Nat.zero_le _, Nat.dvd_zero _, hsk, S.out, HP.out, HB2.out⟩
            case round =>
              clear S HP HB2 hsk dk
              obtain ⟨a, dk, rfl, rfl, han, hdv, hsk, hS, hP, hB⟩ := hrel
              have S := Lib.hid hS
              have HP := Lib.hid hP
              have HB := Lib.hid hB
              clear hS hP hB
              have hdc : c ∣ a := Nat.dvd_trans ⟨2, by omega⟩ hdv
              by_cases hlt2 : a + 2 * c ≤ n
              · have hltz2 : (a : Int) + 2 * (c : Int) ≤ (n : Int) := by omega
                have r3 : IntKind.i64.wrap ((a : Int) + (c : Int)) = (a : Int) + (c : Int) := by rw [IntKind.wrap_i64]; omega
                have r4 : IntKind.i64.wrap ((a : Int) + 2 * (c : Int) + 2 * (c : Int)) = (a : Int) + 2 * (c : Int) + 2 * (c : Int) := by rw [IntKind.wrap_i64]; omega
                go_wp2_with fail
                rw [show ((a : Int) + 2 * (c : Int)) = ((a + 2 * c : Nat) : Int) by omega, show ((a : Int) + (c : Int)) = ((a + c : Nat) : Int) by omega, ← hsk]
                refine (sym_any (cap := cap) (R := R) eg HC.out HR.out hR (by omega) n a (a + c) (a + 2 * c) dk _ (by omega) (by omega) S.out (by omega) (by omega) (by omega) (HB.out.pre hdc (by omega) (by omega) hlt2)).mono ?_
                rw [hsk]
                rintro er w1 ⟨rfl, d2, hS2, hM⟩
                have hP2 := permIn_trans _ _ _ _ _ HP.out (permIn_mono _ _ _ _ _ _ (Nat.zero_le _) hlt2 (by omega) hM.perm)
                have hB2 := HB.out.step hdv (by omega) (.inl (show a + 2 * c = a + (c + c) by omega)) hlt2 (by omega) hM
                have hs2 : d2.size = n := hM.perm.1.trans hsk
                go_wp2_with fail
                go_roundw
                case rel => first | exact ⟨a + 2 * c, d2, (by first | rfl | go_num | (congr 1; omega)), (by first | rfl | go_num | (congr 1; omega)), hlt2, by rw [show a + 2 * c = a + (c + c) by omega]; exact perm_dvd_add hdv, hs2, hS2, hP2, hB2⟩ | ((repeat apply Exists.intro); exact ⟨⟨a + 2 * c, d2, (by first | rfl | go_num | (congr 1; omega)), (by first | rfl | go_num | (congr 1; omega)), hlt2, by rw [show a + 2 * c = a + (c + c) by omega]; exact perm_dvd_add hdv, hs2, hS2, hP2, hB2⟩, rfl⟩)
                case measure => (simp [intOf] <;> omega)
              · have hltz2 : ¬ (a : Int) + 2 * (c : Int) ≤ (n : Int) := by omega
                go_wp2_with fail
                go_meet
                exact ⟨a, dk, rfl, han, by omega, hdv, hsk, S.out, HP.out, HB.out⟩
        case rest =>
          as_aux_lemma =>
            clear S HP HB2 hsk dk
            obtain ⟨a, dk, rfl, han, hna, hdv, hsk, hS, hP, hB⟩ := hcut
            have S := Lib.hid hS
            have HP := Lib.hid hP
            have HB := Lib.hid hB
            clear hS hP hB
            have hdc : c ∣ a := Nat.dvd_trans ⟨2, by omega⟩ hdv
            have r3 : IntKind.i64.wrap ((a : Int) + (c : Int)) = (a : Int) + (c : Int) := by rw [IntKind.wrap_i64]; omega
            by_cases hlt2 : a + c < n
            · have hltz2 : (a : Int) + (c : Int) < (n : Int) := by omega
              go_wp2_with fail
              rw [show ((a : Int) + (c : Int)) = ((a + c : Nat) : Int) by omega, ← hsk]
              refine (sym_any (cap := cap) (R := R) eg HC.out HR.out hR (by omega) n a (a + c) dk.size dk _ (by omega) (by omega) S.out (by omega) (by omega) (by omega) (by rw [hsk]; exact HB.out.pre hdc (by omega) (by omega) (Nat.le_refl _))).mono ?_
              rw [hsk]
              rintro er w1 ⟨rfl, d2, hS2, hM⟩
              have hP2 := permIn_trans _ _ _ _ _ HP.out (permIn_mono _ _ _ _ _ _ (Nat.zero_le _) (Nat.le_refl _) (by omega) hM.perm)
              have hB2 := HB.out.step hdv han (.inr ⟨rfl, show n ≤ a + (c + c) by omega⟩) (Nat.le_refl _) (by omega) hM
              have hs2 : d2.size = n := hM.perm.1.trans hsk
              go_wp2_with fail
              go_roundw
              case rel => first | exact ⟨c + c, c, d2, (by first | rfl | go_num | (congr 1; omega)), by omega, by omega, hs2, hS2, hP2, hB2⟩ | ((repeat apply Exists.intro); exact ⟨⟨c + c, c, d2, (by first | rfl | go_num | (congr 1; omega)), by omega, by omega, hs2, hS2, hP2, hB2⟩, rfl⟩)
              case measure => (simp [intOf] <;> omega)
            · have hltz2 : ¬ (a : Int) + (c : Int) < (n : Int) := by omega
              have hB2 := HB.out.last hdv hdc (by omega) (by omega)
              go_wp2_with fail
              go_roundw
              case rel => first | exact ⟨c + c, c, dk, (by first | rfl | go_num | (congr 1; omega)), by omega, by omega, hsk, S.out, HP.out, hB2⟩ | ((repeat apply Exists.intro); exact ⟨⟨c + c, c, dk, (by first | rfl | go_num | (congr 1; omega)), by omega, by omega, hsk, S.out, HP.out, hB2⟩, rfl⟩)
              case measure => (simp [intOf] <;> omega)
      · have hltz : ¬ (c : Int) < (n : Int) := by omega
        go_wp2_with fail
        go_end0
        refine ⟨rfl, dk, S.out, ?_⟩
        rw [← HN.out]
        exact ⟨HP.out, HB.out.all (by omega)⟩
set_option maxHeartbeats 4000000 in
theorem sortStable_s (eg : ∀ args w, (callFunc g args).run Tryz.prog w = .ok (.enter g args) w) (hcmp : CmpLays Tryz.prog g cb enc 11 cf blk off d0.size w0) (R1 : RowK enc 11 w0 blk off d0) (hR : Before R) (hs : d0.size = d.size) (S : SWK enc 11 w0 blk off d w) (hsz : d.size < 1099511627776) (hcr : ∀ i j, i < j → j < d.size → Crs R (ltOf cf) d[i]! d[j]!) :
    Calls Tryz.prog 67 #[.slice (some ⟨blk, off, none⟩) d.size cap, .func (.func g) #[] cb] w (StPost enc R w0 blk off d) := by
  go_enter Tryz.func67, Tryz.ntmps67
  go_wp2_with fail
  refine (stable_s (cap := cap) (cf := cf) eg hcmp R1 hR hs S hsz hcr).mono ?_
  rintro er w1 ⟨rfl, hp⟩
  go_wp2_with fail
  go_end0
  exact ⟨rfl, hp⟩
end
end Go.Proofs.YtbofclohnmojmaaGreatDoor
