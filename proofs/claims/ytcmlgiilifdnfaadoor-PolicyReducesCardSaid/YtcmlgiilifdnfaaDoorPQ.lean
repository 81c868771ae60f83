/- Plain: statements, decisions, reduced lists. -/
import Derived.Test.YtcmlgiilifdnfaaDoorPP
namespace Go.Proofs.YtcmlgiilifdnfaaDoor

structure St where
  al : Bool
  ac : List ByteArray
  re : List ByteArray
def okS (l : List ByteArray) : Bool := l.all fun t => patW t.data.toList
def lenS (l : List ByteArray) : Bool := decide (1 ≤ l.length ∧ l.length ≤ 8)
def St.ck (s : St) : Int := if (lenS s.ac && lenS s.re) = true then (if (okS s.ac && okS s.re) = true then 0 else 4) else 3
def anyM (l : List ByteArray) (x : ByteArray) : Bool := l.any fun t => mW t.data.toList x.data.toList
def St.ok (s : St) : Bool := s.ck == 0
def St.mt (s : St) (a r : ByteArray) : Bool := s.ok && (anyM s.ac a && anyM s.re r)
def firI (l : List St) (x : Bool) (a r : ByteArray) : Int := match l.findIdx? (fun s => s.al == x && s.mt a r) with
  | some i => (i : Int)
  | none => -1
def decS (l : List St) (a r : ByteArray) : Bool × Int := if 0 ≤ firI l false a r then (false, firI l false a r) else (decide (0 ≤ firI l true a r), firI l true a r)
def wit (l by_ : List ByteArray) : Bool := l.all fun q => by_.any fun p => cW p.data.toList q.data.toList
def St.cv (a b : St) : Bool := a.ok && b.ok && (a.al == b.al) && wit b.ac a.ac && wit b.re a.re
theorem St.ok_iff (s : St) : s.ok = true ↔ (1 ≤ s.ac.length ∧ s.ac.length ≤ 8) ∧ (1 ≤ s.re.length ∧ s.re.length ≤ 8) ∧ okS s.ac = true ∧ okS s.re = true := by
  unfold St.ok St.ck lenS
  constructor
  · intro h
    split at h
    · rename_i h1
      simp only [Bool.and_eq_true, decide_eq_true_iff] at h1
      split at h
      · rename_i h2
        simp only [Bool.and_eq_true] at h2
        exact ⟨h1.1, h1.2, h2.1, h2.2⟩
      · simp at h
    · simp at h
  · rintro ⟨h1, h2, h3, h4⟩
    rw [if_pos (by simp only [Bool.and_eq_true, decide_eq_true_iff]; exact ⟨h1, h2⟩), if_pos (by rw [h3, h4]; rfl)]
    rfl
theorem wit_mono {l by_ : List ByteArray} {x : ByteArray} (h : wit l by_ = true) (hm : anyM l x = true) : anyM by_ x = true := by
  unfold anyM at hm ⊢
  rw [List.any_eq_true] at hm ⊢
  obtain ⟨q, hq, hqm⟩ := hm
  unfold wit at h
  rw [List.all_eq_true] at h
  have := h q hq
  rw [List.any_eq_true] at this
  obtain ⟨p, hp, hpc⟩ := this
  exact ⟨p, hp, cW_mW hpc hqm⟩
theorem wit_self {l : List ByteArray} (h : okS l = true) : wit l l = true := by
  unfold okS at h
  unfold wit
  rw [List.all_eq_true] at h ⊢
  intro q hq
  rw [List.any_eq_true]
  exact ⟨q, hq, cW_self (h q hq)⟩
theorem wit_trans {a b c : List ByteArray} (h1 : wit a b = true) (h2 : wit b c = true) : wit a c = true := by
  unfold wit at *
  rw [List.all_eq_true] at *
  intro q hq
  have := h1 q hq
  rw [List.any_eq_true] at this ⊢
  obtain ⟨p, hp, hpc⟩ := this
  have := h2 p hp
  rw [List.any_eq_true] at this
  obtain ⟨r, hr, hrc⟩ := this
  exact ⟨r, hr, cW_trans hrc hpc⟩
theorem St.cv_iff (a b : St) : a.cv b = true ↔ a.ok = true ∧ b.ok = true ∧ a.al = b.al ∧ wit b.ac a.ac = true ∧ wit b.re a.re = true := by
  unfold St.cv
  simp only [Bool.and_eq_true, beq_iff_eq, and_assoc]
theorem St.cv_self {a : St} (h : a.ok = true) : a.cv a = true := by
  obtain ⟨_, _, h3, h4⟩ := a.ok_iff.1 h
  exact (a.cv_iff a).2 ⟨h, h, rfl, wit_self h3, wit_self h4⟩
theorem St.cv_trans {a b c : St} (h1 : a.cv b = true) (h2 : b.cv c = true) : a.cv c = true := by
  rw [St.cv_iff] at *
  exact ⟨h1.1, h2.2.1, h1.2.2.1.trans h2.2.2.1, wit_trans h2.2.2.2.1 h1.2.2.2.1, wit_trans h2.2.2.2.2 h1.2.2.2.2⟩
theorem St.cv_mt {a b : St} (h : a.cv b = true) {x r : ByteArray} (hm : b.mt x r = true) : a.mt x r = true := by
  rw [St.cv_iff] at h
  unfold St.mt at hm ⊢
  simp only [Bool.and_eq_true] at hm ⊢
  exact ⟨h.1, wit_mono h.2.2.2.1 hm.2.1, wit_mono h.2.2.2.2 hm.2.2⟩

/-! ### decisions -/
theorem firI_neg (l : List St) (x : Bool) (a r : ByteArray) : -1 ≤ firI l x a r ∧ firI l x a r < l.length := by
  unfold firI
  cases h : l.findIdx? _ with
  | none => simp only; omega
  | some i =>
    have := (List.findIdx?_eq_some_iff_getElem.1 h).1
    simp only; omega
theorem firI_iff (l : List St) (x : Bool) (a r : ByteArray) : 0 ≤ firI l x a r ↔ ∃ s ∈ l, s.al = x ∧ s.mt a r = true := by
  unfold firI
  cases h : l.findIdx? (fun s => s.al == x && s.mt a r) with
  | none =>
    rw [List.findIdx?_eq_none_iff] at h
    constructor
    · intro hh; simp only at hh; omega
    · rintro ⟨s, hs, h1, h2⟩
      have := h s hs
      rw [h1, h2] at this
      simp at this
  | some i =>
    obtain ⟨hi, hp, -⟩ := List.findIdx?_eq_some_iff_getElem.1 h
    constructor
    · intro _
      simp only [Bool.and_eq_true, beq_iff_eq] at hp
      exact ⟨l[i], List.getElem_mem hi, hp.1, hp.2⟩
    · intro _; simp only; omega
theorem decS_al (l : List St) (a r : ByteArray) : (decS l a r).1 = true ↔ (¬ ∃ s ∈ l, s.al = false ∧ s.mt a r = true) ∧ ∃ s ∈ l, s.al = true ∧ s.mt a r = true := by
  unfold decS
  rw [← firI_iff l false, ← firI_iff l true]
  split
  · rename_i h
    simp only
    constructor
    · intro hh; cases hh
    · intro hh; exact absurd h hh.1
  · rename_i h
    simp only [decide_eq_true_iff]
    exact ⟨fun hh => ⟨h, hh⟩, fun hh => hh.2⟩
theorem firI_one (s : St) (x : Bool) (a r : ByteArray) : firI [s] x a r = if (s.al == x && s.mt a r) = true then 0 else -1 := by
  unfold firI
  rw [List.findIdx?_cons]
  cases h : (s.al == x && s.mt a r) <;> rfl
theorem decS_one (s : St) (a r : ByteArray) : decS [s] a r = if s.mt a r = true then (s.al, 0) else (false, -1) := by
  unfold decS
  rw [firI_one, firI_one]
  cases hm : s.mt a r <;> cases hs : s.al <;> simp
/-! ### reduced lists -/
/-- Is statement i superfluous beside statement j? -/
def kil (l : List St) (i j : Nat) : Bool := match l[i]?, l[j]? with
  | some s, some t => decide (j ≠ i) && (t.cv s && (decide (j < i) || !s.cv t))
  | _, _ => false
def dropB (l : List St) (i m : Nat) : Bool := (List.range m).any fun j => kil l i j
def keepB (l : List St) (i : Nat) : Bool := (match l[i]? with | some s => s.ok | none => false) && !dropB l i l.length
def redS (l : List St) : Nat → List St
  | 0 => []
  | n + 1 => if keepB l n then redS l n ++ (l[n]?).toList else redS l n
theorem dropB_zero (l : List St) (i : Nat) : dropB l i 0 = false := rfl
theorem dropB_step (l : List St) (i m : Nat) : dropB l i (m + 1) = (dropB l i m || kil l i m) := by
  unfold dropB; rw [List.range_succ, List.any_append]; simp
theorem dropB_iff (l : List St) (i m : Nat) : dropB l i m = true ↔ ∃ j, j < m ∧ kil l i j = true := by
  unfold dropB; rw [List.any_eq_true]
  constructor
  · rintro ⟨j, hj, hk⟩; exact ⟨j, List.mem_range.1 hj, hk⟩
  · rintro ⟨j, hj, hk⟩; exact ⟨j, List.mem_range.2 hj, hk⟩
theorem kil_iff {l : List St} {i j : Nat} {s t : St} (hi : l[i]? = some s) (hj : l[j]? = some t) : kil l i j = true ↔ j ≠ i ∧ t.cv s = true ∧ (j < i ∨ s.cv t = false) := by
  unfold kil
  rw [hi, hj]
  simp only [Bool.and_eq_true, decide_eq_true_iff, Bool.or_eq_true, Bool.not_eq_true']
theorem keep_iff {l : List St} {i : Nat} {s : St} (hi : l[i]? = some s) : keepB l i = true ↔ s.ok = true ∧ ∀ j t, l[j]? = some t → j ≠ i → ¬ (t.cv s = true ∧ (j < i ∨ s.cv t = false)) := by
  unfold keepB
  rw [hi]
  rw [Bool.and_eq_true, Bool.not_eq_true', Bool.eq_false_iff, ne_eq, dropB_iff]
  constructor
  · rintro ⟨h1, h2⟩
    refine ⟨h1, fun j t hj hne hh => h2 ⟨j, (List.getElem?_eq_some_iff.1 hj).1, (kil_iff hi hj).2 ⟨hne, hh⟩⟩⟩
  · rintro ⟨h1, h2⟩
    refine ⟨h1, ?_⟩
    rintro ⟨j, hj, hk⟩
    have hjt := List.getElem?_eq_getElem hj
    have := (kil_iff hi hjt).1 hk
    exact h2 j _ hjt this.1 this.2
/-- How many make statement i superfluous. -/
def cnt (l : List St) (i : Nat) : Nat := ((List.range l.length).filter fun j => kil l i j).length
theorem cnt_lt {l : List St} {i j : Nat} (hk : kil l i j = true) : cnt l j < cnt l i := by
  have hij : ∃ s t, l[i]? = some s ∧ l[j]? = some t := by
    unfold kil at hk
    cases h1 : l[i]? with
    | none => rw [h1] at hk; cases hk
    | some s => cases h2 : l[j]? with
      | none => rw [h1, h2] at hk; cases hk
      | some t => exact ⟨s, t, rfl, rfl⟩
  obtain ⟨s, t, hs, ht⟩ := hij
  obtain ⟨hne, hts, hor⟩ := (kil_iff hs ht).1 hk
  have hsub : ∀ m, kil l j m = true → kil l i m = true := by
    intro m hm
    have hmu : ∃ u, l[m]? = some u := by
      unfold kil at hm
      cases h2 : l[m]? with
      | none => rw [ht, h2] at hm; cases hm
      | some u => exact ⟨u, rfl⟩
    obtain ⟨u, hu⟩ := hmu
    obtain ⟨h1, h2, h3⟩ := (kil_iff ht hu).1 hm
    have hus := St.cv_trans h2 hts
    rw [kil_iff hs hu]
    refine ⟨?_, hus, ?_⟩
    · rintro rfl
      rw [hs] at hu; injection hu with hu; subst hu
      rcases hor with h | h
      · rcases h3 with h' | h'
        · omega
        · rw [hts] at h'; cases h'
      · rw [h2] at h; cases h
    · cases hsu : s.cv u
      · exact .inr rfl
      · left
        have htu := St.cv_trans hts hsu
        have hst := St.cv_trans hsu h2
        have a : m < j := by rcases h3 with h | h; exact h; rw [htu] at h; cases h
        have b : j < i := by rcases hor with h | h; exact h; rw [hst] at h; cases h
        omega
  have hnot : kil l j j = false := by
    rw [Bool.eq_false_iff]; intro h
    exact ((kil_iff ht ht).1 h).1 rfl
  have hjl : j < l.length := (List.getElem?_eq_some_iff.1 ht).1
  unfold cnt
  have key : ∀ (r : List Nat), ((r.filter fun m => kil l j m).length ≤ (r.filter fun m => kil l i m).length) ∧ (j ∈ r → (r.filter fun m => kil l j m).length < (r.filter fun m => kil l i m).length) := by
    intro r
    induction r with
    | nil => simp
    | cons m r ih =>
      simp only [List.filter_cons]
      constructor
      · cases h1 : kil l j m
        · cases h2 : kil l i m <;> simp <;> omega
        · rw [hsub m h1]; simp; exact ih.1
      · intro hm
        rcases List.mem_cons.1 hm with rfl | hm
        · rw [hnot, hk]; simp; omega
        · have := ih.2 hm
          cases h1 : kil l j m
          · cases h2 : kil l i m <;> simp <;> omega
          · rw [hsub m h1]; simp; omega
  exact (key _).2 (List.mem_range.2 hjl)
/-- Each valid statement is covered by one that is kept. -/
theorem kept_cover {l : List St} : ∀ (n i : Nat) (s : St), cnt l i ≤ n → l[i]? = some s → s.ok = true → ∃ k t, l[k]? = some t ∧ keepB l k = true ∧ t.cv s = true := by
  intro n
  induction n with
  | zero =>
    intro i s hc hi hok
    refine ⟨i, s, hi, (keep_iff hi).2 ⟨hok, fun j t hj hne hh => ?_⟩, St.cv_self hok⟩
    have := cnt_lt ((kil_iff hi hj).2 ⟨hne, hh⟩)
    omega
  | succ n ih =>
    intro i s hc hi hok
    by_cases hd : ∃ j, j < l.length ∧ kil l i j = true
    · obtain ⟨j, hj, hk⟩ := hd
      have hjt := List.getElem?_eq_getElem hj
      obtain ⟨_, hcv, _⟩ := (kil_iff hi hjt).1 hk
      have hlt := cnt_lt hk
      obtain ⟨k, t, h1, h2, h3⟩ := ih j _ (by omega) hjt ((St.cv_iff _ _).1 hcv).1
      exact ⟨k, t, h1, h2, St.cv_trans h3 hcv⟩
    · refine ⟨i, s, hi, (keep_iff hi).2 ⟨hok, fun j t hj hne hh => hd ⟨j, (List.getElem?_eq_some_iff.1 hj).1, (kil_iff hi hj).2 ⟨hne, hh⟩⟩⟩, St.cv_self hok⟩
theorem red_mem {l : List St} : ∀ (n : Nat) (s : St), s ∈ redS l n ↔ ∃ k, k < n ∧ l[k]? = some s ∧ keepB l k = true := by
  intro n
  induction n with
  | zero => intro s; simp [redS]
  | succ n ih =>
    intro s
    unfold redS
    split
    · rename_i hk
      rw [List.mem_append, ih, Option.mem_toList]
      constructor
      · rintro (⟨k, h1, h2, h3⟩ | h)
        · exact ⟨k, by omega, h2, h3⟩
        · exact ⟨n, by omega, h, hk⟩
      · rintro ⟨k, h1, h2, h3⟩
        by_cases e : k = n
        · subst e; exact .inr h2
        · exact .inl ⟨k, by omega, h2, h3⟩
    · rename_i hk
      rw [ih]
      constructor
      · rintro ⟨k, h1, h2, h3⟩; exact ⟨k, by omega, h2, h3⟩
      · rintro ⟨k, h1, h2, h3⟩
        by_cases e : k = n
        · subst e; exact absurd h3 hk
        · exact ⟨k, by omega, h2, h3⟩
def reduce (l : List St) : List St := redS l l.length
/-- Reduce does not change what is permitted. -/
theorem red_ex (l : List St) (x : Bool) (a r : ByteArray) : (∃ s ∈ reduce l, s.al = x ∧ s.mt a r = true) ↔ ∃ s ∈ l, s.al = x ∧ s.mt a r = true := by
  constructor
  · rintro ⟨s, hs, h⟩
    obtain ⟨k, _, hk, _⟩ := (red_mem _ s).1 hs
    exact ⟨s, List.mem_of_getElem? hk, h⟩
  · rintro ⟨s, hs, h1, h2⟩
    obtain ⟨i, hi⟩ := List.getElem?_of_mem hs
    have hok : s.ok = true := by unfold St.mt at h2; simp only [Bool.and_eq_true] at h2; exact h2.1
    obtain ⟨k, t, h3, h4, h5⟩ := kept_cover _ i s (Nat.le_refl _) hi hok
    exact ⟨t, (red_mem _ t).2 ⟨k, (List.getElem?_eq_some_iff.1 h3).1, h3, h4⟩, by rw [((St.cv_iff _ _).1 h5).2.2.1]; exact h1, St.cv_mt h5 h2⟩
theorem red_al (l : List St) (a r : ByteArray) : (decS (reduce l) a r).1 = (decS l a r).1 := by
  rw [Bool.eq_iff_iff, decS_al, decS_al, red_ex, red_ex]
/-- No statement of the list covers another one; all are valid. -/
def NC (m : List St) : Prop := (∀ s ∈ m, s.ok = true) ∧ m.Pairwise fun x y => x.cv y = false ∧ y.cv x = false
theorem red_nc (l : List St) : ∀ n, n ≤ l.length → NC (redS l n) := by
  intro n
  induction n with
  | zero => intro _; exact ⟨by simp [redS], List.Pairwise.nil⟩
  | succ n ih =>
    intro hn
    obtain ⟨h1, h2⟩ := ih (by omega)
    unfold redS
    split
    · rename_i hk
      have hs := List.getElem?_eq_getElem (show n < l.length by omega)
      obtain ⟨hok, hno⟩ := (keep_iff hs).1 hk
      rw [hs]
      refine ⟨fun s hm => ?_, ?_⟩
      · rcases List.mem_append.1 hm with h | h
        · exact h1 s h
        · simp at h; rw [h]; exact hok
      · rw [List.pairwise_append]
        refine ⟨h2, by simp, fun x hx y hy => ?_⟩
        simp at hy; subst hy
        obtain ⟨k, hkn, hkx, hkk⟩ := (red_mem n x).1 hx
        obtain ⟨_, hno2⟩ := (keep_iff hkx).1 hkk
        have a : x.cv l[n] = false := by
          rw [Bool.eq_false_iff]; intro h
          exact hno k x hkx (by omega) ⟨h, .inl hkn⟩
        refine ⟨a, ?_⟩
        rw [Bool.eq_false_iff]; intro h
        exact hno2 n _ hs (by omega) ⟨h, .inr a⟩
    · exact ⟨h1, h2⟩
theorem nc_keep {m : List St} (h : NC m) {i : Nat} {s : St} (hi : m[i]? = some s) : keepB m i = true := by
  rw [keep_iff hi]
  refine ⟨h.1 s (List.mem_of_getElem? hi), fun j t hj hne hh => ?_⟩
  have hil := (List.getElem?_eq_some_iff.1 hi)
  have hjl := (List.getElem?_eq_some_iff.1 hj)
  obtain ⟨hi1, hi2⟩ := hil
  obtain ⟨hj1, hj2⟩ := hjl
  have hp := List.pairwise_iff_getElem.1 h.2
  rcases Nat.lt_or_ge j i with hlt | hge
  · have := (hp j i hj1 hi1 hlt).1
    rw [hi2, hj2] at this
    rw [hh.1] at this; cases this
  · have := (hp i j hi1 hj1 (by omega)).2
    rw [hi2, hj2] at this
    rw [hh.1] at this; cases this
theorem nc_red {m : List St} (h : NC m) : ∀ n, n ≤ m.length → redS m n = m.take n := by
  intro n
  induction n with
  | zero => intro _; simp [redS]
  | succ n ih =>
    intro hn
    have hs := List.getElem?_eq_getElem (show n < m.length by omega)
    unfold redS
    rw [nc_keep h hs, ih (by omega), hs, List.take_add_one, hs]
    rfl
/-- A reduced list is its own reduced list. -/
theorem red_red (l : List St) : reduce (reduce l) = reduce l := by
  unfold reduce
  rw [nc_red (red_nc l l.length (Nat.le_refl _)) _ (Nat.le_refl _), List.take_length]
end Go.Proofs.YtcmlgiilifdnfaaDoor
