/- Plain laws of network rules: blocks of addresses are intervals. -/
namespace Nw
/-- How many addresses share the first bits. -/
def sz (bits : Int) : Int := (2 ^ (32 - bits.toNat) : Nat)
theorem sz_pos (b : Int) : 0 < sz b := by unfold sz; have := Nat.pow_pos (n := 32 - b.toNat) (show 0 < 2 by omega); omega
theorem sz_le (b : Int) : sz b ≤ 4294967296 := by
  unfold sz
  have : 2 ^ (32 - b.toNat) ≤ 2 ^ 32 := Nat.pow_le_pow_right (by omega) (by omega)
  have e : (2 : Nat) ^ 32 = 4294967296 := by decide
  omega
theorem sz_dvd {a b : Int} (h : a ≤ b) : sz b ∣ sz a := by
  unfold sz
  rw [Int.natCast_dvd_natCast]
  exact Nat.pow_dvd_pow 2 (by omega)
theorem sz_dvd_top (b : Int) : sz b ∣ 4294967296 := by
  unfold sz
  rw [show (4294967296 : Int) = ((2 ^ 32 : Nat) : Int) by decide, Int.natCast_dvd_natCast]
  exact Nat.pow_dvd_pow 2 (by omega)
theorem sz_lt {a b : Int} (hb : 0 ≤ b) (ha : a ≤ 32) (h : sz b ≤ sz a) : a ≤ b := by
  rcases Int.lt_or_le b a with h1 | h1
  · exfalso
    unfold sz at h
    have : 2 ^ (32 - a.toNat) < 2 ^ (32 - b.toNat) := Nat.pow_lt_pow_right (by omega) (by omega)
    omega
  · exact h1
structure Rule where
  al : Bool
  ad : Int
  bi : Int
  lo : Int
  hi : Int
def Rule.rng (r : Rule) : Bool := decide (0 ≤ r.ad) && decide (r.ad ≤ 4294967295) && decide (0 ≤ r.bi) && decide (r.bi ≤ 32) && decide (1 ≤ r.lo) && decide (r.lo ≤ 65535) && decide (r.lo ≤ r.hi) && decide (r.hi ≤ 65535)
theorem Rule.rng_iff (r : Rule) : r.rng = true ↔ 0 ≤ r.ad ∧ r.ad ≤ 4294967295 ∧ 0 ≤ r.bi ∧ r.bi ≤ 32 ∧ 1 ≤ r.lo ∧ r.lo ≤ 65535 ∧ r.lo ≤ r.hi ∧ r.hi ≤ 65535 := by simp [Rule.rng, and_assoc]
def Rule.ck (r : Rule) : Int := if r.rng = true then (if r.ad % sz r.bi = 0 then 0 else 1) else 2
def Rule.ok (r : Rule) : Bool := r.rng && decide (r.ad % sz r.bi = 0)
theorem Rule.ck_ok (r : Rule) : (r.ck = 0) ↔ r.ok = true := by
  unfold Rule.ck Rule.ok
  split
  · rename_i h
    rw [h]
    split <;> simp_all
  · rename_i h
    simp [h]
theorem Rule.ok_iff (r : Rule) : r.ok = true ↔ r.rng = true ∧ r.ad % sz r.bi = 0 := by simp [Rule.ok]
def Rule.mt (r : Rule) (a p : Int) : Bool := r.ok && decide (r.ad ≤ a) && decide (a < r.ad + sz r.bi) && decide (r.lo ≤ p) && decide (p ≤ r.hi)
theorem Rule.mt_iff (r : Rule) (a p : Int) : r.mt a p = true ↔ r.ok = true ∧ r.ad ≤ a ∧ a < r.ad + sz r.bi ∧ r.lo ≤ p ∧ p ≤ r.hi := by simp [Rule.mt, and_assoc]
/-- A block ends within the addresses. -/
theorem Rule.end_le {r : Rule} (h : r.ok = true) : r.ad + sz r.bi ≤ 4294967296 := by
  obtain ⟨h1, h2⟩ := r.ok_iff.1 h
  have h3 := r.rng_iff.1 h1
  obtain ⟨k, hk⟩ := sz_dvd_top r.bi
  have hp := sz_pos r.bi
  obtain ⟨m, hm⟩ := Int.dvd_of_emod_eq_zero h2
  rw [hm, hk]
  have hlt : m < k := by
    rcases Int.lt_or_le m k with h4 | h4
    · exact h4
    · have := Int.mul_le_mul_of_nonneg_left h4 (Int.le_of_lt hp)
      omega
  have := Int.mul_le_mul_of_nonneg_left (show m + 1 ≤ k by omega) (Int.le_of_lt hp)
  rw [Int.mul_add] at this
  omega
theorem blk_iff {A S a : Int} (hS : 0 < S) (hA : A % S = 0) : a / S = A / S ↔ A ≤ a ∧ a < A + S := by
  obtain ⟨m, rfl⟩ := Int.dvd_of_emod_eq_zero hA
  rw [Int.mul_ediv_cancel_left _ (by omega)]
  rw [Int.ediv_eq_iff_of_pos hS]
  rw [Int.mul_comm m S]
  
/-- The reference's test. -/
theorem Rule.mt_ref (r : Rule) (a p : Int) : r.mt a p = (r.ok && (decide (0 ≤ a) && decide (a ≤ 4294967295)) && (decide (1 ≤ p) && decide (p ≤ 65535)) && decide (a / sz r.bi = r.ad / sz r.bi) && decide (r.lo ≤ p) && decide (p ≤ r.hi)) := by
  cases hok : r.ok
  · simp [Rule.mt, hok]
  · have h1 := r.ok_iff.1 hok
    have h2 := r.rng_iff.1 h1.1
    have h3 := blk_iff (a := a) (sz_pos r.bi) h1.2
    have h4 := Rule.end_le hok
    rw [Bool.eq_iff_iff, Rule.mt_iff]
    simp only [Bool.and_eq_true, decide_eq_true_iff, h3, hok, true_and]
    omega
/-- Covers. -/
def Rule.cv (a b : Rule) : Bool := a.ok && b.ok && a.mt b.ad b.lo && a.mt (b.ad + (sz b.bi - 1)) b.hi
theorem Rule.cv_iff (a b : Rule) : a.cv b = true ↔ a.ok = true ∧ b.ok = true ∧ a.ad ≤ b.ad ∧ b.ad + sz b.bi ≤ a.ad + sz a.bi ∧ a.lo ≤ b.lo ∧ b.hi ≤ a.hi := by
  unfold Rule.cv
  simp only [Bool.and_eq_true, Rule.mt_iff]
  constructor
  · rintro ⟨⟨⟨h1, h2⟩, -, h3, h4, h5, h6⟩, -, h7, h8, h9, h10⟩
    have := sz_pos b.bi
    exact ⟨h1, h2, h3, by omega, h5, h10⟩
  · rintro ⟨h1, h2, h3, h4, h5, h6⟩
    have hb := (b.rng_iff.1 (b.ok_iff.1 h2).1)
    have := sz_pos b.bi
    exact ⟨⟨⟨h1, h2⟩, h1, h3, by omega, h5, by omega⟩, h1, by omega, by omega, by omega, h6⟩
theorem Rule.cv_ref (a b : Rule) : a.cv b = (a.ok && b.ok && (decide (a.bi ≤ b.bi) && decide (b.ad / sz a.bi = a.ad / sz a.bi) && decide (a.lo ≤ b.lo) && decide (b.hi ≤ a.hi))) := by
  rw [Bool.eq_iff_iff, Rule.cv_iff]
  simp only [Bool.and_eq_true, decide_eq_true_iff]
  constructor
  · rintro ⟨h1, h2, h3, h4, h5, h6⟩
    have ra := a.rng_iff.1 (a.ok_iff.1 h1).1
    have rb := b.rng_iff.1 (b.ok_iff.1 h2).1
    have pb := sz_pos b.bi
    refine ⟨⟨h1, h2⟩, ⟨⟨?_, ?_⟩, h5⟩, h6⟩
    · exact sz_lt (by omega) (by omega) (by omega)
    · exact (blk_iff (sz_pos a.bi) (a.ok_iff.1 h1).2).2 ⟨h3, by omega⟩
  · rintro ⟨⟨h1, h2⟩, ⟨⟨h3, h4⟩, h5⟩, h6⟩
    have h7 := (blk_iff (sz_pos a.bi) (a.ok_iff.1 h1).2).1 h4
    refine ⟨h1, h2, h7.1, ?_, h5, h6⟩
    obtain ⟨x, hx⟩ := sz_dvd h3
    obtain ⟨m, hm⟩ := Int.dvd_of_emod_eq_zero (a.ok_iff.1 h1).2
    obtain ⟨k, hk⟩ := Int.dvd_of_emod_eq_zero (b.ok_iff.1 h2).2
    have pb := sz_pos b.bi
    have h8 := h7.2
    rw [hm, hx] at h8
    rw [hm, hx, hk]
    rw [hk] at h8
    have e1 : sz b.bi * x * m + sz b.bi * x = sz b.bi * (x * m + x) := by rw [Int.mul_add, Int.mul_assoc]
    rw [e1] at h8 ⊢
    have h9 : k < x * m + x := Int.lt_of_mul_lt_mul_left h8 (Int.le_of_lt pb)
    have := Int.mul_le_mul_of_nonneg_left (show k + 1 ≤ x * m + x by omega) (Int.le_of_lt pb)
    rw [Int.mul_add, Int.mul_one] at this
    exact this
theorem Rule.cv_self {a : Rule} (h : a.ok = true) : a.cv a = true := by
  rw [Rule.cv_iff]; exact ⟨h, h, by omega, by omega, by omega, by omega⟩
theorem Rule.cv_mt {a b : Rule} (h : a.cv b = true) {x p : Int} (hm : b.mt x p = true) : a.mt x p = true := by
  rw [Rule.cv_iff] at h
  rw [Rule.mt_iff] at *
  exact ⟨h.1, by omega, by omega, by omega, by omega⟩
/-- A rule that is not covered matches one of its ends that the other one does not. -/
theorem Rule.cv_ends {a b : Rule} (ha : a.ok = true) (hb : b.ok = true) (h : a.cv b = false) :
    (a.mt b.ad b.lo && a.mt (b.ad + sz b.bi - 1) b.lo && a.mt b.ad b.hi && a.mt (b.ad + sz b.bi - 1) b.hi) = false ∧ b.mt b.ad b.lo = true ∧ b.mt (b.ad + sz b.bi - 1) b.hi = true := by
  have rb := b.rng_iff.1 (b.ok_iff.1 hb).1
  have pb := sz_pos b.bi
  refine ⟨?_, ?_, ?_⟩
  · cases e : (a.mt b.ad b.lo && a.mt (b.ad + sz b.bi - 1) b.lo && a.mt b.ad b.hi && a.mt (b.ad + sz b.bi - 1) b.hi)
    · rfl
    · exfalso
      simp only [Bool.and_eq_true, Rule.mt_iff] at e
      have : a.cv b = true := (Rule.cv_iff a b).2 ⟨ha, hb, by omega, by omega, by omega, by omega⟩
      rw [h] at this; cases this
  · rw [Rule.mt_iff]; exact ⟨hb, by omega, by omega, by omega, by omega⟩
  · rw [Rule.mt_iff]; exact ⟨hb, by omega, by omega, by omega, by omega⟩
/-! ### lists of rules -/
def decI (l : List Rule) (a p : Int) : Bool × Int := match l.findIdx? (fun r => r.mt a p) with
  | some i => ((l[i]?.map (·.al)).getD false, i)
  | none => (false, -1)
/-- Is the rule covered by an earlier one? -/
def isDead (l : List Rule) (i : Nat) : Bool := match l[i]? with
  | some r => (l.take i).any (fun x => x.cv r)
  | none => false
/-- The rules among the first n that an earlier one covers, and the others. -/
def deadL (l : List Rule) : Nat → List Nat
  | 0 => []
  | n + 1 => if isDead l n then deadL l n ++ [n] else deadL l n
def restL (l : List Rule) : Nat → List Rule
  | 0 => []
  | n + 1 => if isDead l n then restL l n else restL l n ++ (l[n]?).toList
theorem deadL_lt (l : List Rule) (n : Nat) : ∀ x ∈ deadL l n, x < n := by
  induction n with
  | zero => intro x h; cases h
  | succ n ih =>
    intro x h
    unfold deadL at h
    split at h
    · rcases List.mem_append.1 h with h | h
      · have := ih x h; omega
      · have := List.mem_singleton.1 h; omega
    · have := ih x h; omega
theorem deadL_pre (l : List Rule) (n m : Nat) : ∃ t, deadL l (n + m) = deadL l n ++ t ∧ ∀ x ∈ t, n ≤ x := by
  induction m with
  | zero => exact ⟨[], by simp, by simp⟩
  | succ m ih =>
    obtain ⟨t, e, h⟩ := ih
    show ∃ t, (if isDead l (n + m) then deadL l (n + m) ++ [n + m] else deadL l (n + m)) = _ ∧ _
    split
    · exact ⟨t ++ [n + m], by rw [e, List.append_assoc], fun x hx => by
        rcases List.mem_append.1 hx with hx | hx
        · exact h x hx
        · have := List.mem_singleton.1 hx; omega⟩
    · exact ⟨t, e, h⟩
/-- The next dead rule of the list is this one just if this one is dead. -/
theorem deadL_at (l : List Rule) {n i : Nat} (h : i < n) : (deadL l n)[(deadL l i).length]? = some i ↔ isDead l i = true := by
  obtain ⟨t, e, ht⟩ := deadL_pre l (i + 1) (n - (i + 1))
  rw [show i + 1 + (n - (i + 1)) = n by omega] at e
  rw [e]
  cases hd : isDead l i
  · have e2 : deadL l (i + 1) = deadL l i := by show (if isDead l i then _ else _) = _; rw [hd]; rfl
    rw [e2, List.getElem?_append_right (Nat.le_refl _), Nat.sub_self]
    constructor
    · intro h0
      have := ht i (List.mem_of_getElem? h0)
      omega
    · intro h0; cases h0
  · have e2 : deadL l (i + 1) = deadL l i ++ [i] := by show (if isDead l i then _ else _) = _; rw [hd]; rfl
    rw [e2]
    simp
theorem deadL_len (l : List Rule) (i : Nat) : (deadL l i).length ≤ i := by
  induction i with
  | zero => exact Nat.le_refl _
  | succ i ih =>
    unfold deadL
    split
    · rw [List.length_append]; simp; omega
    · omega
theorem deadL_mono (l : List Rule) {i n : Nat} (h : i ≤ n) : (deadL l i).length ≤ (deadL l n).length := by
  obtain ⟨t, e, -⟩ := deadL_pre l i (n - i)
  rw [show i + (n - i) = n by omega] at e
  rw [e]; simp
theorem restL_len (l : List Rule) (i : Nat) : (restL l i).length ≤ i := by
  induction i with
  | zero => exact Nat.le_refl _
  | succ i ih =>
    unfold restL
    split
    · omega
    · rw [List.length_append]
      cases l[i]? <;> simp <;> omega
theorem rest_find (l : List Rule) (a p : Int) (n : Nat) : (restL l n).find? (fun r => r.mt a p) = (l.take n).find? (fun r => r.mt a p) := by
  induction n with
  | zero => simp [restL]
  | succ n ih =>
    rw [List.take_add_one, List.find?_append]
    unfold restL
    split
    · rename_i hd
      rw [ih]
      unfold isDead at hd
      cases hn : l[n]? with
      | none => simp
      | some r =>
        rw [hn] at hd
        simp only [List.any_eq_true] at hd
        obtain ⟨x, hx, hc⟩ := hd
        simp only [Option.toList]
        cases hm : r.mt a p
        · simp [hm]
        · have hxm := Rule.cv_mt hc hm
          have : ((l.take n).find? (fun r => r.mt a p)).isSome = true := by rw [List.find?_isSome]; exact ⟨x, hx, hxm⟩
          cases hf : (l.take n).find? (fun r => r.mt a p) with
          | none => rw [hf] at this; cases this
          | some y => rfl
    · rw [List.find?_append, ih]
theorem dec_find (l : List Rule) (a p : Int) : (decI l a p).1 = ((l.find? (fun r => r.mt a p)).map (·.al)).getD false := by
  unfold decI
  cases h : l.findIdx? (fun r => r.mt a p) with
  | none =>
    have : l.find? (fun r => r.mt a p) = none := by
      rw [List.findIdx?_eq_none_iff] at h
      rw [List.find?_eq_none]
      intro x hx; rw [h x hx]; simp
    rw [this]; rfl
  | some i =>
    have h1 := List.findIdx?_eq_some_iff_getElem.1 h
    obtain ⟨hi, hm, hno⟩ := h1
    have : l.find? (fun r => r.mt a p) = some l[i] := by
      rw [List.find?_eq_some_iff_getElem]
      exact ⟨hm, i, hi, rfl, fun j hj => by have := hno j hj; simpa using this⟩
    rw [this]
    show (Option.map (fun x => x.al) l[i]?).getD false = _
    rw [List.getElem?_eq_getElem hi]
/-- Without its dead rules a list decides the same. -/
theorem dec_rest (l : List Rule) (a p : Int) : (decI (restL l l.length) a p).1 = (decI l a p).1 := by
  rw [dec_find, dec_find, rest_find, List.take_length]
theorem dec_some {l : List Rule} {a p : Int} {i : Nat} {r : Rule} (hr : l[i]? = some r) (hm : r.mt a p = true) (hno : ∀ j x, j < i → l[j]? = some x → x.mt a p = false) : decI l a p = (r.al, (i : Int)) := by
  have hi : i < l.length := (List.getElem?_eq_some_iff.1 hr).1
  have hri : l[i] = r := (List.getElem?_eq_some_iff.1 hr).2
  have : l.findIdx? (fun r => r.mt a p) = some i := by
    rw [List.findIdx?_eq_some_iff_getElem]
    exact ⟨hi, by rw [hri]; exact hm, fun j hj => by have := hno j _ hj (List.getElem?_eq_getElem (by omega)); simp [this]⟩
  unfold decI
  rw [this]
  show ((Option.map (fun x => x.al) l[i]?).getD false, (i : Int)) = _
  rw [hr]; rfl
theorem dec_none {l : List Rule} {a p : Int} (hno : ∀ (j : Nat) (x : Rule), l[j]? = some x → x.mt a p = false) : decI l a p = (false, -1) := by
  have : l.findIdx? (fun r => r.mt a p) = none := by
    rw [List.findIdx?_eq_none_iff]
    intro x hx
    obtain ⟨j, hj⟩ := List.getElem?_of_mem hx
    exact hno j x hj
  unfold decI
  rw [this]
end Nw
