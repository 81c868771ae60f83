/- Decimal numerals, in plain words: what is one, and what it is worth; how the numerals of an integer look. -/
import Derived.Lib.AtoiAll
import Derived.Lib.ItoaNum
namespace Go.Proofs.YtmpaogmfceldjaaDoor
open Go.Lib

def isDg (c : UInt8) : Bool := decide (48 ≤ c.toNat) && decide (c.toNat ≤ 57)
def decB : List UInt8 → Bool
  | [] => false
  | c :: r => if c.toNat = 45 then (match r with | [] => false | d :: _ => !(decide (d.toNat = 48)) && r.all isDg) else (!(decide (c.toNat = 48)) || r.isEmpty) && (c :: r).all isDg
def dgv (c : UInt8) : Nat := c.toNat - 48
def magG : List UInt8 → Nat → Nat
  | [], acc => acc
  | c :: r, acc => magG r (acc * 10 + dgv c)
def magF (acc : Nat) (l : List UInt8) : Nat := magG l acc
def valI : List UInt8 → Int
  | [] => 0
  | c :: r => if c.toNat = 45 then -(magF 0 r : Int) else (magF 0 (c :: r) : Int)
theorem decB_cons (c : UInt8) (r : List UInt8) : decB (c :: r) = if c.toNat = 45 then (match r with | [] => false | d :: _ => !(decide (d.toNat = 48)) && r.all isDg) else (!(decide (c.toNat = 48)) || r.isEmpty) && (c :: r).all isDg := rfl
theorem valI_cons (c : UInt8) (r : List UInt8) : valI (c :: r) = if c.toNat = 45 then -(magF 0 r : Int) else (magF 0 (c :: r) : Int) := rfl
def bndB (n : Int) : Bool := decide (-1000000000000 ≤ n) && decide (n ≤ 1000000000000)
/-- What Parse answers. -/
def parI (l : List UInt8) : Int × Int :=
  if decB l = true then (if bndB (valI l) = true then (valI l, 0) else (0, 2)) else (0, 1)

theorem magF_cons (acc : Nat) (c : UInt8) (r : List UInt8) : magF acc (c :: r) = magF (acc * 10 + (c.toNat - 48)) r := by show magG _ _ = magG _ _; rw [magG, dgv]
theorem magF_nil (acc : Nat) : magF acc [] = acc := by show magG _ _ = _; rw [magG]
theorem magF_ge (l : List UInt8) : ∀ acc : Nat, acc ≤ magF acc l := by
  induction l with
  | nil => intro acc; rw [magF_nil]; exact Nat.le_refl acc
  | cons c r ih =>
    intro acc
    rw [magF_cons]
    have h : acc ≤ acc * 10 + (c.toNat - 48) := by omega
    exact Nat.le_trans h (ih _)
theorem magF_append (a b : List UInt8) : ∀ acc : Nat, magF acc (a ++ b) = magF (magF acc a) b := by
  induction a with
  | nil => intro acc; rw [List.nil_append, magF_nil]
  | cons c r ih => intro acc; rw [List.cons_append, magF_cons, magF_cons, ih]

theorem parse_digits (l : List UInt8) : ∀ acc : Nat, l.all isDg = true → acc < 18446744073709551616 →
    (parseUint10 acc l = .ok (magF acc l) ∧ magF acc l < 18446744073709551616) ∨ (parseUint10 acc l = .range ∧ 18446744073709551616 ≤ magF acc l) := by
  induction l with
  | nil => intro acc _ ha; exact .inl ⟨by rw [parseUint10, magF_nil], by rw [magF_nil]; exact ha⟩
  | cons c r ih =>
    intro acc h ha
    rw [List.all_cons, Bool.and_eq_true] at h
    obtain ⟨hc, hr⟩ := h
    have hc' : 48 ≤ c.toNat ∧ c.toNat ≤ 57 := by simpa [isDg] using hc
    rw [parseUint10, magF_cons, if_pos hc']
    have hge := magF_ge r (acc * 10 + (c.toNat - 48))
    by_cases h1 : 1844674407370955162 ≤ acc
    · rw [if_pos h1]; exact .inr ⟨rfl, by omega⟩
    · rw [if_neg h1]
      by_cases h2 : 18446744073709551616 ≤ acc * 10 + (c.toNat - 48)
      · rw [if_pos h2]; exact .inr ⟨rfl, by omega⟩
      · rw [if_neg h2]; exact ih _ hr (by omega)

/-- strconv.Atoi at a decimal numeral. -/
theorem atoi_dec (l : List UInt8) (h : decB l = true) :
    atoiAll l = .ok (valI l) ∧ -9223372036854775808 ≤ valI l ∧ valI l ≤ 9223372036854775807 ∨
    atoiAll l = .range ∧ (valI l < -1000000000000 ∨ 1000000000000 < valI l) := by
  match l, h with
  | c :: r, h =>
    rw [decB_cons] at h
    rw [valI_cons]
    by_cases hc : c.toNat = 45
    · rw [if_pos hc] at h ⊢
      match r, h with
      | d :: q, h =>
        simp only [Bool.and_eq_true] at h
        have hall := h.2
        have hp := parse_digits (d :: q) 0 hall (by omega)
        have he : parseMag (d :: q) = parseUint10 0 (d :: q) := by unfold parseMag; rw [if_neg (by simp)]
        simp only [atoiAll, hc, if_true, or_true, he]
        rcases hp with ⟨e, hlt⟩ | ⟨e, hge⟩
        · rw [e]
          simp only [not_true, false_and, if_false, true_and]
          by_cases hb : 9223372036854775808 < magF 0 (d :: q)
          · rw [if_pos hb]; exact .inr ⟨rfl, by omega⟩
          · rw [if_neg hb]; exact .inl ⟨rfl, by omega, by omega⟩
        · rw [e]; exact .inr ⟨rfl, by omega⟩
    · rw [if_neg hc] at h ⊢
      simp only [Bool.and_eq_true] at h
      have hall := h.2
      have hcd : 48 ≤ c.toNat ∧ c.toNat ≤ 57 := by
        rw [List.all_cons, Bool.and_eq_true] at hall
        simpa [isDg] using hall.1
      have hp := parse_digits (c :: r) 0 hall (by omega)
      have he : parseMag (c :: r) = parseUint10 0 (c :: r) := by unfold parseMag; rw [if_neg (by simp)]
      simp only [atoiAll, hc, if_false, or_false, show ¬ c.toNat = 43 by omega, he]
      rcases hp with ⟨e, hlt⟩ | ⟨e, hge⟩
      · rw [e]
        simp only [not_false_eq_true, true_and, false_and, if_false]
        by_cases hb : 9223372036854775808 ≤ magF 0 (c :: r)
        · rw [if_pos hb]; exact .inr ⟨rfl, by omega⟩
        · rw [if_neg hb]; exact .inl ⟨rfl, by omega, by omega⟩
      · rw [e]; exact .inr ⟨rfl, by omega⟩

/-! ### the numeral of an integer is one, and is worth it -/
theorem toNat_ofNat {u : Nat} (h : u < 256) : (UInt8.ofNat u).toNat = u := by simp [Nat.mod_eq_of_lt h]
theorem dec_digits_all (u : Nat) : (decDigits u).all isDg = true := by
  induction u using Nat.strongRecOn with
  | _ u ih =>
    rw [decDigits]
    split
    · rename_i h
      simp only [List.all_cons, List.all_nil, Bool.and_true, isDg, toNat_ofNat (show 48 + u < 256 by omega)]
      simp; omega
    · rename_i h
      rw [List.all_append, ih (u / 10) (by omega)]
      simp only [List.all_cons, List.all_nil, Bool.and_true, isDg, toNat_ofNat (show 48 + u % 10 < 256 by omega), Bool.true_and]
      simp; omega
theorem dec_digits_mag (u : Nat) : magF 0 (decDigits u) = u := by
  induction u using Nat.strongRecOn with
  | _ u ih =>
    rw [decDigits]
    split
    · rename_i h
      simp only [magF_cons, magF_nil, toNat_ofNat (show 48 + u < 256 by omega)]
      omega
    · rename_i h
      rw [magF_append, ih (u / 10) (by omega)]
      simp only [magF_cons, magF_nil, toNat_ofNat (show 48 + u % 10 < 256 by omega)]
      omega
theorem dec_digits_cons (u : Nat) : ∃ c r, decDigits u = c :: r ∧ 48 ≤ c.toNat ∧ c.toNat ≤ 57 ∧ (c.toNat = 48 → u = 0 ∧ r = []) := by
  induction u using Nat.strongRecOn with
  | _ u ih =>
    rw [decDigits]
    split
    · rename_i h
      refine ⟨_, _, rfl, ?_⟩
      rw [toNat_ofNat (show 48 + u < 256 by omega)]
      exact ⟨by omega, by omega, fun h => ⟨by omega, rfl⟩⟩
    · rename_i h
      obtain ⟨c, r, e, h1, h2, h3⟩ := ih (u / 10) (by omega)
      rw [e]
      exact ⟨c, r ++ _, rfl, h1, h2, fun h => by have := (h3 h).1; omega⟩
theorem itoa_dec (n : Int) : decB (itoa n) = true ∧ valI (itoa n) = n := by
  unfold itoa
  split
  · rename_i h
    obtain ⟨c, r, e, h1, h2, h3⟩ := dec_digits_cons n.natAbs
    have ha := dec_digits_all n.natAbs
    have hm := dec_digits_mag n.natAbs
    rw [e] at ha hm ⊢
    refine ⟨?_, ?_⟩
    · simp only [decB, show (45 : UInt8).toNat = 45 from rfl, if_true, ha, Bool.and_true]
      have : ¬ c.toNat = 48 := fun h' => by have := (h3 h').1; omega
      simp [this]
    · simp only [valI, show (45 : UInt8).toNat = 45 from rfl, if_true, hm]; omega
  · rename_i h
    obtain ⟨c, r, e, h1, h2, h3⟩ := dec_digits_cons n.toNat
    have ha := dec_digits_all n.toNat
    have hm := dec_digits_mag n.toNat
    rw [e] at ha hm ⊢
    refine ⟨?_, ?_⟩
    · simp only [decB, show ¬ c.toNat = 45 by omega, if_false, ha, Bool.and_true]
      by_cases h' : c.toNat = 48
      · simp [h', (h3 h').2]
      · simp [h']
    · simp only [valI, show ¬ c.toNat = 45 by omega, if_false, hm]; omega
/-- Digits without a zero ahead are the numeral of what they are worth. -/
theorem digits_of_mag : ∀ (k : Nat) (l : List UInt8), l.length = k → l ≠ [] → l.all isDg = true → ((∃ c r, l = c :: r ∧ (c.toNat = 48 → r = []))) → decDigits (magF 0 l) = l := by
  intro k
  induction k using Nat.strongRecOn with
  | _ k ih =>
    intro l hk hne hall hz
    obtain ⟨l', c, rfl⟩ : ∃ l' c, l = l' ++ [c] := ⟨l.dropLast, l.getLast hne, (List.dropLast_concat_getLast hne).symm⟩
    rw [List.all_append, Bool.and_eq_true] at hall
    have hc : 48 ≤ c.toNat ∧ c.toNat ≤ 57 := by simpa [isDg] using hall.2
    rw [magF_append]
    simp only [magF_cons, magF_nil]
    have hcc : UInt8.ofNat (48 + (c.toNat - 48)) = c := by
      rw [show 48 + (c.toNat - 48) = c.toNat by omega]; simp
    by_cases h0 : l' = []
    · subst h0
      simp only [magF_nil, List.nil_append]
      rw [decDigits, dif_pos (by omega), show 0 * 10 + (c.toNat - 48) = c.toNat - 48 by omega, hcc]
    · have hz' : ∃ d r, l' = d :: r ∧ (d.toNat = 48 → r = []) := by
        obtain ⟨d, r, e, hd⟩ := hz
        match l', h0 with
        | x :: y, _ =>
          simp only [List.cons_append, List.cons.injEq] at e
          obtain ⟨rfl, e⟩ := e
          exact ⟨x, y, rfl, fun h => by have := hd h; rw [← e] at this; simp at this⟩
      have hi := ih l'.length (by simp at hk; omega) l' rfl h0 hall.1 hz'
      have hpos : magF 0 l' ≠ 0 := by
        intro h
        rw [h] at hi
        obtain ⟨d, r, e, hd⟩ := hz
        rw [decDigits, dif_pos (by omega)] at hi
        rw [← hi] at e
        simp only [List.cons_append, List.nil_append, List.cons.injEq] at e
        have := hd (by rw [← e.1]; rfl)
        rw [← e.2] at this
        simp at this
      rw [decDigits, dif_neg (by omega)]
      rw [show (magF 0 l' * 10 + (c.toNat - 48)) / 10 = magF 0 l' by omega, show (magF 0 l' * 10 + (c.toNat - 48)) % 10 = c.toNat - 48 by omega, hi, hcc]
theorem dec_itoa (l : List UInt8) (h : decB l = true) : itoa (valI l) = l := by
  match l, h with
  | c :: r, h =>
    rw [decB_cons] at h
    rw [valI_cons]
    by_cases hc : c.toNat = 45
    · rw [if_pos hc] at h ⊢
      match r, h with
      | d :: q, h =>
        simp only [Bool.and_eq_true] at h
        obtain ⟨hd, hall⟩ := h
        have hd' : d.toNat ≠ 48 := by simpa using hd
        have e := digits_of_mag _ (d :: q) rfl (by simp) hall ⟨d, q, rfl, fun h => absurd h hd'⟩
        have hpos : magF 0 (d :: q) ≠ 0 := by
          intro h0
          rw [h0, decDigits, dif_pos (by omega)] at e
          simp only [List.cons.injEq] at e
          exact hd' (by rw [← e.1]; rfl)
        unfold itoa
        rw [if_pos (by omega), show (-(magF 0 (d :: q) : Int)).natAbs = magF 0 (d :: q) by omega, e]
        congr 1
        exact UInt8.toNat_inj.1 hc.symm
    · rw [if_neg hc] at h ⊢
      simp only [Bool.and_eq_true] at h
      obtain ⟨hz, hall⟩ := h
      have e := digits_of_mag _ (c :: r) rfl (by simp) hall ⟨c, r, rfl, fun h => by simpa [h] using hz⟩
      unfold itoa
      rw [if_neg (by omega), Int.toNat_natCast, e]
end Go.Proofs.YtmpaogmfceldjaaDoor
