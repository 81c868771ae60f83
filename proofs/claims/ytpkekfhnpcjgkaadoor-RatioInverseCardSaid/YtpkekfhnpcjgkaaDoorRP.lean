/- Plain laws of fractions: lowest terms are unique, cross products order them. -/
namespace Rt
def gc (a b : Int) : Int := (Int.gcd a b : Int)
theorem gc_nonneg (a b : Int) : 0 ≤ gc a b := Int.natCast_nonneg _
theorem gc_zero (a : Int) (h : 0 ≤ a) : gc a 0 = a := by unfold gc; rw [Int.gcd_zero_right]; omega
theorem gc_step (a b : Int) (ha : 0 ≤ a) (hb : 0 ≤ b) : gc b (a % b) = gc a b := by
  obtain ⟨m, rfl⟩ := Int.eq_ofNat_of_zero_le ha
  obtain ⟨n, rfl⟩ := Int.eq_ofNat_of_zero_le hb
  unfold gc
  congr 1
  show Nat.gcd (n : Int).natAbs ((m : Int) % n).natAbs = Nat.gcd (m : Int).natAbs (n : Int).natAbs
  rw [show ((m : Int) % n).natAbs = m % n by rw [← Int.natCast_emod]; rfl]
  show Nat.gcd n (m % n) = Nat.gcd m n
  rw [Nat.gcd_comm n, ← Nat.gcd_rec, Nat.gcd_comm]
theorem gc_pos (a b : Int) (hb : b ≠ 0) : 0 < gc a b := by
  unfold gc
  have : 0 < Int.gcd a b := Int.gcd_pos_of_ne_zero_right a hb
  omega
/-- The fraction in lowest terms. -/
def rdP (n d : Int) : Int × Int := (n / gc n d, d / gc n d)
def rd (n d : Int) : Int × Int := if d < 0 then rdP (-n) (-d) else rdP n d
structure Red (n d p q : Int) : Prop where
  pos : 0 < q
  low : Int.gcd p q = 1
  eq : p * d = n * q
theorem gcd_div {n d : Int} (hd : d ≠ 0) : Int.gcd (n / gc n d) (d / gc n d) = 1 := by
  have h : 0 < Int.gcd n d := Int.gcd_pos_of_ne_zero_right n hd
  exact Int.gcd_ediv_gcd_ediv_gcd h
theorem div_mul (n d : Int) : n / gc n d * gc n d = n ∧ d / gc n d * gc n d = d :=
  ⟨Int.ediv_mul_cancel (Int.gcd_dvd_left ..), Int.ediv_mul_cancel (Int.gcd_dvd_right ..)⟩
theorem rdP_red {n d : Int} (hd : 0 < d) : Red n d (rdP n d).1 (rdP n d).2 := by
  have hg := gc_pos n d (by omega)
  obtain ⟨h1, h2⟩ := div_mul n d
  have h3 := gcd_div (n := n) (d := d) (by omega)
  unfold rdP
  generalize n / gc n d = p at *
  generalize d / gc n d = q at *
  generalize gc n d = g at *
  refine ⟨?_, h3, ?_⟩
  · rcases Int.lt_or_le 0 q with h | h
    · exact h
    · have := Int.mul_nonpos_of_nonpos_of_nonneg h (Int.le_of_lt hg)
      omega
  · show p * d = n * q
    rw [← h1, ← h2, Int.mul_assoc, Int.mul_comm g q]
theorem Red.neg {n d p q : Int} (h : Red (-n) (-d) p q) : Red n d p q :=
  ⟨h.pos, h.low, by have := h.eq; rw [Int.mul_neg, Int.neg_mul] at this; omega⟩
theorem rd_red {n d : Int} (hd : d ≠ 0) : Red n d (rd n d).1 (rd n d).2 := by
  unfold rd
  split
  · exact (rdP_red (by omega)).neg
  · exact rdP_red (by omega)
theorem dvd_of_gcd {q p r : Int} (h : q ∣ p * r) (hg : Int.gcd p q = 1) : q ∣ r := by
  rw [← Int.natAbs_dvd_natAbs, Int.natAbs_mul] at h
  rw [← Int.natAbs_dvd_natAbs]
  exact Nat.Coprime.dvd_of_dvd_mul_left (show Nat.gcd q.natAbs p.natAbs = 1 by rw [Nat.gcd_comm]; exact hg) h
theorem red_unique {n d p q p' q' : Int} (hd : d ≠ 0) (h : Red n d p q) (h' : Red n d p' q') : p = p' ∧ q = q' := by
  have e : p * q' = p' * q := by
    have h1 : p * q' * d = p' * q * d := by
      rw [Int.mul_right_comm, h.eq, Int.mul_right_comm p', h'.eq, Int.mul_right_comm]
    exact Int.eq_of_mul_eq_mul_right hd h1
  have d1 : q ∣ q' := by
    have : q ∣ p * q' := ⟨p', by rw [e, Int.mul_comm]⟩
    exact dvd_of_gcd this h.low
  have d2 : q' ∣ q := by
    have : q' ∣ p' * q := ⟨p, by rw [← e, Int.mul_comm]⟩
    exact dvd_of_gcd this h'.low
  have hq : q = q' := Int.dvd_antisymm (Int.le_of_lt h.pos) (Int.le_of_lt h'.pos) d1 d2
  refine ⟨?_, hq⟩
  rw [hq] at e
  exact Int.eq_of_mul_eq_mul_right (by have := h'.pos; omega) e
theorem rd_of_red {n d p q : Int} (hd : d ≠ 0) (h : Red n d p q) : rd n d = (p, q) := by
  obtain ⟨e1, e2⟩ := red_unique hd (rd_red hd) h
  exact Prod.ext e1 e2
/-- The limits, and the valid fractions. -/
def lim (p q : Int) : Bool := decide (1 ≤ q) && decide (q ≤ 1000000) && decide (-1000000000 ≤ p) && decide (p ≤ 1000000000)
def vR (p q : Int) : Bool := lim p q && decide (Int.gcd p q = 1)
theorem lim_iff (p q : Int) : lim p q = true ↔ 1 ≤ q ∧ q ≤ 1000000 ∧ -1000000000 ≤ p ∧ p ≤ 1000000000 := by simp [lim, and_assoc]
theorem vR_iff (p q : Int) : vR p q = true ↔ (1 ≤ q ∧ q ≤ 1000000 ∧ -1000000000 ≤ p ∧ p ≤ 1000000000) ∧ Int.gcd p q = 1 := by unfold vR; rw [Bool.and_eq_true, lim_iff, decide_eq_true_iff]
theorem vR_self {p q : Int} (h : vR p q = true) : Red p q p q := ⟨by have := (vR_iff p q).1 h; omega, ((vR_iff p q).1 h).2, rfl⟩
theorem rd_self {p q : Int} (h : 1 ≤ q) : (rd p q = (p, q)) ↔ Int.gcd p q = 1 := by
  constructor
  · intro e
    have := (rd_red (n := p) (d := q) (by omega)).low
    rw [e] at this
    exact this
  · intro e
    exact rd_of_red (by omega) ⟨by omega, e, rfl⟩
/-- What a fraction makes of a numerator and a denominator. -/
def ofI (n d : Int) : (Int × Int) × Int := if d = 0 then ((0, 0), 9) else if lim (rd n d).1 (rd n d).2 = true then (rd n d, 0) else ((0, 0), 8)
theorem ofI_ok {n d : Int} {r : Int × Int} (h : ofI n d = (r, 0)) : d ≠ 0 ∧ vR r.1 r.2 = true ∧ Red n d r.1 r.2 := by
  unfold ofI at h
  split at h
  · cases h
  · rename_i hd
    split at h
    · rename_i hl
      injection h with h _
      subst h
      have hr := rd_red (n := n) hd
      exact ⟨hd, by unfold vR; rw [hl, hr.low]; rfl, hr⟩
    · cases h
theorem ofI_of {n d p q : Int} (hd : d ≠ 0) (h : Red n d p q) (hv : vR p q = true) : ofI n d = ((p, q), 0) := by
  unfold ofI
  rw [if_neg hd, rd_of_red hd h, if_pos ((lim_iff _ _).2 ((vR_iff _ _).1 hv).1)]
theorem ofI_vR (n d : Int) (hd : d ≠ 0) : (if vR (rd n d).1 (rd n d).2 = true then (rd n d, (0 : Int)) else ((0, 0), 8)) = ofI n d := by
  unfold ofI
  rw [if_neg hd]
  have : vR (rd n d).1 (rd n d).2 = lim (rd n d).1 (rd n d).2 := by unfold vR; rw [(rd_red (n := n) hd).low]; simp
  rw [this]
/-- The sign of an integer. -/
def sg (z : Int) : Int := if z < 0 then -1 else if z = 0 then 0 else 1
theorem sg_mul {k z : Int} (hk : 0 < k) : sg (k * z) = sg z := by
  unfold sg
  rcases Int.lt_trichotomy z 0 with h | h | h
  · rw [if_pos (Int.mul_neg_of_pos_of_neg hk h), if_pos h]
  · subst h; simp
  · have := Int.mul_pos hk h
    rw [if_neg (by omega), if_neg (by omega), if_neg (by omega), if_neg (by omega)]
theorem sg_neg (z : Int) : sg (-z) = -sg z := by unfold sg; (repeat' split) <;> omega
theorem sg_zero (z : Int) : sg z = 0 ↔ z = 0 := by unfold sg; (repeat' split) <;> omega
theorem sg_le (z : Int) : sg z ≤ 0 ↔ z ≤ 0 := by unfold sg; (repeat' split) <;> omega
/-- Comparison. -/
def cmR (a1 a2 b1 b2 : Int) : Int := if vR a1 a2 && vR b1 b2 then sg (a1 * b2 - b1 * a2) else 0
theorem cross_eq {a1 a2 b1 b2 : Int} (ha : vR a1 a2 = true) (hb : vR b1 b2 = true) (h : a1 * b2 = b1 * a2) : a1 = b1 ∧ a2 = b2 := by
  have h1 := (vR_iff _ _).1 ha
  have h2 := (vR_iff _ _).1 hb
  exact red_unique (n := a1) (d := a2) (by omega) (vR_self ha) ⟨by omega, h2.2, by rw [← h]⟩
theorem cm_neg (a1 a2 b1 b2 : Int) : cmR b1 b2 a1 a2 = -cmR a1 a2 b1 b2 := by
  unfold cmR
  rw [Bool.and_comm]
  split
  · rw [← sg_neg]; congr 1; omega
  · rfl
theorem cm_zero {a1 a2 b1 b2 : Int} (ha : vR a1 a2 = true) (hb : vR b1 b2 = true) : cmR a1 a2 b1 b2 = 0 ↔ a1 = b1 ∧ a2 = b2 := by
  unfold cmR
  rw [ha, hb, if_pos (by rfl), sg_zero]
  constructor
  · intro h; exact cross_eq ha hb (by omega)
  · rintro ⟨rfl, rfl⟩; omega
theorem cm_trans {a1 a2 b1 b2 c1 c2 : Int} (ha : vR a1 a2 = true) (hb : vR b1 b2 = true) (hc : vR c1 c2 = true) (h1 : cmR a1 a2 b1 b2 ≤ 0) (h2 : cmR b1 b2 c1 c2 ≤ 0) : cmR a1 a2 c1 c2 ≤ 0 := by
  unfold cmR at *
  rw [ha, hb, if_pos (by rfl), sg_le] at h1
  rw [hb, hc, if_pos (by rfl), sg_le] at h2
  rw [ha, hc, if_pos (by rfl), sg_le]
  have p1 := ((vR_iff _ _).1 ha).1.1
  have p2 := ((vR_iff _ _).1 hb).1.1
  have p3 := ((vR_iff _ _).1 hc).1.1
  have m1 := Int.mul_nonpos_of_nonpos_of_nonneg h1 (show 0 ≤ c2 by omega)
  have m2 := Int.mul_nonpos_of_nonpos_of_nonneg h2 (show 0 ≤ a2 by omega)
  have e : (a1 * b2 - b1 * a2) * c2 + (b1 * c2 - c1 * b2) * a2 = b2 * (a1 * c2 - c1 * a2) := by
    simp only [Int.sub_mul, Int.mul_sub]
    have t1 : a1 * b2 * c2 = b2 * (a1 * c2) := by rw [Int.mul_comm a1 b2, Int.mul_assoc]
    have t2 : b1 * a2 * c2 = b1 * c2 * a2 := by rw [Int.mul_right_comm]
    have t3 : c1 * b2 * a2 = b2 * (c1 * a2) := by rw [Int.mul_comm c1 b2, Int.mul_assoc]
    omega
  rcases Int.lt_or_le 0 (a1 * c2 - c1 * a2) with h | h
  · have := Int.mul_pos (show 0 < b2 by omega) h
    omega
  · exact h
theorem cm_red {n d m e x1 x2 y1 y2 : Int} (hd : 0 < d) (he : 0 < e) (hx : Red n d x1 x2) (hy : Red m e y1 y2) : sg (x1 * y2 - y1 * x2) = sg (n * e - m * d) := by
  have hxy := Int.mul_pos hx.pos hy.pos
  have hde := Int.mul_pos hd he
  have h1 := hx.eq
  have h2 := hy.eq
  rw [← sg_mul hde, ← sg_mul (z := n * e - m * d) hxy]
  congr 1
  grind
/-- What the operations compute. -/
def valI2 (a1 a2 b1 b2 : Int) (n d : Int) : (Int × Int) × Int := if vR a1 a2 && vR b1 b2 then ofI n d else ((0, 0), 2)
def addR (a1 a2 b1 b2 : Int) := valI2 a1 a2 b1 b2 (a1 * b2 + b1 * a2) (a2 * b2)
def subR (a1 a2 b1 b2 : Int) := valI2 a1 a2 b1 b2 (a1 * b2 - b1 * a2) (a2 * b2)
def mulR (a1 a2 b1 b2 : Int) := valI2 a1 a2 b1 b2 (a1 * b1) (a2 * b2)
def divR (a1 a2 b1 b2 : Int) := valI2 a1 a2 b1 b2 (a1 * b2) (a2 * b1)
theorem val_ok {a1 a2 b1 b2 n d : Int} {r : Int × Int} (h : valI2 a1 a2 b1 b2 n d = (r, 0)) : vR a1 a2 = true ∧ vR b1 b2 = true ∧ d ≠ 0 ∧ vR r.1 r.2 = true ∧ Red n d r.1 r.2 := by
  unfold valI2 at h
  split at h
  · rename_i hv
    rw [Bool.and_eq_true] at hv
    exact ⟨hv.1, hv.2, ofI_ok h⟩
  · cases h
theorem vR_pos {p q : Int} (h : vR p q = true) : 0 < q := by have := ((vR_iff _ _).1 h).1.1; omega
theorem cm_of {a1 a2 b1 b2 : Int} (ha : vR a1 a2 = true) (hb : vR b1 b2 = true) : cmR a1 a2 b1 b2 = sg (a1 * b2 - b1 * a2) := by unfold cmR; rw [ha, hb]; rfl
/-- The sign of a difference. -/
theorem cm_sub {a1 a2 b1 b2 : Int} {r : Int × Int} (h : subR a1 a2 b1 b2 = (r, 0)) : cmR r.1 r.2 0 1 = cmR a1 a2 b1 b2 := by
  obtain ⟨ha, hb, hd, hv, hr⟩ := val_ok h
  rw [cm_of hv (by decide), cm_of ha hb, cm_red (Int.mul_pos (vR_pos ha) (vR_pos hb)) (show (0 : Int) < 1 by omega) hr (⟨by omega, by decide, rfl⟩ : Red 0 1 0 1)]
  congr 1
  grind
/-- Addition keeps the order. -/
theorem cm_add {a1 a2 b1 b2 c1 c2 : Int} {x y : Int × Int} (hx : addR a1 a2 c1 c2 = (x, 0)) (hy : addR b1 b2 c1 c2 = (y, 0)) : cmR x.1 x.2 y.1 y.2 = cmR a1 a2 b1 b2 := by
  obtain ⟨ha, hc, _, hv, hr⟩ := val_ok hx
  obtain ⟨hb, _, _, hv', hr'⟩ := val_ok hy
  rw [cm_of hv hv', cm_of ha hb, cm_red (Int.mul_pos (vR_pos ha) (vR_pos hc)) (Int.mul_pos (vR_pos hb) (vR_pos hc)) hr hr']
  rw [← sg_mul (z := a1 * b2 - b1 * a2) (Int.mul_pos (vR_pos hc) (vR_pos hc))]
  congr 1
  grind
theorem add_sub {a1 a2 b1 b2 : Int} {s : Int × Int} (h : addR a1 a2 b1 b2 = (s, 0)) : subR s.1 s.2 b1 b2 = ((a1, a2), 0) := by
  obtain ⟨ha, hb, hd, hv, hr⟩ := val_ok h
  have h1 := hr.eq
  have h2 := vR_pos hb
  have h3 := hr.pos
  unfold subR valI2
  rw [hv, hb, if_pos (by rfl)]
  refine ofI_of (by have := Int.mul_pos h3 h2; omega) ⟨vR_pos ha, ((vR_iff _ _).1 ha).2, ?_⟩ ha
  grind
theorem mul_div {a1 a2 b1 b2 : Int} {s : Int × Int} (h : mulR a1 a2 b1 b2 = (s, 0)) (h0 : b1 ≠ 0) : divR s.1 s.2 b1 b2 = ((a1, a2), 0) := by
  obtain ⟨ha, hb, hd, hv, hr⟩ := val_ok h
  have h1 := hr.eq
  have h2 := vR_pos hb
  have h3 := hr.pos
  unfold divR valI2
  rw [hv, hb, if_pos (by rfl)]
  refine ofI_of (by rw [Ne, Int.mul_eq_zero]; omega) ⟨vR_pos ha, ((vR_iff _ _).1 ha).2, ?_⟩ ha
  grind
/-- Rounding. -/
def flR (p q : Int) : Int := if vR p q then p / q else 0
def ceR (p q : Int) : Int := if vR p q then -(-p / q) else 0
theorem vR_neg (p q : Int) : vR (-p) q = vR p q := by
  unfold vR lim
  rw [Int.neg_gcd, Bool.eq_iff_iff]
  simp only [Bool.and_eq_true, decide_eq_true_iff]
  omega
theorem fl_tdiv {p q : Int} (h : 0 < q) : p / q = if p.tmod q < 0 then p.tdiv q - 1 else p.tdiv q := by
  have e := Int.tmod_add_mul_tdiv p q
  have h1 := Int.tmod_lt_of_pos p h
  have h2 : -q < p.tmod q := by
    have := Int.tmod_lt_of_pos (-p) h
    rw [Int.neg_tmod] at this
    omega
  split
  · rename_i hn
    rw [Int.ediv_eq_iff_of_pos h]
    rw [Int.sub_mul, Int.mul_comm]
    omega
  · rename_i hn
    rw [Int.ediv_eq_iff_of_pos h]
    rw [Int.mul_comm]
    omega
theorem ce_tdiv {p q : Int} (h : 0 < q) : -(-p / q) = if 0 < p.tmod q then p.tdiv q + 1 else p.tdiv q := by
  rw [fl_tdiv h, Int.neg_tmod, Int.neg_tdiv]
  (repeat' split) <;> omega
theorem fl_le {p q : Int} (h : 0 < q) : p / q * q ≤ p ∧ p < (p / q + 1) * q := by
  have e := Int.mul_ediv_add_emod p q
  have h1 := Int.emod_nonneg p (show q ≠ 0 by omega)
  have h2 := Int.emod_lt_of_pos p h
  rw [Int.add_mul, Int.mul_comm]
  omega
theorem ce_ge {p q : Int} (h : 0 < q) : p ≤ -(-p / q) * q ∧ (-(-p / q) - 1) * q < p := by
  have := fl_le (p := -p) h
  generalize -p / q = z at *
  rw [Int.add_mul] at this
  rw [Int.sub_mul, Int.neg_mul]
  omega
theorem ce_fl {p q : Int} (h : vR p q = true) : ceR p q - flR p q ≤ 1 ∧ (ceR p q = flR p q ↔ q = 1) := by
  have hq := vR_pos h
  have h1 := fl_le (p := p) hq
  have h2 := ce_ge (p := p) hq
  unfold ceR flR
  rw [h, if_pos rfl, if_pos rfl]
  have hg := ((vR_iff _ _).1 h).2
  generalize hz : -(-p / q) = c at *
  generalize hy : p / q = f at *
  have a1 : (c - 1 - (f + 1)) * q < 0 := by grind
  constructor
  · rcases Int.lt_or_le 1 (c - f) with h3 | h3
    · have := Int.mul_nonneg (show 0 ≤ c - 1 - (f + 1) by omega) (Int.le_of_lt hq)
      omega
    · exact h3
  · constructor
    · intro e
      have e2 : p = f * q := by rw [e] at h2; omega
      have : q ∣ p := ⟨f, by rw [e2, Int.mul_comm]⟩
      have h5 : Int.gcd p q = q.natAbs := Int.gcd_eq_right_iff_dvd (by omega) |>.2 this |> fun t => by omega
      omega
    · intro e
      subst e
      omega
/-- The product with an integer, rounded down. -/
def vI' (n : Int) : Bool := decide (-1000000000000 ≤ n) && decide (n ≤ 1000000000000)
def omR (p q n : Int) : Int × Int := if vR p q && vI' n then (if vI' (p * n / q) && decide (p.natAbs * n.natAbs / q.natAbs ≤ 1000000000000) then (p * n / q, 0) else (0, 8)) else (0, 2)
theorem om_one {p q : Int} (h : vR p q = true) : omR p q 1 = (flR p q, 0) := by
  have hq := vR_pos h
  have hb := (vR_iff _ _).1 h
  have h1 := fl_le (p := p) hq
  unfold omR flR
  rw [h, if_pos (by decide), if_pos rfl, Int.mul_one, if_pos]
  have b1 : -1000000000 ≤ p / q := by
    rcases Int.lt_or_le (p / q) (-1000000000) with h3 | h3
    · have := Int.mul_le_mul_of_nonneg_right (show p / q + 1 ≤ -1000000000 by omega) (Int.le_of_lt hq)
      omega
    · exact h3
  have b2 : p / q ≤ 1000000000 := by
    rcases Int.lt_or_le 1000000000 (p / q) with h3 | h3
    · have := Int.mul_le_mul_of_nonneg_right (show 1000000001 ≤ p / q by omega) (Int.le_of_lt hq)
      omega
    · exact h3
  have b3 : p.natAbs * (1 : Int).natAbs / q.natAbs ≤ 1000000000000 := Nat.le_trans (Nat.div_le_self _ _) (by show p.natAbs * 1 ≤ _; omega)
  unfold vI'
  simp only [Bool.and_eq_true, decide_eq_true_iff]
  omega
/-! ### the product with an integer -/
theorem nat_of_sign (z : Int) : (z = z.natAbs ∧ 0 ≤ z) ∨ (z = -(z.natAbs : Int) ∧ z < 0) := by omega
/-- The quotient of a product by its amounts. -/
theorem om_pos {p n : Int} {q : Nat} (h : (p < 0 ↔ n < 0)) : p * n / (q : Int) = ((p.natAbs * n.natAbs / q : Nat) : Int) := by
  have : p * n = ((p.natAbs * n.natAbs : Nat) : Int) := by
    rw [Int.natCast_mul]
    rcases nat_of_sign p with ⟨e, s⟩ | ⟨e, s⟩ <;> rcases nat_of_sign n with ⟨e', s'⟩ | ⟨e', s'⟩
    · rw [← e, ← e']
    · omega
    · omega
    · conv => lhs; rw [e, e']
      rw [Int.neg_mul_neg]
  rw [this, Int.natCast_ediv]
theorem om_neg {p n : Int} {q : Nat} (hq : 0 < q) (h : ¬ (p < 0 ↔ n < 0)) : p * n / (q : Int) = -((p.natAbs * n.natAbs / q : Nat) : Int) - (if 0 < p.natAbs * n.natAbs % q then 1 else 0) := by
  have : p * n = -((p.natAbs * n.natAbs : Nat) : Int) := by
    rw [Int.natCast_mul]
    rcases nat_of_sign p with ⟨e, s⟩ | ⟨e, s⟩ <;> rcases nat_of_sign n with ⟨e', s'⟩ | ⟨e', s'⟩
    · omega
    · conv => lhs; rw [e, e']
      rw [Int.mul_neg]
    · conv => lhs; rw [e, e']
      rw [Int.neg_mul]
    · omega
  rw [this]
  generalize p.natAbs * n.natAbs = m
  have e := Nat.div_add_mod m q
  have l := Nat.mod_lt m hq
  generalize hx : m / q = x at *
  generalize hy : m % q = y at *
  rw [Int.ediv_eq_iff_of_pos (by omega)]
  have e' : (q : Int) * x + y = m := by rw [← e]; simp
  split
  · rw [Int.sub_mul, Int.neg_mul, Int.mul_comm (x : Int)]
    omega
  · rw [Int.sub_mul, Int.neg_mul, Int.mul_comm (x : Int)]
    omega
/-- What Of computes out of the quotient and the rest of the amounts. -/
def omS (neg : Bool) (x r : Nat) : Int := if neg then (if 0 < r then -(x : Int) - 1 else -(x : Int)) else (x : Int)
theorem omR_far {p q n : Int} (hv : vR p q = true) (hn : vI' n = true) (h : 1000000000000 < p.natAbs * n.natAbs / q.natAbs) : omR p q n = (0, 8) := by
  unfold omR
  rw [hv, hn, if_pos (by rfl), if_neg (by simp; omega)]
theorem omR_near {p q n : Int} (hv : vR p q = true) (hn : vI' n = true) (h : p.natAbs * n.natAbs / q.natAbs ≤ 1000000000000) {neg : Bool} (hs : neg = !(decide (p < 0) == decide (n < 0))) :
    omR p q n = if vI' (omS neg (p.natAbs * n.natAbs / q.natAbs) (p.natAbs * n.natAbs % q.natAbs)) = true then (omS neg (p.natAbs * n.natAbs / q.natAbs) (p.natAbs * n.natAbs % q.natAbs), 0) else (0, 8) := by
  have hq := vR_pos hv
  obtain ⟨k, rfl⟩ := Int.eq_ofNat_of_zero_le (Int.le_of_lt hq)
  rw [Int.natAbs_natCast] at *
  have key : p * n / (k : Int) = omS neg (p.natAbs * n.natAbs / k) (p.natAbs * n.natAbs % k) := by
    subst hs
    by_cases hc : (p < 0 ↔ n < 0)
    · rw [om_pos hc]
      have : (decide (p < 0) == decide (n < 0)) = true := by simp [hc]
      rw [this]; rfl
    · rw [om_neg (by omega) hc]
      have : (decide (p < 0) == decide (n < 0)) = false := by
        rw [beq_eq_false_iff_ne]; intro e; exact hc (decide_eq_decide.1 e)
      rw [this]
      unfold omS
      by_cases h0 : 0 < p.natAbs * n.natAbs % k
      · simp [h0]
      · simp [h0]
  unfold omR
  rw [hv, hn, if_pos (by rfl), key, Int.natAbs_natCast, decide_eq_true h, Bool.and_true]
end Rt
