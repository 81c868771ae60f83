/- Plain: the checksum, hexadecimal numbers, chain texts. -/
import Derived.Lib.ItoaNum
namespace Go.Proofs.YtjjmdgiaohmjkaaDoor

theorem snoc_ind {α : Type} {P : List α → Prop} (h0 : P []) (h1 : ∀ l c, P l → P (l ++ [c])) (l : List α) : P l := by
  have h : ∀ r : List α, P r.reverse := by
    intro r
    induction r with
    | nil => exact h0
    | cons c r ih => rw [List.reverse_cons]; exact h1 _ c ih
  have := h l.reverse
  rwa [List.reverse_reverse] at this
/-! ### the checksum -/
def crf (r : Nat) : Nat := if r % 2 = 1 then (r / 2) ^^^ 3988292384 else r / 2
def crN : Nat → Nat → Nat
  | 0, r => r
  | k + 1, r => crf (crN k r)
theorem crf_lt {r : Nat} (h : r < 4294967296) : crf r < 4294967296 := by
  unfold crf
  split
  · exact Nat.xor_lt_two_pow (n := 32) (by omega) (by omega)
  · omega
theorem crN_lt {r : Nat} (h : r < 4294967296) : ∀ k, crN k r < 4294967296
  | 0 => h
  | k + 1 => crf_lt (crN_lt h k)
theorem xor_div2 (a b : Nat) : (a ^^^ b) / 2 = a / 2 ^^^ b / 2 := by
  have h := Nat.shiftRight_xor_distrib (a := a) (b := b) (i := 1)
  simpa [Nat.shiftRight_eq_div_pow] using h
theorem xor_div256 (a b : Nat) : (a ^^^ b) / 256 = a / 256 ^^^ b / 256 := by
  have h := Nat.shiftRight_xor_distrib (a := a) (b := b) (i := 8)
  simpa [Nat.shiftRight_eq_div_pow] using h
theorem xor_mod2 (a b : Nat) : (a ^^^ b) % 2 = (a % 2 + b % 2) % 2 := by
  have h := Nat.xor_mod_two_pow (a := a) (b := b) (n := 1)
  rw [show (2 : Nat) ^ 1 = 2 from rfl] at h
  rw [h]
  rcases Nat.mod_two_eq_zero_or_one a with h1 | h1 <;> rcases Nat.mod_two_eq_zero_or_one b with h2 | h2 <;> rw [h1, h2] <;> rfl
theorem xor_mod256 (a b : Nat) : (a ^^^ b) % 256 = a % 256 ^^^ b % 256 := by
  have := Nat.xor_mod_two_pow (a := a) (b := b) (n := 8)
  simpa using this
theorem crf_xor (a b : Nat) : crf (a ^^^ b) = crf a ^^^ crf b := by
  unfold crf
  rw [xor_div2, xor_mod2]
  rcases Nat.mod_two_eq_zero_or_one a with h1 | h1 <;> rcases Nat.mod_two_eq_zero_or_one b with h2 | h2
  · simp [h1, h2]
  · simp [h1, h2, Nat.xor_assoc]
  · simp only [h1, h2]
    simp
    rw [Nat.xor_assoc, Nat.xor_assoc, Nat.xor_comm 3988292384]
  · simp only [h1, h2]
    simp
    rw [Nat.xor_assoc, Nat.xor_comm 3988292384, Nat.xor_assoc, Nat.xor_self, Nat.xor_zero]
theorem crN_xor (a b : Nat) : ∀ k, crN k (a ^^^ b) = crN k a ^^^ crN k b
  | 0 => rfl
  | k + 1 => by rw [crN, crN_xor a b k, crf_xor]; rfl
theorem crf_even (m : Nat) : crf (2 * m) = m := by
  unfold crf
  rw [if_neg (by omega)]
  omega
theorem crN_high (h : Nat) : crN 8 (256 * h) = h := by
  show crf (crf (crf (crf (crf (crf (crf (crf (256 * h)))))))) = h
  rw [show 256 * h = 2 * (128 * h) by omega, crf_even, show 128 * h = 2 * (64 * h) by omega, crf_even, show 64 * h = 2 * (32 * h) by omega, crf_even, show 32 * h = 2 * (16 * h) by omega, crf_even,
    show 16 * h = 2 * (8 * h) by omega, crf_even, show 8 * h = 2 * (4 * h) by omega, crf_even, show 4 * h = 2 * (2 * h) by omega, crf_even, crf_even]
theorem split256 (x : Nat) : x = (256 * (x / 256)) ^^^ (x % 256) := by
  have h := Nat.two_pow_add_eq_or_of_lt (show x % 256 < 2 ^ 8 by omega) (x / 256)
  have h2 : (2 ^ 8 * (x / 256)) ^^^ (x % 256) = (2 ^ 8 * (x / 256)) ||| (x % 256) := by
    apply Nat.eq_of_testBit_eq
    intro i
    rw [Nat.testBit_xor, Nat.testBit_or]
    by_cases hi : i < 8
    · have : (2 ^ 8 * (x / 256)).testBit i = false := by
        rw [Nat.testBit_two_pow_mul]; simp; omega
      rw [this]; simp
    · have : (x % 256).testBit i = false := Nat.testBit_lt_two_pow (Nat.lt_of_lt_of_le (show x % 256 < 2 ^ 8 by omega) (Nat.pow_le_pow_right (by omega) (by omega)))
      rw [this]; simp
  have h3 : (2 ^ 8 : Nat) = 256 := by decide
  rw [h3] at h h2
  omega
/-- Eight steps by the table: the low byte's row, and the other bytes moved down. -/
theorem crN_table (x : Nat) : crN 8 x = crN 8 (x % 256) ^^^ (x / 256) := by
  conv => lhs; rw [split256 x]
  rw [crN_xor, crN_high, Nat.xor_comm]
/-- One byte. -/
def crS (r : Nat) (c : UInt8) : Nat := crN 8 (r ^^^ c.toNat)
def crL (l : List UInt8) : Nat := l.foldl crS 4294967295
theorem crS_table (r : Nat) (c : UInt8) : crS r c = crN 8 (r % 256 ^^^ c.toNat) ^^^ (r / 256) := by
  unfold crS
  have hc := c.toNat_lt
  rw [crN_table, xor_mod256, xor_div256, show c.toNat % 256 = c.toNat by omega, show c.toNat / 256 = 0 by omega, Nat.xor_zero]
theorem crS_lt {r : Nat} (h : r < 4294967296) (c : UInt8) : crS r c < 4294967296 := by
  have hc := c.toNat_lt
  exact crN_lt (Nat.xor_lt_two_pow (n := 32) (by omega) (by omega)) 8
theorem crL_lt (l : List UInt8) : crL l < 4294967296 := by
  unfold crL
  have : ∀ (l : List UInt8) (r : Nat), r < 4294967296 → l.foldl crS r < 4294967296 := by
    intro l
    induction l with
    | nil => intro r h; exact h
    | cons c l ih => intro r h; exact ih _ (crS_lt h c)
  exact this l _ (by omega)
theorem crL_snoc (l : List UInt8) (c : UInt8) : crL (l ++ [c]) = crS (crL l) c := by unfold crL; rw [List.foldl_append]; rfl
/-- The checksum, with all bits turned. -/
def crcI (l : List UInt8) : Int := 4294967295 - (crL l : Int)

/-! ### hexadecimal numbers -/
def hexd (d : Nat) : UInt8 := if d < 10 then UInt8.ofNat (48 + d) else UInt8.ofNat (87 + d)
/-- The last k digits. -/
def hexL (n : Nat) : Nat → List UInt8
  | 0 => []
  | k + 1 => hexL (n / 16) k ++ [hexd (n % 16)]
/-- As few digits as there can be. -/
def hexM (n : Nat) : List UInt8 := if n < 16 then [hexd n] else hexM (n / 16) ++ [hexd (n % 16)]
termination_by n
theorem hexL_len (k : Nat) : ∀ n, (hexL n k).length = k := by
  induction k with
  | zero => intro n; rfl
  | succ k ih => intro n; rw [hexL, List.length_append, ih]; rfl
theorem hexL_zero (k : Nat) : hexL 0 k = List.replicate k 48 := by
  induction k with
  | zero => rfl
  | succ k ih => rw [hexL, Nat.zero_div, ih, List.replicate_succ']; rfl
theorem hexM_pad : ∀ (k n : Nat), n < 16 ^ (k + 1) → (hexM n).length ≤ k + 1 ∧ hexL n (k + 1) = List.replicate (k + 1 - (hexM n).length) 48 ++ hexM n
  | 0, n, h => by
    have h1 : n < 16 := by simpa using h
    rw [hexM, if_pos h1, hexL, hexL, Nat.mod_eq_of_lt h1]
    exact ⟨by simp, by simp⟩
  | k + 1, n, h => by
    rw [hexM]
    split
    · rename_i h1
      rw [hexL, Nat.div_eq_of_lt h1, hexL_zero, Nat.mod_eq_of_lt h1]
      exact ⟨by simp, by simp⟩
    · obtain ⟨h2, h3⟩ := hexM_pad k (n / 16) (by rw [Nat.div_lt_iff_lt_mul (by omega)]; rw [Nat.pow_succ] at h; exact h)
      rw [hexL, h3, List.length_append]
      refine ⟨by simp; omega, ?_⟩
      rw [List.append_assoc, show k + 1 + 1 - ((hexM (n / 16)).length + [hexd (n % 16)].length) = k + 1 - (hexM (n / 16)).length by simp]
theorem hexM_len {n : Nat} (h : n < 18446744073709551616) : 1 ≤ (hexM n).length ∧ (hexM n).length ≤ 16 := by
  refine ⟨?_, (hexM_pad 15 n (by simpa using h)).1⟩
  rw [hexM]; split <;> simp
theorem hexL_pad {n : Nat} (h : n < 18446744073709551616) : hexL n 16 = List.replicate (16 - (hexM n).length) 48 ++ hexM n := (hexM_pad 15 n (by simpa using h)).2
/-- The value of a digit of either case; 16 or more for what is none. -/
def hxv (c : UInt8) : Nat := if 48 ≤ c.toNat ∧ c.toNat ≤ 57 then c.toNat - 48 else if 97 ≤ c.toNat ∧ c.toNat ≤ 122 then c.toNat - 87 else if 65 ≤ c.toNat ∧ c.toNat ≤ 90 then c.toNat - 55 else 99
/-- The value of a lower-case digit; 16 for what is none. -/
def hlv (c : UInt8) : Nat := if 48 ≤ c.toNat ∧ c.toNat ≤ 57 then c.toNat - 48 else if 97 ≤ c.toNat ∧ c.toNat ≤ 102 then c.toNat - 87 else 16
theorem hxd_fin : ∀ d : Fin 16, hxv (hexd d.val) = d.val ∧ hlv (hexd d.val) = d.val := by decide +kernel
theorem hxv_hexd {d : Nat} (h : d < 16) : hxv (hexd d) = d := (hxd_fin ⟨d, h⟩).1
theorem hlv_hexd {d : Nat} (h : d < 16) : hlv (hexd d) = d := (hxd_fin ⟨d, h⟩).2
theorem hexd_hlv_fin : ∀ c : Fin 256, hlv (UInt8.ofNat c.val) < 16 → hexd (hlv (UInt8.ofNat c.val)) = UInt8.ofNat c.val ∧ hxv (UInt8.ofNat c.val) = hlv (UInt8.ofNat c.val) := by decide +kernel
theorem u8_fin (c : UInt8) : UInt8.ofNat (⟨c.toNat, c.toNat_lt⟩ : Fin 256).val = c := by simp
theorem hexd_hlv {c : UInt8} (h : hlv c < 16) : hexd (hlv c) = c ∧ hxv c = hlv c := by
  have := hexd_hlv_fin ⟨c.toNat, c.toNat_lt⟩
  rw [u8_fin] at this
  exact this h
/-- What digits are worth. -/
def valX (f : UInt8 → Nat) (l : List UInt8) : Nat := l.foldl (fun a c => a * 16 + f c) 0
theorem valX_snoc (f : UInt8 → Nat) (l : List UInt8) (c : UInt8) : valX f (l ++ [c]) = valX f l * 16 + f c := by unfold valX; rw [List.foldl_append]; rfl
def allX (f : UInt8 → Nat) (l : List UInt8) : Bool := l.all fun c => decide (f c < 16)
theorem allX_snoc (f : UInt8 → Nat) (l : List UInt8) (c : UInt8) : allX f (l ++ [c]) = (allX f l && decide (f c < 16)) := by unfold allX; rw [List.all_append]; simp
theorem valX_lt {f : UInt8 → Nat} : ∀ (l : List UInt8), allX f l = true → valX f l < 16 ^ l.length := by
  intro l
  refine snoc_ind (P := fun l => allX f l = true → valX f l < 16 ^ l.length) ?_ ?_ l
  · intro _; simp [valX]
  · intro l c ih h
    rw [allX_snoc, Bool.and_eq_true, decide_eq_true_iff] at h
    have := ih h.1
    rw [valX_snoc, List.length_append, List.length_singleton, Nat.pow_succ]
    omega
theorem hexL_val (k : Nat) : ∀ n, n < 16 ^ k → allX hxv (hexL n k) = true ∧ allX hlv (hexL n k) = true ∧ valX hxv (hexL n k) = n ∧ valX hlv (hexL n k) = n := by
  induction k with
  | zero => intro n h; simp at h; subst h; exact ⟨rfl, rfl, rfl, rfl⟩
  | succ k ih =>
    intro n h
    obtain ⟨h1, h2, h3, h4⟩ := ih (n / 16) (by rw [Nat.div_lt_iff_lt_mul (by omega)]; rw [Nat.pow_succ] at h; exact h)
    have hd : n % 16 < 16 := Nat.mod_lt _ (by omega)
    rw [hexL, allX_snoc, allX_snoc, valX_snoc, valX_snoc, h1, h2, h3, h4, hxv_hexd hd, hlv_hexd hd]
    simp [hd]; omega
/-- Lower-case digits, read and written. -/
theorem hexL_of_val : ∀ (l : List UInt8), allX hlv l = true → hexL (valX hlv l) l.length = l ∧ valX hxv l = valX hlv l ∧ allX hxv l = true := by
  intro l
  refine snoc_ind (P := fun l => allX hlv l = true → hexL (valX hlv l) l.length = l ∧ valX hxv l = valX hlv l ∧ allX hxv l = true) ?_ ?_ l
  · intro _; exact ⟨rfl, rfl, rfl⟩
  · intro l c ih h
    rw [allX_snoc, Bool.and_eq_true, decide_eq_true_iff] at h
    obtain ⟨h1, h2, h3⟩ := ih h.1
    obtain ⟨h4, h5⟩ := hexd_hlv h.2
    rw [valX_snoc, valX_snoc, allX_snoc, List.length_append, List.length_singleton, hexL, h2, h3, h5]
    have e1 : (valX hlv l * 16 + hlv c) / 16 = valX hlv l := by omega
    have e2 : (valX hlv l * 16 + hlv c) % 16 = hlv c := by omega
    rw [e1, e2, h1, h4]
    exact ⟨rfl, rfl, by simp [h.2]⟩
/-- Unhex. -/
def unhI (l : List UInt8) : Int × Int := if l.length = 16 ∧ allX hlv l = true then (((valX hlv l : Nat) : Int), 0) else (0, 1)
theorem unh_hexL {n : Nat} (h : n < 18446744073709551616) : unhI (hexL n 16) = ((n : Int), 0) := by
  obtain ⟨-, h2, -, h4⟩ := hexL_val 16 n (by simpa using h)
  unfold unhI
  rw [if_pos ⟨hexL_len 16 n, h2⟩, h4]
theorem unh_ok {l : List UInt8} {v : Int} (h : unhI l = (v, 0)) : ∃ n : Nat, v = n ∧ n < 18446744073709551616 ∧ hexL n 16 = l := by
  unfold unhI at h
  split at h
  · rename_i hp
    rw [Prod.mk.injEq] at h
    refine ⟨valX hlv l, h.1.symm, ?_, ?_⟩
    · have := valX_lt l hp.2
      rw [hp.1] at this
      simpa using this
    · have := (hexL_of_val l hp.2).1
      rw [hp.1] at this
      exact this
  · rw [Prod.mk.injEq] at h; exact absurd h.2 (by omega)
/-- What the code asks: 16 digits of either case, and the number's own text is the text. -/
theorem unh_code {l : List UInt8} (h16 : l.length = 16) : unhI l = if allX hxv l = true ∧ hexL (valX hxv l) 16 = l then (((valX hxv l : Nat) : Int), 0) else (0, 1) := by
  unfold unhI
  by_cases hl : allX hlv l = true
  · obtain ⟨h1, h2, h3⟩ := hexL_of_val l hl
    rw [h16] at h1
    rw [if_pos ⟨h16, hl⟩, if_pos ⟨h3, by rw [h2]; exact h1⟩, h2]
  · rw [if_neg (fun h => hl h.2), if_neg]
    rintro ⟨h1, h2⟩
    apply hl
    have h3 := valX_lt l h1
    rw [h16] at h3
    rw [← h2]
    exact (hexL_val 16 _ h3).2.1
/-! ### chain texts -/
def chT (l : List ByteArray) : List UInt8 := l.flatMap fun t => Lib.itoa (t.size : Int) ++ 58 :: t.data.toList
theorem chT_snoc (l : List ByteArray) (t : ByteArray) : chT (l ++ [t]) = chT l ++ (Lib.itoa (t.size : Int) ++ 58 :: t.data.toList) := by unfold chT; rw [List.flatMap_append]; simp
end Go.Proofs.YtjjmdgiaohmjkaaDoor
