/- Long division of two words by one: the numbers that bits.Div64 goes through, and what the wraps make of them. -/
import Derived.Test.YtpkekfhnpcjgkaaDoorP2
import Derived.Laws.BitsAllLaws
import Derived.Lib.ItoaNum
namespace Go.Proofs.YtpkekfhnpcjgkaaDoor

theorem wrap_nat (a : Nat) : IntKind.u64.wrap (a : Int) = ((a % 18446744073709551616 : Nat) : Int) := by
  rw [IntKind.wrap_u64]; omega
theorem wrap_small {a : Nat} (h : a < 18446744073709551616) : IntKind.u64.wrap (a : Int) = (a : Int) := by
  rw [wrap_nat, Nat.mod_eq_of_lt h]
theorem wrap_sub {a b m : Nat} (h : a = b + m) (hm : m < 18446744073709551616) : IntKind.u64.wrap (((a % 18446744073709551616 : Nat) : Int) - ((b % 18446744073709551616 : Nat) : Int)) = (m : Int) := by
  rw [IntKind.wrap_u64]; omega
theorem wrap_add (a b : Nat) : IntKind.u64.wrap (((a % 18446744073709551616 : Nat) : Int) + (b : Int)) = (((a + b) % 18446744073709551616 : Nat) : Int) := by
  rw [IntKind.wrap_u64]; omega
theorem low32 (a : Nat) (h : a < 18446744073709551616) : bits .and .u64 (a : Int) 4294967295 = ((a % 4294967296 : Nat) : Int) := by
  have := u64_and_nat a 4294967295 h (by omega)
  rw [show a &&& 4294967295 = a % 2 ^ 32 from Nat.and_two_pow_sub_one_eq_mod a 32] at this
  exact this
theorem shift_bounds (y s : Nat) (hy : 0 < y) (hy64 : y < 18446744073709551616) (hs : s = 64 - Lib.bitLen y) : s ≤ 63 ∧ 9223372036854775808 ≤ y * 2 ^ s ∧ y * 2 ^ s < 18446744073709551616 ∧ (64 - (Lib.bitLen y : Int)) = (s : Int) := by
  obtain ⟨h1, h2, h3⟩ := Lib.bitLenAux_bounds 64 y (by simpa using hy64) (by omega)
  have hl : Lib.bitLen y ≤ 64 := Lib.bitLen_le y 64 (Nat.le_refl _) (by simpa using hy64)
  change 1 ≤ Lib.bitLen y at h1
  change 2 ^ (Lib.bitLen y - 1) ≤ y at h2
  change y < 2 ^ Lib.bitLen y at h3
  generalize Lib.bitLen y = L at *
  refine ⟨by omega, ?_, ?_, by omega⟩
  · have := Nat.mul_le_mul_right (2 ^ s) h2
    rw [← Nat.pow_add, show L - 1 + s = 63 by omega] at this
    exact this
  · have := Nat.mul_lt_mul_of_pos_right h3 (show 0 < 2 ^ s from Nat.pow_pos (by omega))
    rw [← Nat.pow_add, show L + s = 64 by omega] at this
    exact this
theorem split_word (x s : Nat) (hs : s ≤ 63) : x * 2 ^ s = x / 2 ^ (64 - s) * 18446744073709551616 + x * 2 ^ s % 18446744073709551616 := by
  have h : x * 2 ^ s / 18446744073709551616 = x / 2 ^ (64 - s) := by
    have e : (18446744073709551616 : Nat) = 2 ^ (64 - s) * 2 ^ s := by rw [← Nat.pow_add, show 64 - s + s = 64 by omega]
    rw [e, Nat.mul_div_mul_right _ _ (Nat.pow_pos (by omega))]
  have := Nat.div_add_mod (x * 2 ^ s) 18446744073709551616
  rw [h, Nat.mul_comm] at this
  exact this.symm
theorem high_lt (x s : Nat) (hx : x < 18446744073709551616) (hs : s ≤ 63) : x / 2 ^ (64 - s) < 2 ^ s := by
  rw [Nat.div_lt_iff_lt_mul (Nat.pow_pos (by omega)), ← Nat.pow_add, show s + (64 - s) = 64 by omega]
  exact hx
theorem or_word (a b s : Nat) (hb : b < 2 ^ s) (ha : a * 2 ^ s < 18446744073709551616) (hb2 : b < 18446744073709551616) :
    bits .or .u64 (IntKind.u64.wrap ((a : Int) * 2 ^ s)) (b : Int) = ((a * 2 ^ s + b : Nat) : Int) := by
  have e : ((a : Int) * 2 ^ s) = ((a * 2 ^ s : Nat) : Int) := by simp
  rw [e, wrap_small ha, u64_or_nat _ _ ha hb2]
  have := Nat.shiftLeft_add_eq_or_of_lt hb a
  rw [Nat.shiftLeft_eq] at this
  rw [this]

/-- All the numbers, and what the walk asks of them. -/
structure DivN (x1 x0 y s Y yh yl U t u1 u0 qa pa ra va vb d1 vc m1 qb pb rb ve vf d0 vg R qu re : Nat) : Prop where
  hs : s ≤ 63
  hse : (64 - (Lib.bitLen y : Int)) = (s : Int)
  hY : IntKind.u64.wrap ((y : Int) * 2 ^ s) = (Y : Int)
  hyh : (Y : Int) / 4294967296 = (yh : Int)
  hyl : bits .and .u64 (Y : Int) 4294967295 = (yl : Int)
  hyh0 : 2147483648 ≤ yh
  hyh1 : yh < 4294967296
  hyl1 : yl < 4294967296
  hYe : Y = yh * 4294967296 + yl
  hU : bits .or .u64 (IntKind.u64.wrap ((x1 : Int) * 2 ^ s)) ((x0 : Int) / 2 ^ (64 - s)) = (U : Int)
  hUY : U < Y
  ht : IntKind.u64.wrap ((x0 : Int) * 2 ^ s) = (t : Int)
  hu1 : (t : Int) / 4294967296 = (u1 : Int)
  hu0 : bits .and .u64 (t : Int) 4294967295 = (u0 : Int)
  hu1b : u1 < 4294967296
  hu0b : u0 < 4294967296
  hqa : IntKind.u64.wrap ((U : Int) / (yh : Int)) = (qa : Int)
  hpa : IntKind.u64.wrap ((qa : Int) * (yh : Int)) = (pa : Int)
  hra : IntKind.u64.wrap ((U : Int) - (pa : Int)) = (ra : Int)
  hra1 : ra < 4294967296
  ga : Guess 4294967296 Y yh yl U u1 qa ra
  hva : IntKind.u64.wrap ((U : Int) * 4294967296) = (va : Int)
  hvb : IntKind.u64.wrap ((va : Int) + (u1 : Int)) = (vb : Int)
  hvc : IntKind.u64.wrap ((d1 : Int) * (Y : Int)) = (vc : Int)
  hm1 : IntKind.u64.wrap ((vb : Int) - (vc : Int)) = (m1 : Int)
  hd1 : d1 = (U * 4294967296 + u1) / Y
  hd1b : d1 < 4294967296
  hmY : m1 < Y
  hqb : IntKind.u64.wrap ((m1 : Int) / (yh : Int)) = (qb : Int)
  hpb : IntKind.u64.wrap ((qb : Int) * (yh : Int)) = (pb : Int)
  hrb : IntKind.u64.wrap ((m1 : Int) - (pb : Int)) = (rb : Int)
  hrb1 : rb < 4294967296
  gb : Guess 4294967296 Y yh yl m1 u0 qb rb
  hve : IntKind.u64.wrap ((m1 : Int) * 4294967296) = (ve : Int)
  hvf : IntKind.u64.wrap ((ve : Int) + (u0 : Int)) = (vf : Int)
  hvg : IntKind.u64.wrap ((d0 : Int) * (Y : Int)) = (vg : Int)
  hR : IntKind.u64.wrap ((vf : Int) - (vg : Int)) = (R : Int)
  hd0 : d0 = (m1 * 4294967296 + u0) / Y
  hd0b : d0 < 4294967296
  hre : (R : Int) / 2 ^ s = (re : Int)
  hqu : d1 * 4294967296 + d0 = qu
theorem guess_facts {Y yh yl U u : Nat} (hYe : Y = yh * 4294967296 + yl) (hyh0 : 2147483648 ≤ yh) (hyh1 : yh < 4294967296) (hu : u < 4294967296) (hUm : U < 18446744073709551616) :
    IntKind.u64.wrap ((U : Int) / (yh : Int)) = ((U / yh : Nat) : Int) ∧ IntKind.u64.wrap (((U / yh : Nat) : Int) * (yh : Int)) = ((U / yh * yh : Nat) : Int) ∧
    IntKind.u64.wrap ((U : Int) - ((U / yh * yh : Nat) : Int)) = ((U % yh : Nat) : Int) ∧ U % yh < 4294967296 ∧ Guess 4294967296 Y yh yl U u (U / yh) (U % yh) := by
  have h1 : U / yh ≤ U := Nat.div_le_self _ _
  have h2 : U / yh * yh ≤ U := Nat.div_mul_le_self _ _
  have h3 := Nat.div_add_mod U yh
  rw [Nat.mul_comm] at h3
  have h4 := Nat.mod_lt U (show 0 < yh by omega)
  refine ⟨?_, ?_, ?_, by omega, guess_first hYe (by omega) hu⟩
  · rw [show (U : Int) / (yh : Int) = ((U / yh : Nat) : Int) from rfl]
    exact wrap_small (by omega)
  · rw [show ((U / yh : Nat) : Int) * (yh : Int) = ((U / yh * yh : Nat) : Int) from by simp]
    exact wrap_small (by omega)
  · generalize U / yh * yh = x at *
    rw [show (U : Int) - (x : Int) = ((U % yh : Nat) : Int) from by omega]
    exact wrap_small (by omega)
theorem rest_facts {Y U u d m : Nat} (hY : Y < 18446744073709551616) (hY0 : 0 < Y) (hd : d = (U * 4294967296 + u) / Y) (hm : m = (U * 4294967296 + u) % Y) :
    IntKind.u64.wrap ((U : Int) * 4294967296) = ((U * 4294967296 % 18446744073709551616 : Nat) : Int) ∧
    IntKind.u64.wrap (((U * 4294967296 % 18446744073709551616 : Nat) : Int) + (u : Int)) = (((U * 4294967296 + u) % 18446744073709551616 : Nat) : Int) ∧
    IntKind.u64.wrap ((d : Int) * (Y : Int)) = ((d * Y % 18446744073709551616 : Nat) : Int) ∧
    IntKind.u64.wrap ((((U * 4294967296 + u) % 18446744073709551616 : Nat) : Int) - ((d * Y % 18446744073709551616 : Nat) : Int)) = (m : Int) ∧ m < Y ∧ U * 4294967296 + u = d * Y + m := by
  have h := Nat.div_add_mod (U * 4294967296 + u) Y
  rw [← hd, ← hm, Nat.mul_comm] at h
  have hlt := Nat.mod_lt (U * 4294967296 + u) hY0
  rw [← hm] at hlt
  refine ⟨?_, wrap_add _ _, ?_, wrap_sub h.symm (by omega), hlt, h.symm⟩
  · rw [show (U : Int) * 4294967296 = ((U * 4294967296 : Nat) : Int) from by simp]; exact wrap_nat _
  · rw [show (d : Int) * (Y : Int) = ((d * Y : Nat) : Int) from by simp]; exact wrap_nat _
set_option maxHeartbeats 1000000 in
set_option maxRecDepth 100000 in
theorem divN_end {x1 x0 y s Y yh yl U t u1 u0 : Nat} (hs63 : s ≤ 63) (hse : (64 - (Lib.bitLen y : Int)) = (s : Int)) (hP : 0 < 2 ^ s) (hY : Y = y * 2 ^ s)
    (hN : (x1 * (4294967296 * 4294967296) + x0) * 2 ^ s = U * (4294967296 * 4294967296) + t) (hte : t = u1 * 4294967296 + u0)
    (hyh0 : 2147483648 ≤ yh) (hyh1 : yh < 4294967296) (hyl1 : yl < 4294967296) (hu1b : u1 < 4294967296) (hu0b : u0 < 4294967296) (hYe : Y = yh * 4294967296 + yl) (hUY : U < Y)
    (hhi : Y < 18446744073709551616) (hY0 : 0 < Y) (hUm : U < 18446744073709551616) (hy0 : 0 < y)
    (hYE : IntKind.u64.wrap ((y : Int) * 2 ^ s) = (Y : Int)) (hyhE : (Y : Int) / 4294967296 = (yh : Int)) (hylE : bits .and .u64 (Y : Int) 4294967295 = (yl : Int))
    (hUE : bits .or .u64 (IntKind.u64.wrap ((x1 : Int) * 2 ^ s)) ((x0 : Int) / 2 ^ (64 - s)) = (U : Int)) (htE : IntKind.u64.wrap ((x0 : Int) * 2 ^ s) = (t : Int))
    (hu1E : (t : Int) / 4294967296 = (u1 : Int)) (hu0E : bits .and .u64 (t : Int) 4294967295 = (u0 : Int)) :
    ∃ s Y yh yl U t u1 u0 qa pa ra va vb d1 vc m1 qb pb rb ve vf d0 vg R : Nat,
      DivN x1 x0 y s Y yh yl U t u1 u0 qa pa ra va vb d1 vc m1 qb pb rb ve vf d0 vg R ((x1 * (4294967296 * 4294967296) + x0) / y) ((x1 * (4294967296 * 4294967296) + x0) % y) := by
  obtain ⟨d1, hd1⟩ : ∃ d1, d1 = (U * 4294967296 + u1) / Y := ⟨_, rfl⟩
  obtain ⟨m1, hm1⟩ : ∃ m1, m1 = (U * 4294967296 + u1) % Y := ⟨_, rfl⟩
  obtain ⟨a1, a2, a3, a4, a5⟩ := guess_facts hYe hyh0 hyh1 hu1b hUm
  obtain ⟨b1, b2, b3, b4, b5, b6⟩ := rest_facts hhi hY0 hd1 hm1
  obtain ⟨d0, hd0⟩ : ∃ d0, d0 = (m1 * 4294967296 + u0) / Y := ⟨_, rfl⟩
  obtain ⟨R, hR⟩ : ∃ R, R = (m1 * 4294967296 + u0) % Y := ⟨_, rfl⟩
  obtain ⟨c1, c2, c3, c4, c5⟩ := guess_facts hYe hyh0 hyh1 hu0b (show m1 < 18446744073709551616 by omega)
  obtain ⟨e1, e2, e3, e4, e5, e6⟩ := rest_facts hhi hY0 hd0 hR
  obtain ⟨f1, f2⟩ := two_digits (B := 4294967296) (hi := x1) (lo := x0) (y := y) (P := 2 ^ s) (Y := Y) (un32 := U) (un1 := u1) (un0 := u0) (un10 := t) hy0 hP hY hN hte hd1 hm1 hd0
  have g1 : d1 < 4294967296 := by rw [hd1]; exact digit_lt hUY hu1b
  have g0 : d0 < 4294967296 := by rw [hd0]; exact digit_lt b5 hu0b
  have hre : (R : Int) / 2 ^ s = (((x1 * (4294967296 * 4294967296) + x0) % y : Nat) : Int) := by
    rw [← f2, show m1 * 4294967296 + u0 - d0 * Y = R from by omega]
    simp
  exact ⟨s, Y, yh, yl, U, t, u1, u0, _, _, _, _, _, d1, _, m1, _, _, _, _, _, d0, _, R, {
    hs := hs63, hse := hse, hY := hYE, hyh := hyhE, hyl := hylE, hyh0 := hyh0, hyh1 := hyh1, hyl1 := hyl1, hYe := hYe, hU := hUE, hUY := hUY, ht := htE, hu1 := hu1E, hu0 := hu0E, hu1b := hu1b, hu0b := hu0b,
    hqa := a1, hpa := a2, hra := a3, hra1 := a4, ga := a5, hva := b1, hvb := b2, hvc := b3, hm1 := b4, hd1 := hd1, hd1b := g1, hmY := b5,
    hqb := c1, hpb := c2, hrb := c3, hrb1 := c4, gb := c5, hve := e1, hvf := e2, hvg := e3, hR := e4, hd0 := hd0, hd0b := g0, hre := hre, hqu := f1 }⟩
set_option maxHeartbeats 1000000 in
theorem divN_of (x1 x0 y : Nat) (hx1 : x1 < y) (hx0 : x0 < 18446744073709551616) (hy : y < 18446744073709551616) :
    ∃ s Y yh yl U t u1 u0 qa pa ra va vb d1 vc m1 qb pb rb ve vf d0 vg R : Nat,
      DivN x1 x0 y s Y yh yl U t u1 u0 qa pa ra va vb d1 vc m1 qb pb rb ve vf d0 vg R ((x1 * (4294967296 * 4294967296) + x0) / y) ((x1 * (4294967296 * 4294967296) + x0) % y) := by
  obtain ⟨s, hs⟩ : ∃ s, s = 64 - Lib.bitLen y := ⟨_, rfl⟩
  obtain ⟨hs63, hlo, hhi, hse⟩ := shift_bounds y s (by omega) hy hs
  clear hs
  have hP : 0 < 2 ^ s := Nat.pow_pos (by omega)
  obtain ⟨Y, hY⟩ : ∃ Y, Y = y * 2 ^ s := ⟨_, rfl⟩
  rw [← hY] at hlo hhi
  obtain ⟨h, hh⟩ : ∃ h, h = x0 / 2 ^ (64 - s) := ⟨_, rfl⟩
  have hhb := high_lt x0 s hx0 hs63
  rw [← hh] at hhb
  obtain ⟨U, hU⟩ : ∃ U, U = x1 * 2 ^ s + h := ⟨_, rfl⟩
  obtain ⟨t, ht⟩ : ∃ t, t = x0 * 2 ^ s % 18446744073709551616 := ⟨_, rfl⟩
  have hsw := split_word x0 s hs63
  rw [← hh, ← ht] at hsw
  have htb : t < 18446744073709551616 := by rw [ht]; exact Nat.mod_lt _ (by omega)
  have hxs : x1 * 2 ^ s + 2 ^ s ≤ Y := by
    have := Nat.mul_le_mul_right (2 ^ s) hx1
    rw [Nat.succ_mul, ← hY] at this
    exact this
  have hUY : U < Y := by omega
  obtain ⟨yh, hyh⟩ : ∃ yh, yh = Y / 4294967296 := ⟨_, rfl⟩
  obtain ⟨yl, hyl⟩ : ∃ yl, yl = Y % 4294967296 := ⟨_, rfl⟩
  obtain ⟨u1, hu1⟩ : ∃ u1, u1 = t / 4294967296 := ⟨_, rfl⟩
  obtain ⟨u0, hu0⟩ : ∃ u0, u0 = t % 4294967296 := ⟨_, rfl⟩
  have hYe : Y = yh * 4294967296 + yl := by omega
  have hte : t = u1 * 4294967296 + u0 := by omega
  have hyh0 : 2147483648 ≤ yh := by omega
  have hyh1 : yh < 4294967296 := by omega
  have hyl1 : yl < 4294967296 := by omega
  have hu1b : u1 < 4294967296 := by omega
  have hu0b : u0 < 4294967296 := by omega
  have hyhE : (Y : Int) / 4294967296 = (yh : Int) := by omega
  have hu1E : (t : Int) / 4294967296 = (u1 : Int) := by omega
  have hylE := low32 Y hhi
  rw [← hyl] at hylE
  have hu0E := low32 t htb
  rw [← hu0] at hu0E
  have hUm : U < 18446744073709551616 := by omega
  have hY0 : 0 < Y := by omega
  have hYE : IntKind.u64.wrap ((y : Int) * 2 ^ s) = (Y : Int) := by
    rw [show ((y : Int) * 2 ^ s) = ((Y : Nat) : Int) from by rw [hY]; simp]; exact wrap_small hhi
  have hUE : bits .or .u64 (IntKind.u64.wrap ((x1 : Int) * 2 ^ s)) ((x0 : Int) / 2 ^ (64 - s)) = (U : Int) := by
    rw [show ((x0 : Int) / 2 ^ (64 - s)) = ((h : Nat) : Int) from by rw [hh]; simp, hU]
    exact or_word x1 h s hhb (by omega) (by omega)
  have htE : IntKind.u64.wrap ((x0 : Int) * 2 ^ s) = (t : Int) := by
    rw [show ((x0 : Int) * 2 ^ s) = ((x0 * 2 ^ s : Nat) : Int) from by simp, wrap_nat, ht]
  have hN : (x1 * (4294967296 * 4294967296) + x0) * 2 ^ s = U * (4294967296 * 4294967296) + t := by
    rw [Nat.add_mul, hsw, hU, Nat.add_mul, Nat.mul_right_comm]
    omega
  clear hyl hu1 hu0 hyh hsw hh hhb hxs hU ht
  exact divN_end hs63 hse hP hY hN hte hyh0 hyh1 hyl1 hu1b hu0b hYe hUY hhi hY0 hUm (by omega) hYE hyhE hylE hUE htE hu1E hu0E
end Go.Proofs.YtpkekfhnpcjgkaaDoor
