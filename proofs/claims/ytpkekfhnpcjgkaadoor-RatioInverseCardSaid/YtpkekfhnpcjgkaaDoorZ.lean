/- The walk of bits.Div64 at a high word. -/
import Derived.Test.YtpkekfhnpcjgkaaDoorP3
import Derived.Test.YtpkekfhnpcjgkaaDoorB2
import Derived.Outline
namespace Go.Proofs.YtpkekfhnpcjgkaaDoor
open Go.RowKit

set_option maxHeartbeats 4000000 in
set_option maxRecDepth 100000 in
theorem Div64_core {x1 x0 y s Y yh yl U t u1 u0 qa pa ra va vb d1 vc m1 qb pb rb ve vf d0 vg R qu re : Nat} (D : DivN x1 x0 y s Y yh yl U t u1 u0 qa pa ra va vb d1 vc m1 qb pb rb ve vf d0 vg R qu re)
    (hx1 : x1 < y) (h0 : 0 < x1) (hy : y < 18446744073709551616) (w : World) :
    Calls Tryd.prog 70 #[.int .u64 x1, .int .u64 x0, .int .u64 y] w fun e w' => e = .returned (.tuple #[.int .u64 qu, .int .u64 re]) ∧ w = w' := by
  obtain ⟨hs, hse, hY, hyh, hyl, hyh0, hyh1, hyl1, hYe, hU, hUY, ht, hu1, hu0, hu1b, hu0b, hqa, hpa, hra, hra1, ga, hva, hvb, hvc, hm1, hd1, hd1b, hmY, hqb, hpb, hrb, hrb1, gb, hve, hvf, hvg, hR, hd0, hd0b, hre, hqu⟩ := D
  replace hse := Lib.hid hse
  replace hYe := Lib.hid hYe
  replace hUY := Lib.hid hUY
  replace hmY := Lib.hid hmY
  replace ga := Lib.hid ga
  replace gb := Lib.hid gb
  have H2 := Lib.hid (And.intro hva (And.intro hvb (And.intro hvc (And.intro hm1 (And.intro hqb (And.intro hpb hrb))))))
  have H3 := Lib.hid (And.intro hve (And.intro hvf (And.intro hvg (And.intro hR (And.intro hre hqu)))))
  replace hd1 := Lib.hid hd1
  replace hd0 := Lib.hid hd0
  clear hva hvb hvc hm1 hqb hpb hrb hve hvf hvg hR hre hqu
  have g0 : ((y : Int) == 0) = false := beq_eq_false_iff_ne.2 (by omega)
  have g1 : ((x1 : Int) == 0) = false := beq_eq_false_iff_ne.2 (by omega)
  go_enter Tryd.func70, Tryd.ntmps70
  go_wp2_with fail
  refine (Tryd.bits_LeadingZeros64 y _ (by omega) (by omega)).mono ?_
  rintro e w1 ⟨rfl, rfl⟩
  rw [Int.toNat_natCast, hse.out]
  go_wp2_with fail
  clear hY hyh hyl hU ht hu1 hu0 hqa hpa hra g0 g1 hse hy hx1 h0
  have hub := hu1b
  go_loop [15, 16] (fun q r => ∃ a b : Nat, q = .int .u64 a ∧ r = .int .u64 b ∧ Guess 4294967296 Y yh yl U u1 a b ∧ b < 4294967296) (fun q _ => (intOf q).toNat)
  case atStart => exact ⟨_, _, rfl, rfl, ga.out, hra1⟩
  case round =>
    obtain ⟨q, r, rfl, rfl, hg, hr⟩ := hrel
    have hqb := guess_bound hYe.out hyl1 (by omega) hUY.out hg
    have HG := Lib.hid hg
    clear hg
    by_cases hB : (4294967296 : Int) ≤ (q : Int)
    · obtain ⟨hq0, hg2⟩ := guess_less hYe.out hUY.out hub HG.out (.inl (by omega))
      have HG2 := Lib.hid hg2
      clear hg2
      by_cases hbr : (4294967296 : Int) ≤ (r : Int) + (yh : Int)
      · have HE := Lib.hid (guess_break hYe.out hyl1 hUY.out HG2.out (by omega) (by omega))
        have hq1 : (q : Int) - 1 = (d1 : Int) := by have := HE.out; have := hd1.out; omega
        obtain ⟨hva, hvb, hvc, hm1, hqb', hpb, hrb⟩ := H2.out
        go_wp2_with fail
        clear hva hvb hvc hm1 hqb' hpb hrb
        clear hub
        have hub := hu0b
        clear hq1 HE HG HG2 hqb
        go_loop [18, 16] (fun q r => ∃ a b : Nat, q = .int .u64 a ∧ r = .int .u64 b ∧ Guess 4294967296 Y yh yl m1 u0 a b ∧ b < 4294967296) (fun q _ => (intOf q).toNat)
        case atStart => exact ⟨_, _, rfl, rfl, gb.out, hrb1⟩
        case round =>
          obtain ⟨q, r, rfl, rfl, hg, hr⟩ := hrel
          have hqb := guess_bound hYe.out hyl1 (by omega) hmY.out hg
          have HG := Lib.hid hg
          clear hg
          by_cases hB : (4294967296 : Int) ≤ (q : Int)
          · obtain ⟨hq0, hg2⟩ := guess_less hYe.out hmY.out hub HG.out (.inl (by omega))
            have HG2 := Lib.hid hg2
            clear hg2
            by_cases hbr : (4294967296 : Int) ≤ (r : Int) + (yh : Int)
            · have HE := Lib.hid (guess_break hYe.out hyl1 hmY.out HG2.out (by omega) (by omega))
              have hq1 : (q : Int) - 1 = (d0 : Int) := by have := HE.out; have := hd0.out; omega
              obtain ⟨hve, hvf, hvg, hR, hre, hqu⟩ := H3.out
              have HQ := Lib.hid hqu
              clear hqu
              go_wp2_with fail
              go_ret2
              refine ⟨?_, rfl⟩
              rw [← HQ.out]
              rfl
            · go_wp2_with fail
              go_round
              case rel => exact ⟨q - 1, r + yh, by congr 1; omega, by go_num, HG2.out, by omega⟩
              case measure => simp [intOf]; omega
          · obtain ⟨z, hz⟩ : ∃ z, z = q * yl := ⟨_, rfl⟩
            have hzb : z ≤ 4294967295 * 4294967295 := by rw [hz]; exact Nat.mul_le_mul (by omega) (by omega)
            have hzw : IntKind.u64.wrap ((q : Int) * (yl : Int)) = (z : Int) := by
              rw [hz, show (q : Int) * (yl : Int) = ((q * yl : Nat) : Int) from by simp]
              exact wrap_small (by rw [← hz]; omega)
            have HZ := Lib.hid hz
            clear hz
            by_cases hgo : 4294967296 * (r : Int) + (u0 : Int) < (z : Int)
            · obtain ⟨hq0, hg2⟩ := guess_less hYe.out hmY.out hub HG.out (.inr (by rw [← HZ.out]; omega))
              have HG2 := Lib.hid hg2
              clear hg2
              by_cases hbr : (4294967296 : Int) ≤ (r : Int) + (yh : Int)
              · have HE := Lib.hid (guess_break hYe.out hyl1 hmY.out HG2.out (by omega) (by omega))
                have hq1 : (q : Int) - 1 = (d0 : Int) := by have := HE.out; have := hd0.out; omega
                obtain ⟨hve, hvf, hvg, hR, hre, hqu⟩ := H3.out
                have HQ := Lib.hid hqu
                clear hqu
                go_wp2_with fail
                go_ret2
                refine ⟨?_, rfl⟩
                rw [← HQ.out]
                rfl
              · go_wp2_with fail
                go_round
                case rel => exact ⟨q - 1, r + yh, by congr 1; omega, by go_num, HG2.out, by omega⟩
                case measure => simp [intOf]; omega
            · have HE := Lib.hid (guess_end hYe.out hmY.out HG.out (by rw [← HZ.out]; omega))
              obtain rfl : q = d0 := by rw [HE.out, hd0.out]
              obtain ⟨hve, hvf, hvg, hR, hre, hqu⟩ := H3.out
              have HQ := Lib.hid hqu
              clear hqu
              go_wp2_with fail
              go_ret2
              refine ⟨?_, rfl⟩
              rw [← HQ.out]
              rfl
      · go_wp2_with fail
        go_round
        case rel => exact ⟨q - 1, r + yh, by congr 1; omega, by go_num, HG2.out, by omega⟩
        case measure => simp [intOf]; omega
    · obtain ⟨z, hz⟩ : ∃ z, z = q * yl := ⟨_, rfl⟩
      have hzb : z ≤ 4294967295 * 4294967295 := by rw [hz]; exact Nat.mul_le_mul (by omega) (by omega)
      have hzw : IntKind.u64.wrap ((q : Int) * (yl : Int)) = (z : Int) := by
        rw [hz, show (q : Int) * (yl : Int) = ((q * yl : Nat) : Int) from by simp]
        exact wrap_small (by rw [← hz]; omega)
      have HZ := Lib.hid hz
      clear hz
      by_cases hgo : 4294967296 * (r : Int) + (u1 : Int) < (z : Int)
      · obtain ⟨hq0, hg2⟩ := guess_less hYe.out hUY.out hub HG.out (.inr (by rw [← HZ.out]; omega))
        have HG2 := Lib.hid hg2
        clear hg2
        by_cases hbr : (4294967296 : Int) ≤ (r : Int) + (yh : Int)
        · have HE := Lib.hid (guess_break hYe.out hyl1 hUY.out HG2.out (by omega) (by omega))
          have hq1 : (q : Int) - 1 = (d1 : Int) := by have := HE.out; have := hd1.out; omega
          obtain ⟨hva, hvb, hvc, hm1, hqb', hpb, hrb⟩ := H2.out
          go_wp2_with fail
          clear hva hvb hvc hm1 hqb' hpb hrb
          clear hub
          have hub := hu0b
          clear hq1 HE HG HG2 hqb
          go_loop [18, 16] (fun q r => ∃ a b : Nat, q = .int .u64 a ∧ r = .int .u64 b ∧ Guess 4294967296 Y yh yl m1 u0 a b ∧ b < 4294967296) (fun q _ => (intOf q).toNat)
          case atStart => exact ⟨_, _, rfl, rfl, gb.out, hrb1⟩
          case round =>
            obtain ⟨q, r, rfl, rfl, hg, hr⟩ := hrel
            have hqb := guess_bound hYe.out hyl1 (by omega) hmY.out hg
            have HG := Lib.hid hg
            clear hg
            by_cases hB : (4294967296 : Int) ≤ (q : Int)
            · obtain ⟨hq0, hg2⟩ := guess_less hYe.out hmY.out hub HG.out (.inl (by omega))
              have HG2 := Lib.hid hg2
              clear hg2
              by_cases hbr : (4294967296 : Int) ≤ (r : Int) + (yh : Int)
              · have HE := Lib.hid (guess_break hYe.out hyl1 hmY.out HG2.out (by omega) (by omega))
                have hq1 : (q : Int) - 1 = (d0 : Int) := by have := HE.out; have := hd0.out; omega
                obtain ⟨hve, hvf, hvg, hR, hre, hqu⟩ := H3.out
                have HQ := Lib.hid hqu
                clear hqu
                go_wp2_with fail
                go_ret2
                refine ⟨?_, rfl⟩
                rw [← HQ.out]
                rfl
              · go_wp2_with fail
                go_round
                case rel => exact ⟨q - 1, r + yh, by congr 1; omega, by go_num, HG2.out, by omega⟩
                case measure => simp [intOf]; omega
            · obtain ⟨z, hz⟩ : ∃ z, z = q * yl := ⟨_, rfl⟩
              have hzb : z ≤ 4294967295 * 4294967295 := by rw [hz]; exact Nat.mul_le_mul (by omega) (by omega)
              have hzw : IntKind.u64.wrap ((q : Int) * (yl : Int)) = (z : Int) := by
                rw [hz, show (q : Int) * (yl : Int) = ((q * yl : Nat) : Int) from by simp]
                exact wrap_small (by rw [← hz]; omega)
              have HZ := Lib.hid hz
              clear hz
              by_cases hgo : 4294967296 * (r : Int) + (u0 : Int) < (z : Int)
              · obtain ⟨hq0, hg2⟩ := guess_less hYe.out hmY.out hub HG.out (.inr (by rw [← HZ.out]; omega))
                have HG2 := Lib.hid hg2
                clear hg2
                by_cases hbr : (4294967296 : Int) ≤ (r : Int) + (yh : Int)
                · have HE := Lib.hid (guess_break hYe.out hyl1 hmY.out HG2.out (by omega) (by omega))
                  have hq1 : (q : Int) - 1 = (d0 : Int) := by have := HE.out; have := hd0.out; omega
                  obtain ⟨hve, hvf, hvg, hR, hre, hqu⟩ := H3.out
                  have HQ := Lib.hid hqu
                  clear hqu
                  go_wp2_with fail
                  go_ret2
                  refine ⟨?_, rfl⟩
                  rw [← HQ.out]
                  rfl
                · go_wp2_with fail
                  go_round
                  case rel => exact ⟨q - 1, r + yh, by congr 1; omega, by go_num, HG2.out, by omega⟩
                  case measure => simp [intOf]; omega
              · have HE := Lib.hid (guess_end hYe.out hmY.out HG.out (by rw [← HZ.out]; omega))
                obtain rfl : q = d0 := by rw [HE.out, hd0.out]
                obtain ⟨hve, hvf, hvg, hR, hre, hqu⟩ := H3.out
                have HQ := Lib.hid hqu
                clear hqu
                go_wp2_with fail
                go_ret2
                refine ⟨?_, rfl⟩
                rw [← HQ.out]
                rfl
        · go_wp2_with fail
          go_round
          case rel => exact ⟨q - 1, r + yh, by congr 1; omega, by go_num, HG2.out, by omega⟩
          case measure => simp [intOf]; omega
      · have HE := Lib.hid (guess_end hYe.out hUY.out HG.out (by rw [← HZ.out]; omega))
        obtain rfl : q = d1 := by rw [HE.out, hd1.out]
        obtain ⟨hva, hvb, hvc, hm1, hqb', hpb, hrb⟩ := H2.out
        go_wp2_with fail
        clear hva hvb hvc hm1 hqb' hpb hrb
        clear hub
        have hub := hu0b
        clear HE HG hqb hzw hzb HZ hgo hB
        go_loop [18, 16] (fun q r => ∃ a b : Nat, q = .int .u64 a ∧ r = .int .u64 b ∧ Guess 4294967296 Y yh yl m1 u0 a b ∧ b < 4294967296) (fun q _ => (intOf q).toNat)
        case atStart => exact ⟨_, _, rfl, rfl, gb.out, hrb1⟩
        case round =>
          obtain ⟨q, r, rfl, rfl, hg, hr⟩ := hrel
          have hqb := guess_bound hYe.out hyl1 (by omega) hmY.out hg
          have HG := Lib.hid hg
          clear hg
          by_cases hB : (4294967296 : Int) ≤ (q : Int)
          · obtain ⟨hq0, hg2⟩ := guess_less hYe.out hmY.out hub HG.out (.inl (by omega))
            have HG2 := Lib.hid hg2
            clear hg2
            by_cases hbr : (4294967296 : Int) ≤ (r : Int) + (yh : Int)
            · have HE := Lib.hid (guess_break hYe.out hyl1 hmY.out HG2.out (by omega) (by omega))
              have hq1 : (q : Int) - 1 = (d0 : Int) := by have := HE.out; have := hd0.out; omega
              obtain ⟨hve, hvf, hvg, hR, hre, hqu⟩ := H3.out
              have HQ := Lib.hid hqu
              clear hqu
              go_wp2_with fail
              go_ret2
              refine ⟨?_, rfl⟩
              rw [← HQ.out]
              rfl
            · go_wp2_with fail
              go_round
              case rel => exact ⟨q - 1, r + yh, by congr 1; omega, by go_num, HG2.out, by omega⟩
              case measure => simp [intOf]; omega
          · obtain ⟨z, hz⟩ : ∃ z, z = q * yl := ⟨_, rfl⟩
            have hzb : z ≤ 4294967295 * 4294967295 := by rw [hz]; exact Nat.mul_le_mul (by omega) (by omega)
            have hzw : IntKind.u64.wrap ((q : Int) * (yl : Int)) = (z : Int) := by
              rw [hz, show (q : Int) * (yl : Int) = ((q * yl : Nat) : Int) from by simp]
              exact wrap_small (by rw [← hz]; omega)
            have HZ := Lib.hid hz
            clear hz
            by_cases hgo : 4294967296 * (r : Int) + (u0 : Int) < (z : Int)
            · obtain ⟨hq0, hg2⟩ := guess_less hYe.out hmY.out hub HG.out (.inr (by rw [← HZ.out]; omega))
              have HG2 := Lib.hid hg2
              clear hg2
              by_cases hbr : (4294967296 : Int) ≤ (r : Int) + (yh : Int)
              · have HE := Lib.hid (guess_break hYe.out hyl1 hmY.out HG2.out (by omega) (by omega))
                have hq1 : (q : Int) - 1 = (d0 : Int) := by have := HE.out; have := hd0.out; omega
                obtain ⟨hve, hvf, hvg, hR, hre, hqu⟩ := H3.out
                have HQ := Lib.hid hqu
                clear hqu
                go_wp2_with fail
                go_ret2
                refine ⟨?_, rfl⟩
                rw [← HQ.out]
                rfl
              · go_wp2_with fail
                go_round
                case rel => exact ⟨q - 1, r + yh, by congr 1; omega, by go_num, HG2.out, by omega⟩
                case measure => simp [intOf]; omega
            · have HE := Lib.hid (guess_end hYe.out hmY.out HG.out (by rw [← HZ.out]; omega))
              obtain rfl : q = d0 := by rw [HE.out, hd0.out]
              obtain ⟨hve, hvf, hvg, hR, hre, hqu⟩ := H3.out
              have HQ := Lib.hid hqu
              clear hqu
              go_wp2_with fail
              go_ret2
              refine ⟨?_, rfl⟩
              rw [← HQ.out]
              rfl
end Go.Proofs.YtpkekfhnpcjgkaaDoor
