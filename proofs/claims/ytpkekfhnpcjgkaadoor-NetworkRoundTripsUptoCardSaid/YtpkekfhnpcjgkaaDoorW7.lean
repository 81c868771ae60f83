/- The walk of the reference's Dead. -/
import Derived.Test.YtpkekfhnpcjgkaaDoorW6
namespace Go.Proofs.YtpkekfhnpcjgkaaDoor
open Go.RowKit
open Nw
open Go.Sort (grow)

def anyC (l : List Rule) (r : Rule) (m : Nat) : Bool := (l.take m).any (fun x => x.cv r)
theorem anyC_zero (l : List Rule) (r : Rule) : anyC l r 0 = false := by simp [anyC]
theorem anyC_step {l : List Rule} {r x : Rule} {m : Nat} (hx : l[m]? = some x) : anyC l r (m + 1) = (anyC l r m || x.cv r) := by
  unfold anyC
  rw [List.take_add_one, hx, List.any_append]
  simp
theorem anyC_dead {l : List Rule} {r : Rule} {k : Nat} (hr : l[k]? = some r) : anyC l r k = isDead l k := by unfold anyC isDead; rw [hr]
theorem OwnI.empty {w w1 : World} {g : Nat} (hg : g = w1.heap.size) (hb : w.heap.size ≤ w1.heap.size) : OwnI (w1.alloc (.cells #[] 3)) w.heap.size (.slice (some ⟨g, 0, none⟩) 0 0) [] := by
  subst hg
  exact ⟨rfl, .inr ⟨w1.heap.size, 0, #[], rfl, hb, heap_alloc_new _ _, by simp [maxLen, ivals]⟩⟩
set_option maxHeartbeats 4000000 in
set_option maxRecDepth 100000 in
theorem rDead_any (A : Option Addr) (c : Nat) (l : List Rule) (w : World) (hl : RulesAt w w.heap.size A l) (hn : l.length ≤ 1000) :
    Calls Tryd.prog 55 #[.slice A l.length c] w fun e w' => ∃ v, e = .returned v ∧ OwnI w' w.heap.size v (deadI l l.length) ∧ Below w.heap.size w w' := by
  have HL := Lib.hid hl
  clear hl
  obtain ⟨i0, ih, iz0, iz1, iz2⟩ := info_parts info_int
  go_enter Tryd.func55, Tryd.ntmps55
  go_wp2_with fail
  go_loopw [3, 4] (fun v i wr => ∃ k : Nat, k ≤ l.length ∧ i = .int .i64 k ∧ OwnI wr w.heap.size v (deadI l k) ∧ Below w.heap.size w wr) (fun _ i _ => l.length - (intOf i).toNat)
  case atStart => exact ⟨0, Nat.zero_le _, rfl, OwnI.empty rfl (Nat.le_refl _), (Below.refl _ _).alloc (Nat.le_refl _) _⟩
  case round =>
    obtain ⟨k, hk, rfl, hv, hbr⟩ := hrel
    obtain ⟨wo, rfl⟩ : ∃ wo : World, wo = wr := ⟨_, rfl⟩
    obtain ⟨v, rfl⟩ : ∃ v : Value, v = u3 := ⟨_, rfl⟩
    have HR := Lib.hid hbr
    have HV := Lib.hid hv
    have hzr := hbr.size
    have hdl := deadI_len l k
    by_cases hlt : k < l.length
    · obtain ⟨r, hr⟩ : ∃ r, l[k]? = some r := ⟨_, List.getElem?_eq_getElem hlt⟩
      obtain ⟨al, ad, bi, lo, hi'⟩ := r
      have HRR := Lib.hid hr
      have HA0 := Lib.hid (anyC_zero l ⟨al, ad, bi, lo, hi'⟩)
      clear hr hbr hv
      go_wp2_with fail
      go_loopw [5, 6] (fun d j wr => ∃ m : Nat, m ≤ k ∧ j = .int .i64 m ∧ d = .bool (anyC l ⟨al, ad, bi, lo, hi'⟩ m) ∧ Below wo.heap.size wo wr) (fun _ j _ => k - (intOf j).toNat)
      case atStart => exact ⟨0, Nat.zero_le _, rfl, by rw [HA0.out], Below.refl _ _⟩
      case round =>
        obtain ⟨m, hm, rfl, rfl, hbz⟩ := hrel
        have HZ := Lib.hid (HR.out.trans (hbz.mono hzr))
        have HVZ := Lib.hid (HV.out.on hbz)
        have HBZ := Lib.hid hbz
        have hzz := HZ.out.size
        have hz2z := hbz.size
        clear hbz
        by_cases hmk : m < k
        · obtain ⟨x, hx⟩ : ∃ x, l[m]? = some x := ⟨_, List.getElem?_eq_getElem (by omega)⟩
          obtain ⟨al2, ad2, bi2, lo2, hi2⟩ := x
          have HS := Lib.hid (anyC_step (r := ⟨al, ad, bi, lo, hi'⟩) hx)
          obtain ⟨b, o, e1, -, c0, c1, c2, c3, c4⟩ := rule_cells (HL.out.below HZ.out) hx
          obtain ⟨b2, o2, e2, -, d0, d1, d2, d3, d4⟩ := rule_cells (HL.out.below HZ.out) HRR.out
          subst e1
          injection e2 with e2
          injection e2 with e3 e4
          subst e3 e4
          have im : (m : Int) < l.length := by omega
          have ik : (k : Int) < l.length := by omega
          have i0m : (0 : Int) ≤ m := by omega
          have i0k : (0 : Int) ≤ k := by omega
          clear hx
          generalize anyC l ⟨al, ad, bi, lo, hi'⟩ m = q at *
          go_wp2_with fail
          have r_c0 := fun d os => cell_regrown c0 d os
          have r_c1 := fun d os => cell_regrown c1 d os
          have r_c2 := fun d os => cell_regrown c2 d os
          have r_c3 := fun d os => cell_regrown c3 d os
          have r_c4 := fun d os => cell_regrown c4 d os
          have r_d0 := fun d os => cell_regrown d0 d os
          have r_d1 := fun d os => cell_regrown d1 d os
          have r_d2 := fun d os => cell_regrown d2 d os
          have r_d3 := fun d os => cell_regrown d3 d os
          have r_d4 := fun d os => cell_regrown d4 d os
          refine wp_region_quiet_below (by kernel_rfl) (by kernel_rfl) ?_
          repeat (go_big_quiet_step ((go_at_call 59; go_must (exact rCovers_at _ _ _ _ _ _ _ _ _ _ _ _ _))))
          refine wpQuiet_nil ?_
          intro _ hw'
          obtain ⟨⟨dq, osq⟩, hw''⟩ := hw'
          subst hw''
          have hb := below_regrown wr dq osq
          have HB4 := Lib.hid ((HZ.out).trans (hb.mono (by first | exact Nat.le_refl _ | omega | (simp; done) | (simp; omega))))
          have HV5 := Lib.hid (HVZ.out.on hb)
          have HB5 := Lib.hid (HBZ.out.trans (hb.mono hz2z))
          clear hb r_c0 r_c1 r_c2 r_c3 r_c4 r_d0 r_d1 r_d2 r_d3 r_d4 c0 c1 c2 c3 c4 d0 d1 d2 d3 d4
          generalize Go.Sort.grow (redrawn wr dq) osq = w4 at *
          have hz4 : w.heap.size ≤ w4.heap.size := HB4.out.size
          cases hcv : (Rule.mk al2 ad2 bi2 lo2 hi2).cv ⟨al, ad, bi, lo, hi'⟩
          · have HC := Lib.hid hcv
            clear hcv
            go_wp2_with fail
            go_roundw
            case rel => exact ⟨m + 1, by omega, by go_num, by rw [HS.out, HC.out]; simp, HB5.out⟩
            case measure => simp [intOf]; omega
          · have HC := Lib.hid hcv
            clear hcv
            go_wp2_with fail
            go_roundw
            case rel => exact ⟨m + 1, by omega, by go_num, by rw [HS.out, HC.out]; simp, HB5.out⟩
            case measure => simp [intOf]; omega
        · obtain rfl : m = k := by omega
          rw [anyC_dead HRR.out]
          cases hd : isDead l m
          · have HD := Lib.hid (deadI_no hd)
            clear hd
            go_wp2_with fail
            go_roundw
            case rel => exact ⟨m + 1, by omega, by go_num, by rw [HD.out]; exact HVZ.out, HZ.out⟩
            case measure => simp [intOf]; omega
          · have HD := Lib.hid (deadI_yes hd)
            clear hd
            go_wp2_with (at_builtin; go_loud (refine wpList_append_own _ rfl (.tmp 29) (.tmp 31) 56 rfl w.heap.size 3 i0 (.int .i64 0) 1 8 Tryd.underlying56 ih iz0 iz1 iz2 rfl (by decide) _ (deadI l m).length (ivals (deadI l m)) rfl (HVZ.out.alloc _) ⟨wr.heap.size, 0, none⟩ 1 1 [.int .i64 (m : Int)] rfl rfl (cells_new_at rfl) (by intro u hu; simp at hu; subst hu; rfl) (by simp only [maxLen]; omega) (by omega) (by simp; omega) ?_); intro v' wn hown1 hgr hiff; clear hiff; have HG := Lib.hid (And.intro hown1 hgr); clear hown1 hgr)
            have hlow : Below w.heap.size w wn := ((HZ.out).alloc (by omega) _).grown HG.out.2 (by simp; omega) (fun kk hkk => (HVZ.out.lt kk hkk).1)
            have hown := HG.out.1
            have HF := Lib.hid (And.intro (OwnI.push hown) hlow)
            clear hlow hown HG
            go_wp2_with fail
            go_roundw
            case rel => exact ⟨m + 1, by omega, by go_num, by rw [HD.out]; exact HF.out.1, HF.out.2⟩
            case measure => simp [intOf]; omega
    · obtain rfl : k = l.length := by omega
      clear hbr hv
      go_wp2_with fail
      go_ret
      exact ⟨_, rfl, HV.out, HR.out⟩
end Go.Proofs.YtpkekfhnpcjgkaaDoor
