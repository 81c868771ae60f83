/- The reference's formed and Check. -/
import Derived.Test.YtbofclohnmojmaaGreatDoorRB7
import Derived.Test.YtbofclohnmojmaaGreatDoorY7
namespace Go.Proofs.YtbofclohnmojmaaGreatDoor
open Go.RowKit
open Go.Sort (grow)

def fmB (v : List Cel) : Bool := match vx (v.length + 1) v with
  | some ([], _, _) => true
  | _ => false
theorem fm_ix {v : List Cel} : (decide (0 < v.length) && decide (ixR v.length (vx (v.length + 1) v) = (v.length : Int))) = fmB v := by
  unfold fmB
  cases h : vx (v.length + 1) v with
  | none =>
    show (decide (0 < v.length) && decide ((-1 : Int) = (v.length : Int))) = false
    rw [decide_eq_false (show ¬ (-1 : Int) = (v.length : Int) by omega), Bool.and_false]
  | some R =>
    obtain ⟨l1, a, b⟩ := R
    have hs := vx_suf (by omega) h
    cases l1 with
    | nil =>
      show (decide (0 < v.length) && decide (((v.length - ([] : List Cel).length : Nat) : Int) = (v.length : Int))) = true
      rw [decide_eq_true (by simpa using hs.2), decide_eq_true (by simp)]
      rfl
    | cons x l1 =>
      show (decide (0 < v.length) && decide (((v.length - (x :: l1).length : Nat) : Int) = (v.length : Int))) = false
      rw [decide_eq_false (show ¬ ((v.length - (x :: l1).length : Nat) : Int) = (v.length : Int) by have h2 := hs.2; simp only [List.length_cons] at h2 ⊢; omega), Bool.and_false]
theorem beq_dec (a b : Int) : (a == b) = decide (a = b) := by
  by_cases h : a = b
  · rw [decide_eq_true h, h]; simp
  · rw [decide_eq_false h]; simpa using h
section
variable {A : Option Addr} {c : Nat} {v : List Cel}
theorem formed_any (hok : ∀ x ∈ v, okC x) (hv : v.length ≤ 3518437208780) (w : World) (hl : CelL w w.heap.size A v) :
    Calls Tryz.prog 95 #[.slice A v.length c] w fun e w' => e = .returned (.bool (fmB v)) ∧ Below w.heap.size w w' := by
  have HC := Lib.hid (Next_all (A := A) (c := c) hok hv (v.length + 1) 0 w (Nat.zero_le _) (by rw [List.drop_zero]; omega) hl)
  rw [List.drop_zero] at HC
  have HF := Lib.hid (fm_ix (v := v))
  clear hl hok
  by_cases h0 : 0 < v.length
  · have d1 : decide ((0 : Int) < (v.length : Int)) = true := decide_eq_true (by omega)
    have d2 : decide (0 < v.length) = true := decide_eq_true h0
    rw [d2, Bool.true_and] at HF
    have HB := Lib.hid (beq_dec (ixR v.length (vx (v.length + 1) v)) (v.length : Int))
    clear h0
    generalize ixR v.length (vx (v.length + 1) v) = z at *
    go_enter Tryz.func95, Tryz.ntmps95
    go_wp2_with fail
    refine HC.out.mono ?_
    rintro e w1 ⟨rfl, hb⟩
    have HB1 := Lib.hid hb
    clear hb
    go_wp2_with fail
    go_ret
    exact ⟨ret_bool (by rw [← HF.out, ← HB.out]), HB1.out⟩
  · have d1 : decide ((0 : Int) < (v.length : Int)) = false := decide_eq_false (by omega)
    have d2 : decide (0 < v.length) = false := decide_eq_false h0
    rw [d2, Bool.false_and] at HF
    go_enter Tryz.func95, Tryz.ntmps95
    go_wp2_with fail
    go_ret
    exact ⟨ret_bool HF.out, Below.refl _ _⟩
theorem out_step {k : Nat} {x : Cel} (h : v[k]? = some x) : outB (v.take (k + 1)) = (outB (v.take k) || (decide (x.k = 3) && !bndB x.i)) := by
  unfold outB
  rw [List.take_add_one, h, List.any_append]
  simp
theorem out_yes {x : Cel} (h : x ∈ v) (hx : (decide (x.k = 3) && !bndB x.i) = true) : outB v = true := by
  unfold outB
  rw [List.any_eq_true]
  exact ⟨x, h, hx⟩
theorem lon_step {k : Nat} {x : Cel} (h : v[k]? = some x) : lonB (v.take (k + 1)) = (lonB (v.take k) || decide (200 < x.s.size)) := by
  unfold lonB
  rw [List.take_add_one, h, List.any_append]
  simp
theorem lon_yes {x : Cel} (h : x ∈ v) (hx : 200 < x.s.size) : lonB v = true := by
  unfold lonB
  rw [List.any_eq_true]
  exact ⟨x, h, decide_eq_true hx⟩
theorem lon_no (h : lonB v = false) : ∀ x ∈ v, x.s.size ≤ 200 := by
  intro x hx
  unfold lonB at h
  rw [List.any_eq_false] at h
  have := h x hx
  simpa using this
theorem fm_no (h : fmB v = false) : chkR v = 1 := by
  unfold fmB at h
  unfold chkR
  split
  · rename_i heq; rw [heq] at h; cases h
  · rfl
theorem fm_yes (h : fmB v = true) : ∃ a b, vx (v.length + 1) v = some ([], a, b) ∧ chkR v = if outB v = true then 2 else if 200 < v.length then 3 else if 8 < a then 3 else if lonB v = true then 3 else if 4000 < b then 3 else 0 := by
  unfold fmB at h
  split at h
  · rename_i a b heq
    exact ⟨a, b, heq, by unfold chkR; rw [heq]⟩
  · cases h
set_option maxHeartbeats 8000000 in
theorem rCheck_any (hok : ∀ x ∈ v, okC x) (hv : v.length ≤ 3518437208780) (w : World) (hl : CelL w w.heap.size A v) (hX : LaidW w) :
    Calls Tryz.prog 83 #[.slice A v.length c] w fun e w' => e = .returned (.int .i64 (chkR v)) ∧ Below w.heap.size w w' := by
  have HC := Lib.hid (formed_any (A := A) (c := c) hok hv w hl)
  have HL := Lib.hid hl
  have HX := Lib.hid hX.below_
  have HOK := Lib.hid hok
  clear hl hX hok
  cases hf : fmB v with
  | false =>
    have HE := Lib.hid (fm_no hf)
    rw [hf] at HC
    clear hf
    go_enter Tryz.func83, Tryz.ntmps83
    go_wp2_with fail
    refine HC.out.mono ?_
    rintro e w1 ⟨rfl, hb⟩
    have HB1 := Lib.hid hb
    clear hb
    go_wp2_with fail
    go_ret
    exact ⟨ret_int HE.out.symm, HB1.out⟩
  | true =>
    obtain ⟨a, b, hvx, hE⟩ := fm_yes hf
    have HE := Lib.hid hE
    have HVX := Lib.hid hvx
    rw [hf] at HC
    clear hf hE hvx
    go_enter Tryz.func83, Tryz.ntmps83
    go_wp2_with fail
    refine HC.out.mono ?_
    rintro e w1 ⟨rfl, hb⟩
    have HB1 := Lib.hid hb
    have HL1 := Lib.hid (HL.out.on hb)
    have HX1 := Lib.hid (HX.out.on hb)
    clear hb HC
    go_wp2_with fail
    go_loop [3] (fun i => ∃ k : Nat, k ≤ v.length ∧ i = .int .i64 k ∧ outB (v.take k) = false) (fun i => v.length - (intOf i).toNat)
    case atStart => exact ⟨0, Nat.zero_le _, rfl, rfl⟩
    case round =>
      obtain ⟨k, hk, rfl, ho⟩ := hrel
      have HO := Lib.hid ho
      clear ho
      by_cases hlt : k < v.length
      · have hx := List.getElem?_eq_getElem hlt
        obtain ⟨b0, o0, rfl, hbB, q0, q1, -, -⟩ := CelL.cell HL1.out hx
        have HS := Lib.hid (out_step hx)
        have HY := Lib.hid (fun h => out_yes (v := v) (List.getElem_mem hlt) h)
        clear hx
        generalize v[k] = x at *
        have hkI : (k : Int) < v.length := by omega
        have hk0 : (0 : Int) ≤ k := by omega
        have HW := Lib.hid (w64 (x := (k : Int) + 1) (by omega) (by omega))
        by_cases h3 : x.k = 3
        · by_cases hlo : x.i < -1000000000000
          · have d1 : decide (x.i < -1000000000000) = true := decide_eq_true hlo
            have HR := Lib.hid (show (2 : Int) = chkR v by rw [HE.out, if_pos (HY.out (by rw [decide_eq_true h3, Bool.true_and]; rw [bnd_no (.inl hlo)]; rfl))])
            rw [h3] at q0
            clear hlo h3
            go_wp2_with fail
            go_ret
            exact ⟨ret_int HR.out, HB1.out⟩
          · have d1 : decide (x.i < -1000000000000) = false := decide_eq_false hlo
            by_cases hhi : 1000000000000 < x.i
            · have d2 : decide (1000000000000 < x.i) = true := decide_eq_true hhi
              have HR := Lib.hid (show (2 : Int) = chkR v by rw [HE.out, if_pos (HY.out (by rw [decide_eq_true h3, Bool.true_and]; rw [bnd_no (.inr hhi)]; rfl))])
              rw [h3] at q0
              clear hlo h3 hhi
              go_wp2_with fail
              go_ret
              exact ⟨ret_int HR.out, HB1.out⟩
            · have d2 : decide (1000000000000 < x.i) = false := decide_eq_false hhi
              have HN := Lib.hid (show outB (v.take (k + 1)) = false by rw [HS.out, HO.out, (bndB_iff x.i).2 ⟨by omega, by omega⟩]; simp)
              rw [h3] at q0
              clear hlo h3 hhi
              obtain ⟨wk1, wk2⟩ := HW.out
              go_wp2_with fail
              clear wk1 wk2
              go_round
              case rel => exact ⟨k + 1, by omega, by first | rfl | go_num, HN.out⟩
              case measure => simp [intOf] <;> omega
        · have d3 : (x.k == 3) = false := beq_eq_false_iff_ne.2 h3
          have HN := Lib.hid (show outB (v.take (k + 1)) = false by rw [HS.out, HO.out, decide_eq_false h3]; rfl)
          clear h3
          obtain ⟨wk1, wk2⟩ := HW.out
          go_wp2_with fail
          clear wk1 wk2
          go_round
          case rel => exact ⟨k + 1, by omega, by first | rfl | go_num, HN.out⟩
          case measure => simp [intOf] <;> omega
      · obtain rfl : k = v.length := by omega
        have hno : outB v = false := by have := HO.out; rwa [List.take_length] at this
        have HE2 := Lib.hid (HE.out.trans (if_neg (by rw [hno]; decide)))
        clear hno
        by_cases h200 : 200 < v.length
        · have d1 : decide ((200 : Int) < (v.length : Int)) = true := decide_eq_true (by omega)
          have d2 : decide (200 < v.length) = true := decide_eq_true h200
          have HR := Lib.hid (show (3 : Int) = chkR v by rw [HE2.out, if_pos h200])
          clear h200
          go_wp2_with fail
          go_ret
          exact ⟨ret_int HR.out, HB1.out⟩
        · have d1 : decide ((200 : Int) < (v.length : Int)) = false := decide_eq_false (by omega)
          have hvs : v.length ≤ 1048576 := by omega
          have d2 : decide (200 < v.length) = false := decide_eq_false h200
          have HE3 := Lib.hid (HE2.out.trans (if_neg h200))
          have hlv := vx_lv _ _ _ _ _ HVX.out
          have HCL := Lib.hid (Levels_all (A := A) (c := c) HOK.out hv (v.length + 1) 0 w1 [] a b (by rw [List.drop_zero]; exact HVX.out) (by rw [List.drop_zero]; omega) HL1.out)
          clear h200
          go_wp2_with fail
          refine HCL.out.mono ?_
          rintro e w2 ⟨rfl, hb⟩
          have HB2 := Lib.hid (HB1.out.trans (hb.mono HB1.out.size))
          have HL2 := Lib.hid (HL1.out.on hb)
          have HX2 := Lib.hid (HX1.out.on (hb.mono HB1.out.size))
          clear hb HCL hlv
          by_cases h8 : 8 < a
          · have d8 : decide (8 < a) = true := decide_eq_true h8
            have HR := Lib.hid (show (3 : Int) = chkR v by rw [HE3.out, if_pos h8])
            clear h8
            go_wp2_with fail
            go_ret
            exact ⟨ret_int HR.out, HB2.out⟩
          · have d8 : decide (8 < a) = false := decide_eq_false h8
            have HE4 := Lib.hid (HE3.out.trans (if_neg h8))
            clear h8
            go_wp2_with fail
            clear d8
            go_loop [4] (fun i => ∃ k : Nat, k ≤ v.length ∧ i = .int .i64 k ∧ lonB (v.take k) = false) (fun i => v.length - (intOf i).toNat)
            case atStart => exact ⟨0, Nat.zero_le _, rfl, rfl⟩
            case round =>
              obtain ⟨k, hk, rfl, ho⟩ := hrel
              have HO := Lib.hid ho
              clear ho
              by_cases hlt : k < v.length
              · have hx := List.getElem?_eq_getElem hlt
                obtain ⟨b0, o0, rfl, hbB, -, -, q2, -⟩ := CelL.cell HL2.out hx
                have HS := Lib.hid (lon_step hx)
                have HY := Lib.hid (fun h => lon_yes (v := v) (List.getElem_mem hlt) h)
                clear hx
                generalize v[k] = x at *
                have hkI : (k : Int) < v.length := by omega
                have hk0 : (0 : Int) ≤ k := by omega
                have HW := Lib.hid (w64 (x := (k : Int) + 1) (by omega) (by omega))
                by_cases hs : 200 < x.s.size
                · have d3 : decide ((200 : Int) < (x.s.size : Int)) = true := decide_eq_true (by omega)
                  have d4 : decide (200 < x.s.size) = true := decide_eq_true hs
                  have HR := Lib.hid (show (3 : Int) = chkR v by rw [HE4.out, if_pos (HY.out hs)])
                  clear hs
                  go_wp2_with fail
                  go_ret
                  exact ⟨ret_int HR.out, HB2.out⟩
                · have d3 : decide ((200 : Int) < (x.s.size : Int)) = false := decide_eq_false (by omega)
                  have d4 : decide (200 < x.s.size) = false := decide_eq_false hs
                  have HN := Lib.hid (show lonB (v.take (k + 1)) = false by rw [HS.out, HO.out, d4]; rfl)
                  clear hs
                  obtain ⟨wk1, wk2⟩ := HW.out
                  go_wp2_with fail
                  clear wk1 wk2
                  go_round
                  case rel => exact ⟨k + 1, by omega, by first | rfl | go_num, HN.out⟩
                  case measure => simp [intOf] <;> omega
              · obtain rfl : k = v.length := by omega
                have hno : lonB v = false := by have := HO.out; rwa [List.take_length] at this
                have HE5 := Lib.hid (HE4.out.trans (if_neg (by rw [hno]; decide)))
                have hsm : ∀ x ∈ v, smC x := fun x hx => ⟨lon_no hno x hx, HOK.out x hx⟩
                have htb := vx_tx _ _ _ _ _ hsm HVX.out
                have HCT := Lib.hid (Text_all (A := A) (c := c) hsm hvs (v.length + 1) 0 w2 [] a b (by rw [List.drop_zero]; exact HVX.out) (by rw [List.drop_zero]; omega) HL2.out HX2.out.at_)
                clear hno htb hsm
                go_wp2_with fail
                refine HCT.out.mono ?_
                rintro e w3 ⟨t, rfl, ht, hb⟩
                have HB3 := Lib.hid (HB2.out.trans (hb.mono HB2.out.size))
                clear hb HCT
                by_cases h4 : 4000 < b
                · have d5 : decide ((4000 : Int) < (t.size : Int)) = true := decide_eq_true (by omega)
                  have d6 : decide (4000 < t.size) = true := decide_eq_true (by omega)
                  have HR := Lib.hid (show (3 : Int) = chkR v by rw [HE5.out, if_pos h4])
                  clear h4 ht
                  go_wp2_with fail
                  go_ret
                  exact ⟨ret_int HR.out, HB3.out⟩
                · have d5 : decide ((4000 : Int) < (t.size : Int)) = false := decide_eq_false (by omega)
                  have d6 : decide (4000 < t.size) = false := decide_eq_false (by omega)
                  have HR := Lib.hid (show (0 : Int) = chkR v by rw [HE5.out, if_neg h4])
                  clear h4 ht
                  go_wp2_with fail
                  go_ret
                  exact ⟨ret_int HR.out, HB3.out⟩
end
end Go.Proofs.YtbofclohnmojmaaGreatDoor
