/- The reference's Next. -/
import Derived.Test.YtbofclohnmojmaaGreatDoorRB3
namespace Go.Proofs.YtbofclohnmojmaaGreatDoor
open Go.RowKit
open Go.Sort (grow)

section
variable {f : Nat} {A : Option Addr} {c : Nat} {v : List Cel}
theorem vx_pl {k i : Int} {s : ByteArray} {n : Int} {l : List Cel} (h5 : k ≠ 5) (h6 : k ≠ 6) (N : Nat) : ixR N (vx (f + 1) (⟨k, i, s, n⟩ :: l)) = if plI k i s n = true then ((N - l.length : Nat) : Int) else -1 := by
  rw [vx]
  show ixR N (if plI k i s n = false then none else if k = 5 then _ else if k = 6 then _ else _) = _
  cases hp : plI k i s n with
  | false => rw [if_pos rfl, if_neg (by decide)]; rfl
  | true => rw [if_neg (by decide), if_neg h5, if_neg h6, if_pos rfl]; rfl
theorem vx_no {k i : Int} {s : ByteArray} {n : Int} {l : List Cel} (N : Nat) (h : plI k i s n = false) : ixR N (vx (f + 1) (⟨k, i, s, n⟩ :: l)) = -1 := by
  rw [vx]
  show ixR N (if plI k i s n = false then none else _) = _
  rw [if_pos h]
  rfl
theorem vx_5 {i : Int} {s : ByteArray} {n : Int} {l : List Cel} (N : Nat) (h : plI 5 i s n = true) : ixR N (vx (f + 1) (⟨5, i, s, n⟩ :: l)) = ixR N (els (vx f) n.toNat l) := by
  rw [vx]
  show ixR N (if plI 5 i s n = false then none else _) = _
  rw [if_neg (by rw [h]; decide), if_pos rfl]
  cases els (vx f) n.toNat l with
  | none => rfl
  | some R => rfl
theorem vx_6 {i : Int} {s : ByteArray} {n : Int} {l : List Cel} (N : Nat) (h : plI 6 i s n = true) : ixR N (vx (f + 1) (⟨6, i, s, n⟩ :: l)) = ixR N (prs (vx f) n.toNat false ⟨#[]⟩ l) := by
  rw [vx]
  show ixR N (if plI 6 i s n = false then none else _) = _
  rw [if_neg (by rw [h]; decide), if_neg (show ¬ (6 : Int) = 5 by decide), if_pos rfl]
  cases prs (vx f) n.toNat false ⟨#[]⟩ l with
  | none => rfl
  | some R => rfl
set_option maxHeartbeats 16000000 in
set_option maxRecDepth 20000 in
theorem NxC.succ (hN : NxC f A c v) (hok : ∀ x ∈ v, okC x) (hv : v.length ≤ 3518437208780) : NxC (f + 1) A c v := by
  intro ix w hi hf hl
  have HN := Lib.hid hN
  have HL := Lib.hid hl
  have HOK := Lib.hid hok
  clear hN hl
  by_cases hlt : ix < v.length
  · have hx := List.getElem?_eq_getElem hlt
    obtain ⟨b, o, rfl, hbB, q0, q1, q2, q3⟩ := HL.out.cell hx
    have HD := Lib.hid (drop_cons2 hx)
    obtain ⟨-, hn9, hxs⟩ := hok _ (List.getElem_mem hlt)
    clear hx hok
    generalize v[ix] = x at *
    obtain ⟨k, i, s, n⟩ := x
    simp only at q0 q1 q2 q3 hxs hn9
    have hn9 := hn9.2
    have HV6 := Lib.hid (fun (h : plI 6 i s n = true) (hk : k = 6) => (by rw [HD.out, hk]; exact vx_6 (f := f) v.length h : ixR v.length (vx (f + 1) (v.drop ix)) = ixR v.length (prs (vx f) n.toNat false ⟨#[]⟩ (v.drop (ix + 1)))))
    have HV5 := Lib.hid (fun (h : plI 5 i s n = true) (hk : k = 5) => (by rw [HD.out, hk]; exact vx_5 (f := f) v.length h : ixR v.length (vx (f + 1) (v.drop ix)) = ixR v.length (els (vx f) n.toNat (v.drop (ix + 1)))))
    have HV := Lib.hid (show (k ≠ 5 ∧ k ≠ 6) ∨ plI k i s n = false → ixR v.length (vx (f + 1) (v.drop ix)) = if plI k i s n = true then ((ix : Int) + 1) else -1 from by
      intro h
      rw [HD.out]
      rcases h with ⟨h5, h6⟩ | h
      · rw [vx_pl h5 h6, List.length_drop]
        split
        · omega
        · rfl
      · rw [vx_no _ h, if_neg (by rw [h]; decide)])
    have HFD := Lib.hid (show (v.drop (ix + 1)).length < f by rw [List.length_drop] at hf ⊢; omega)
    have HA := Lib.hid (show -9223372036854775808 ≤ (ix : Int) + 1 ∧ (ix : Int) + 1 ≤ 9223372036854775807 by omega)
    have hjI : (((ix + 1 : Nat) : Int)) = (ix : Int) + 1 := by omega
    have dj : decide ((v.length : Int) ≤ (ix : Int)) = false := decide_eq_false (by omega)
    have djn : decide (v.length ≤ ix) = false := decide_eq_false (by omega)
    have dj2 : ((ix : Int) < v.length) := by omega
    have hj0 : (0 : Int) ≤ ix := by omega
    have dz : decide ((ix : Int) < 0) = false := decide_eq_false (by omega)
    clear hf
    go_enter Tryz.func111, Tryz.ntmps111
    by_cases h1 : k = 1
    · subst h1
      by_cases h_i0 : i = 0
      · have f_i0 : (i == 0) = true := beq_iff_eq.2 h_i0
        by_cases h_se : s.size = 0
        · have f_se := isEmpty_of h_se
          by_cases h_n0 : n = 0
          · have f_n0 : (n == 0) = true := beq_iff_eq.2 h_n0
            have HE := Lib.hid (show true = plI 1 i s n by first | (unfold plI ebS; simp_all; done) | (unfold plI; simp_all; done))
            clear h_n0
            clear h_se
            clear h_i0
            go_wp2_with fail
            refine (after_any true ix _ HA.out.1 HA.out.2).mono ?_
            rintro e wq ⟨rfl, hq⟩
            obtain rfl := hq.symm
            go_wp2_with fail
            go_ret
            exact ⟨ret_int (by rw [HV.out (.inl ⟨by decide, by decide⟩), ← HE.out]; rfl), al_new w _⟩
          · have f_n0 : (n == 0) = false := beq_eq_false_iff_ne.2 h_n0
            have HE := Lib.hid (show false = plI 1 i s n by first | (unfold plI ebS; simp_all; done) | (unfold plI; simp_all; done))
            clear h_n0
            clear h_se
            clear h_i0
            go_wp2_with fail
            refine (after_any false ix _ HA.out.1 HA.out.2).mono ?_
            rintro e wq ⟨rfl, hq⟩
            obtain rfl := hq.symm
            go_wp2_with fail
            go_ret
            exact ⟨ret_int (by rw [HV.out (.inl ⟨by decide, by decide⟩), ← HE.out]; rfl), al_new w _⟩
        · have f_se := isEmpty_not (s := s) (by omega)
          have HE := Lib.hid (show false = plI 1 i s n by first | (unfold plI ebS; simp_all; done) | (unfold plI; simp_all; done))
          clear h_se
          clear h_i0
          go_wp2_with fail
          refine (after_any false ix _ HA.out.1 HA.out.2).mono ?_
          rintro e wq ⟨rfl, hq⟩
          obtain rfl := hq.symm
          go_wp2_with fail
          go_ret
          exact ⟨ret_int (by rw [HV.out (.inl ⟨by decide, by decide⟩), ← HE.out]; rfl), al_new w _⟩
      · have f_i0 : (i == 0) = false := beq_eq_false_iff_ne.2 h_i0
        have HE := Lib.hid (show false = plI 1 i s n by first | (unfold plI ebS; simp_all; done) | (unfold plI; simp_all; done))
        clear h_i0
        go_wp2_with fail
        refine (after_any false ix _ HA.out.1 HA.out.2).mono ?_
        rintro e wq ⟨rfl, hq⟩
        obtain rfl := hq.symm
        go_wp2_with fail
        go_ret
        exact ⟨ret_int (by rw [HV.out (.inl ⟨by decide, by decide⟩), ← HE.out]; rfl), al_new w _⟩
    · have b1 : (k == 1) = false := beq_eq_false_iff_ne.2 h1
      by_cases h2 : k = 2
      · subst h2
        by_cases h_i0 : i = 0
        · have f_i0 : (i == 0) = true := beq_iff_eq.2 h_i0
          by_cases h_se : s.size = 0
          · have f_se := isEmpty_of h_se
            by_cases h_n0 : n = 0
            · have f_n0 : (n == 0) = true := beq_iff_eq.2 h_n0
              have HE := Lib.hid (show true = plI 2 i s n by first | (unfold plI ebS; simp_all; done) | (unfold plI; simp_all; done))
              clear h_n0
              clear h_se
              clear h_i0
              go_wp2_with fail
              refine (after_any true ix _ HA.out.1 HA.out.2).mono ?_
              rintro e wq ⟨rfl, hq⟩
              obtain rfl := hq.symm
              go_wp2_with fail
              go_ret
              exact ⟨ret_int (by rw [HV.out (.inl ⟨by decide, by decide⟩), ← HE.out]; rfl), al_new w _⟩
            · have f_n0 : (n == 0) = false := beq_eq_false_iff_ne.2 h_n0
              have HE := Lib.hid (show false = plI 2 i s n by first | (unfold plI ebS; simp_all; done) | (unfold plI; simp_all; done))
              clear h_n0
              clear h_se
              clear h_i0
              go_wp2_with fail
              refine (after_any false ix _ HA.out.1 HA.out.2).mono ?_
              rintro e wq ⟨rfl, hq⟩
              obtain rfl := hq.symm
              go_wp2_with fail
              go_ret
              exact ⟨ret_int (by rw [HV.out (.inl ⟨by decide, by decide⟩), ← HE.out]; rfl), al_new w _⟩
          · have f_se := isEmpty_not (s := s) (by omega)
            have HE := Lib.hid (show false = plI 2 i s n by first | (unfold plI ebS; simp_all; done) | (unfold plI; simp_all; done))
            clear h_se
            clear h_i0
            go_wp2_with fail
            refine (after_any false ix _ HA.out.1 HA.out.2).mono ?_
            rintro e wq ⟨rfl, hq⟩
            obtain rfl := hq.symm
            go_wp2_with fail
            go_ret
            exact ⟨ret_int (by rw [HV.out (.inl ⟨by decide, by decide⟩), ← HE.out]; rfl), al_new w _⟩
        · have f_i0 : (i == 0) = false := beq_eq_false_iff_ne.2 h_i0
          by_cases h_i1 : i = 1
          · have f_i1 : (i == 1) = true := beq_iff_eq.2 h_i1
            by_cases h_se : s.size = 0
            · have f_se := isEmpty_of h_se
              by_cases h_n0 : n = 0
              · have f_n0 : (n == 0) = true := beq_iff_eq.2 h_n0
                have HE := Lib.hid (show true = plI 2 i s n by first | (unfold plI ebS; simp_all; done) | (unfold plI; simp_all; done))
                clear h_n0
                clear h_se
                clear h_i1
                clear h_i0
                go_wp2_with fail
                refine (after_any true ix _ HA.out.1 HA.out.2).mono ?_
                rintro e wq ⟨rfl, hq⟩
                obtain rfl := hq.symm
                go_wp2_with fail
                go_ret
                exact ⟨ret_int (by rw [HV.out (.inl ⟨by decide, by decide⟩), ← HE.out]; rfl), al_new w _⟩
              · have f_n0 : (n == 0) = false := beq_eq_false_iff_ne.2 h_n0
                have HE := Lib.hid (show false = plI 2 i s n by first | (unfold plI ebS; simp_all; done) | (unfold plI; simp_all; done))
                clear h_n0
                clear h_se
                clear h_i1
                clear h_i0
                go_wp2_with fail
                refine (after_any false ix _ HA.out.1 HA.out.2).mono ?_
                rintro e wq ⟨rfl, hq⟩
                obtain rfl := hq.symm
                go_wp2_with fail
                go_ret
                exact ⟨ret_int (by rw [HV.out (.inl ⟨by decide, by decide⟩), ← HE.out]; rfl), al_new w _⟩
            · have f_se := isEmpty_not (s := s) (by omega)
              have HE := Lib.hid (show false = plI 2 i s n by first | (unfold plI ebS; simp_all; done) | (unfold plI; simp_all; done))
              clear h_se
              clear h_i1
              clear h_i0
              go_wp2_with fail
              refine (after_any false ix _ HA.out.1 HA.out.2).mono ?_
              rintro e wq ⟨rfl, hq⟩
              obtain rfl := hq.symm
              go_wp2_with fail
              go_ret
              exact ⟨ret_int (by rw [HV.out (.inl ⟨by decide, by decide⟩), ← HE.out]; rfl), al_new w _⟩
          · have f_i1 : (i == 1) = false := beq_eq_false_iff_ne.2 h_i1
            have HE := Lib.hid (show false = plI 2 i s n by first | (unfold plI ebS; simp_all; done) | (unfold plI; simp_all; done))
            clear h_i1
            clear h_i0
            go_wp2_with fail
            refine (after_any false ix _ HA.out.1 HA.out.2).mono ?_
            rintro e wq ⟨rfl, hq⟩
            obtain rfl := hq.symm
            go_wp2_with fail
            go_ret
            exact ⟨ret_int (by rw [HV.out (.inl ⟨by decide, by decide⟩), ← HE.out]; rfl), al_new w _⟩
      · have b2 : (k == 2) = false := beq_eq_false_iff_ne.2 h2
        by_cases h3 : k = 3
        · subst h3
          by_cases h_se : s.size = 0
          · have f_se := isEmpty_of h_se
            by_cases h_n0 : n = 0
            · have f_n0 : (n == 0) = true := beq_iff_eq.2 h_n0
              have HE := Lib.hid (show true = plI 3 i s n by first | (unfold plI ebS; simp_all; done) | (unfold plI; simp_all; done))
              clear h_n0
              clear h_se
              go_wp2_with fail
              refine (after_any true ix _ HA.out.1 HA.out.2).mono ?_
              rintro e wq ⟨rfl, hq⟩
              obtain rfl := hq.symm
              go_wp2_with fail
              go_ret
              exact ⟨ret_int (by rw [HV.out (.inl ⟨by decide, by decide⟩), ← HE.out]; rfl), al_new w _⟩
            · have f_n0 : (n == 0) = false := beq_eq_false_iff_ne.2 h_n0
              have HE := Lib.hid (show false = plI 3 i s n by first | (unfold plI ebS; simp_all; done) | (unfold plI; simp_all; done))
              clear h_n0
              clear h_se
              go_wp2_with fail
              refine (after_any false ix _ HA.out.1 HA.out.2).mono ?_
              rintro e wq ⟨rfl, hq⟩
              obtain rfl := hq.symm
              go_wp2_with fail
              go_ret
              exact ⟨ret_int (by rw [HV.out (.inl ⟨by decide, by decide⟩), ← HE.out]; rfl), al_new w _⟩
          · have f_se := isEmpty_not (s := s) (by omega)
            have HE := Lib.hid (show false = plI 3 i s n by first | (unfold plI ebS; simp_all; done) | (unfold plI; simp_all; done))
            clear h_se
            go_wp2_with fail
            refine (after_any false ix _ HA.out.1 HA.out.2).mono ?_
            rintro e wq ⟨rfl, hq⟩
            obtain rfl := hq.symm
            go_wp2_with fail
            go_ret
            exact ⟨ret_int (by rw [HV.out (.inl ⟨by decide, by decide⟩), ← HE.out]; rfl), al_new w _⟩
        · have b3 : (k == 3) = false := beq_eq_false_iff_ne.2 h3
          by_cases h4 : k = 4
          · subst h4
            have HE := Lib.hid (show kyI 4 i s n = plI 4 i s n by unfold kyI plI; simp)
            go_wp2_with fail
            refine (key_any 4 i s n _ (by omega)).mono ?_
            rintro e w2 ⟨rfl, hb2⟩
            have HB2 := Lib.hid ((al_new w _).trans (hb2.mono (by simp)))
            clear hb2
            generalize kyI 4 i s n = kb at *
            cases kb
            all_goals
              go_wp2_with fail
              refine (after_any _ ix _ HA.out.1 HA.out.2).mono ?_
              rintro e wq ⟨rfl, hq⟩
              obtain rfl := hq.symm
              go_wp2_with fail
              go_ret
              exact ⟨ret_int (by rw [HV.out (.inl ⟨by decide, by decide⟩), ← HE.out]; rfl), HB2.out⟩
          · have b4 : (k == 4) = false := beq_eq_false_iff_ne.2 h4
            by_cases h5 : k = 5
            · subst h5
              by_cases h_i0 : i = 0
              · have f_i0 : (i == 0) = true := beq_iff_eq.2 h_i0
                by_cases h_se : s.size = 0
                · have f_se := isEmpty_of h_se
                  by_cases h_ng : 0 ≤ n
                  · have f_ng : decide (0 ≤ n) = true := decide_eq_true h_ng
                    have HE := Lib.hid (show true = plI 5 i s n by first | (unfold plI ebS; simp_all; done) | (unfold plI; simp_all; done))
                    have HC := Lib.hid (elements_any HN.out (ix + 1) n _ (by omega) HFD.out hn9 (HL.out.on (al_new w (.cells #[.int .i64 5, .int .i64 i, .string s, .int .i64 n] 94))))
                    have HJ := Lib.hid hjI
                    rw [hjI] at HC
                    have HVF := Lib.hid (HV5.out HE.out.symm rfl)
                    clear h_ng
                    clear h_se
                    clear h_i0
                    obtain ⟨wj1, wj2⟩ := w64 (x := (ix : Int) + 1) HA.out.1 HA.out.2
                    clear hjI
                    go_wp2_with fail
                    clear wj1 wj2
                    refine HC.out.mono ?_
                    rintro e w3 ⟨rfl, hb3⟩
                    have HB3 := Lib.hid ((al_new w _).trans (hb3.mono (by simp)))
                    clear hb3
                    go_wp2_with fail
                    go_ret
                    exact ⟨ret_int HVF.out.symm, HB3.out⟩
                  · have f_ng : decide (0 ≤ n) = false := decide_eq_false h_ng
                    have HE := Lib.hid (show false = plI 5 i s n by first | (unfold plI ebS; simp_all; done) | (unfold plI; simp_all; done))
                    clear h_ng
                    clear h_se
                    clear h_i0
                    go_wp2_with fail
                    go_ret
                    exact ⟨ret_int (by rw [HV.out (.inr HE.out.symm), ← HE.out]; rfl), al_new w _⟩
                · have f_se := isEmpty_not (s := s) (by omega)
                  have HE := Lib.hid (show false = plI 5 i s n by first | (unfold plI ebS; simp_all; done) | (unfold plI; simp_all; done))
                  clear h_se
                  clear h_i0
                  go_wp2_with fail
                  go_ret
                  exact ⟨ret_int (by rw [HV.out (.inr HE.out.symm), ← HE.out]; rfl), al_new w _⟩
              · have f_i0 : (i == 0) = false := beq_eq_false_iff_ne.2 h_i0
                have HE := Lib.hid (show false = plI 5 i s n by first | (unfold plI ebS; simp_all; done) | (unfold plI; simp_all; done))
                clear h_i0
                go_wp2_with fail
                go_ret
                exact ⟨ret_int (by rw [HV.out (.inr HE.out.symm), ← HE.out]; rfl), al_new w _⟩
            · have b5 : (k == 5) = false := beq_eq_false_iff_ne.2 h5
              by_cases h6 : k = 6
              · subst h6
                by_cases h_i0 : i = 0
                · have f_i0 : (i == 0) = true := beq_iff_eq.2 h_i0
                  by_cases h_se : s.size = 0
                  · have f_se := isEmpty_of h_se
                    by_cases h_ng : 0 ≤ n
                    · have f_ng : decide (0 ≤ n) = true := decide_eq_true h_ng
                      have HE := Lib.hid (show true = plI 6 i s n by first | (unfold plI ebS; simp_all; done) | (unfold plI; simp_all; done))
                      have HC := Lib.hid (pairs_any HN.out HOK.out (ix + 1) n _ (by omega) hv HFD.out hn9 (HL.out.on (al_new w (.cells #[.int .i64 6, .int .i64 i, .string s, .int .i64 n] 94))))
                      have HJ := Lib.hid hjI
                      rw [hjI] at HC
                      have HVF := Lib.hid (HV6.out HE.out.symm rfl)
                      clear h_ng
                      clear h_se
                      clear h_i0
                      obtain ⟨wj1, wj2⟩ := w64 (x := (ix : Int) + 1) HA.out.1 HA.out.2
                      clear hjI
                      go_wp2_with fail
                      clear wj1 wj2
                      refine HC.out.mono ?_
                      rintro e w3 ⟨rfl, hb3⟩
                      have HB3 := Lib.hid ((al_new w _).trans (hb3.mono (by simp)))
                      clear hb3
                      go_wp2_with fail
                      go_ret
                      exact ⟨ret_int HVF.out.symm, HB3.out⟩
                    · have f_ng : decide (0 ≤ n) = false := decide_eq_false h_ng
                      have HE := Lib.hid (show false = plI 6 i s n by first | (unfold plI ebS; simp_all; done) | (unfold plI; simp_all; done))
                      clear h_ng
                      clear h_se
                      clear h_i0
                      go_wp2_with fail
                      go_ret
                      exact ⟨ret_int (by rw [HV.out (.inr HE.out.symm), ← HE.out]; rfl), al_new w _⟩
                  · have f_se := isEmpty_not (s := s) (by omega)
                    have HE := Lib.hid (show false = plI 6 i s n by first | (unfold plI ebS; simp_all; done) | (unfold plI; simp_all; done))
                    clear h_se
                    clear h_i0
                    go_wp2_with fail
                    go_ret
                    exact ⟨ret_int (by rw [HV.out (.inr HE.out.symm), ← HE.out]; rfl), al_new w _⟩
                · have f_i0 : (i == 0) = false := beq_eq_false_iff_ne.2 h_i0
                  have HE := Lib.hid (show false = plI 6 i s n by first | (unfold plI ebS; simp_all; done) | (unfold plI; simp_all; done))
                  clear h_i0
                  go_wp2_with fail
                  go_ret
                  exact ⟨ret_int (by rw [HV.out (.inr HE.out.symm), ← HE.out]; rfl), al_new w _⟩
              · have b6 : (k == 6) = false := beq_eq_false_iff_ne.2 h6
                have HE := Lib.hid (show false = plI k i s n by first | (unfold plI ebS; simp_all; done) | (unfold plI; simp_all; done))
                go_wp2_with fail
                go_ret
                exact ⟨ret_int (by rw [HV.out (.inr HE.out.symm), ← HE.out]; rfl), al_new w _⟩
  · have HD := Lib.hid (show v.drop ix = [] from List.drop_of_length_le (by omega))
    have dj : decide ((v.length : Int) ≤ (ix : Int)) = true := decide_eq_true (by omega)
    have djn : decide (v.length ≤ ix) = true := decide_eq_true (by omega)
    have dz : decide ((ix : Int) < 0) = false := decide_eq_false (by omega)
    rw [HD.out]
    go_enter Tryz.func111, Tryz.ntmps111
    go_wp2_with fail
    go_ret
    exact ⟨rfl, Below.refl _ _⟩
theorem Next_all (hok : ∀ x ∈ v, okC x) (hv : v.length ≤ 3518437208780) : ∀ f : Nat, NxC f A c v
  | 0 => fun i w _ hf => by omega
  | f + 1 => (Next_all hok hv f).succ hok hv
end
end Go.Proofs.YtbofclohnmojmaaGreatDoor
