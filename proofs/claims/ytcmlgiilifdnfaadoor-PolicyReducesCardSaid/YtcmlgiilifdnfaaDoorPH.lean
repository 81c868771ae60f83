/- The reference's Check; Covers: the program's and the reference's. -/
import Derived.Test.YtcmlgiilifdnfaaDoorPG
namespace Go.Proofs.YtcmlgiilifdnfaaDoor
open Go.RowKit
open Go.Sort (grow)

set_option maxHeartbeats 2000000 in
theorem rCheck_any (s : St) (v : Value) (w : World) (hv : StV w w.heap.size v s) (hz : SzSt s) :
    Calls Tryd.prog 18 #[v] w fun e w' => e = .returned (.int .i64 s.ck) ∧ Below w.heap.size w w' := by
  obtain ⟨A, c, A2, c2, rfl, hl1, hl2⟩ := hv
  obtain ⟨hn1, hn2, hs1, hs2⟩ := hz
  have HL1 := Lib.hid (hl1.on (size_new w (.cells #[.bool s.al, .slice A s.ac.length c, .slice A2 s.re.length c2] 31)))
  have HL2 := Lib.hid (hl2.on (size_new w (.cells #[.bool s.al, .slice A s.ac.length c, .slice A2 s.re.length c2] 31)))
  have HS1 := Lib.hid hs1
  have HS2 := Lib.hid hs2
  have HB0 := Lib.hid (size_new w (.cells #[.bool s.al, .slice A s.ac.length c, .slice A2 s.re.length c2] 31))
  clear hl1 hl2 hs1 hs2
  by_cases h1 : 1 ≤ s.ac.length
  · have d1 : decide ((s.ac.length : Int) < 1) = false := decide_eq_false (by omega)
    by_cases h2 : s.ac.length ≤ 8
    · have d2 : decide ((8 : Int) < s.ac.length) = false := decide_eq_false (by omega)
      have HA := Lib.hid (lenS_yes h1 h2)
      by_cases h3 : 1 ≤ s.re.length
      · have d3 : decide ((s.re.length : Int) < 1) = false := decide_eq_false (by omega)
        by_cases h4 : s.re.length ≤ 8
        · have d4 : decide ((8 : Int) < s.re.length) = false := decide_eq_false (by omega)
          have HR := Lib.hid (lenS_yes h3 h4)
          go_enter Tryd.func18, Tryd.ntmps18
          go_wp2_with fail
          refine (patterns_any A c s.ac _ HL1.out hn1 HS1.out).mono ?_
          rintro e wq ⟨rfl, rfl⟩
          cases hk : okS s.ac
          · have HD := Lib.hid (ck4a (s := s) HA.out HR.out hk)
            clear hk
            go_wp2_with fail
            go_ret
            exact ⟨ret_int HD.out, HB0.out⟩
          · have HK := Lib.hid hk
            clear hk
            go_wp2_with fail
            refine (patterns_any A2 c2 s.re _ HL2.out hn2 HS2.out).mono ?_
            rintro e wq ⟨rfl, rfl⟩
            cases hk2 : okS s.re
            · have HD := Lib.hid (ck4b (s := s) HA.out HR.out hk2)
              clear hk2
              go_wp2_with fail
              go_ret
              exact ⟨ret_int HD.out, HB0.out⟩
            · have HD := Lib.hid (ck0 (s := s) HA.out HR.out HK.out hk2)
              clear hk2
              go_wp2_with fail
              go_ret
              exact ⟨ret_int HD.out, HB0.out⟩
        · have d4 : decide ((8 : Int) < s.re.length) = true := decide_eq_true (by omega)
          have HD := Lib.hid (ck3b (s := s) (lenS_no (by omega)))
          clear h4
          go_enter Tryd.func18, Tryd.ntmps18
          go_wp2_with fail
          all_goals try (exfalso; omega)
          go_ret
          exact ⟨ret_int HD.out, HB0.out⟩
      · have d3 : decide ((s.re.length : Int) < 1) = true := decide_eq_true (by omega)
        have HD := Lib.hid (ck3b (s := s) (lenS_no (by omega)))
        clear h3
        go_enter Tryd.func18, Tryd.ntmps18
        go_wp2_with fail
        all_goals try (exfalso; omega)
        go_ret
        exact ⟨ret_int HD.out, HB0.out⟩
    · have d2 : decide ((8 : Int) < s.ac.length) = true := decide_eq_true (by omega)
      have HD := Lib.hid (ck3a (s := s) (lenS_no (by omega)))
      clear h2
      go_enter Tryd.func18, Tryd.ntmps18
      go_wp2_with fail
      all_goals try (exfalso; omega)
      go_ret
      exact ⟨ret_int HD.out, HB0.out⟩
  · have d1 : decide ((s.ac.length : Int) < 1) = true := decide_eq_true (by omega)
    have HD := Lib.hid (ck3a (s := s) (lenS_no (by omega)))
    clear h1
    go_enter Tryd.func18, Tryd.ntmps18
    go_wp2_with fail
    all_goals try (exfalso; omega)
    go_ret
    exact ⟨ret_int HD.out, HB0.out⟩
theorem ck_ok (s : St) : (s.ck == 0) = s.ok := rfl
theorem ck_cases (s : St) : s.ck = 0 ∨ s.ck = 3 ∨ s.ck = 4 := by unfold St.ck; repeat' split <;> simp
theorem ok_of {s : St} (h : s.ck = 0) : s.ok = true := by unfold St.ok; rw [h]; rfl
theorem nok_of {s : St} (h : s.ck ≠ 0) : s.ok = false := by unfold St.ok; simpa using h
theorem cv_1 {a b : St} (h : a.ck ≠ 0) : false = a.cv b := by unfold St.cv; rw [nok_of h]; simp
theorem cv_2 {a b : St} (h : b.ck ≠ 0) : false = a.cv b := by unfold St.cv; rw [nok_of h]; simp
theorem cv_3 {a b : St} (h : (a.al == b.al) = false) : false = a.cv b := by unfold St.cv; rw [h]; simp
theorem cv_4 {a b : St} (h : wit b.ac a.ac = false) : false = a.cv b := by unfold St.cv; rw [h]; simp
theorem cv_5 {a b : St} (h1 : a.ck = 0) (h2 : b.ck = 0) (h3 : (a.al == b.al) = true) (h4 : wit b.ac a.ac = true) : wit b.re a.re = a.cv b := by
  unfold St.cv; rw [ok_of h1, ok_of h2, h3, h4]; rfl
end Go.Proofs.YtcmlgiilifdnfaaDoor
