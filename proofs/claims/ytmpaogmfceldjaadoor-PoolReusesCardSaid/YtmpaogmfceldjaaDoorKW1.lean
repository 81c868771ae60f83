/- The walks of the small functions of the pools. -/
import Derived.Test.YtmpaogmfceldjaaDoorKM
import Derived.Laws.EntriesVeiled
namespace Go.Proofs.YtmpaogmfceldjaaDoor
open Go.RowKit
open Go.Sort (grow)

theorem instant_any (n : Int) (w : World) : Calls Tryd.prog 30 #[.int .i64 n] w fun e w' => e = .returned (.bool (inB n 0 1073741824)) ∧ w = w' := by
  by_cases h : 0 ≤ n ∧ n ≤ 1073741824
  · have HD := Lib.hid (inB_yes h)
    obtain ⟨h1, h2⟩ := h
    go_enter Tryd.func30, Tryd.ntmps30
    go_wp2
    all_goals try (exfalso; omega)
    go_ret
    exact ⟨ret_bool (by first | (rw [HD.out]; done) | (rw [HD.out]; simp; done) | (rw [HD.out]; simp; omega)), rfl⟩
  · have HD := Lib.hid (inB_no h)
    have h' : n < 0 ∨ 1073741824 < n := by omega
    clear h
    go_enter Tryd.func30, Tryd.ntmps30
    go_wp2
    all_goals
      go_ret
      exact ⟨ret_bool (by first | (rw [HD.out]; done) | (rw [HD.out]; simp; done) | (rw [HD.out]; simp; omega)), rfl⟩
theorem time_any (n : Int) (w : World) : Calls Tryd.prog 32 #[.int .i64 n] w fun e w' => e = .returned (.bool (inB n 0 1073741824)) ∧ w = w' := by
  by_cases h : 0 ≤ n ∧ n ≤ 1073741824
  · have HD := Lib.hid (inB_yes h)
    obtain ⟨h1, h2⟩ := h
    go_enter Tryd.func32, Tryd.ntmps32
    go_wp2
    all_goals try (exfalso; omega)
    go_ret
    exact ⟨ret_bool (by first | (rw [HD.out]; done) | (rw [HD.out]; simp; done) | (rw [HD.out]; simp; omega)), rfl⟩
  · have HD := Lib.hid (inB_no h)
    have h' : n < 0 ∨ 1073741824 < n := by omega
    clear h
    go_enter Tryd.func32, Tryd.ntmps32
    go_wp2
    all_goals
      go_ret
      exact ⟨ret_bool (by first | (rw [HD.out]; done) | (rw [HD.out]; simp; done) | (rw [HD.out]; simp; omega)), rfl⟩
section
variable {w : World} {B p m c : Nat} {A : Option Addr} {s : PS}
theorem made_any (hP : PoolAt w B p m A c s) (h0 : 1 ≤ s.p.mx) : Calls Tryd.prog 46 #[.pointer (some ⟨p, 0, none⟩)] w fun e w' => e = .returned (.bool true) ∧ w = w' := by
  have q1 : w.cell? ⟨p, 1, none⟩ = some (.int .i64 s.p.mx) := hP.blk.cell 1
  have hd : decide (0 < s.p.mx) = true := decide_eq_true (by omega)
  clear hP
  go_enter Tryd.func46, Tryd.ntmps46
  go_wp2
  go_ret
  exact ⟨rfl, rfl⟩
theorem rmade_any (hP : RPoolAt w B p A c s) (h0 : 1 ≤ s.p.mx) : Calls Tryd.prog 47 #[.pointer (some ⟨p, 0, none⟩)] w fun e w' => e = .returned (.bool true) ∧ w = w' := by
  have q1 : w.cell? ⟨p, 1, none⟩ = some (.int .i64 s.p.mx) := hP.blk.cell 1
  have hd : decide (0 < s.p.mx) = true := decide_eq_true (by omega)
  clear hP
  go_enter Tryd.func47, Tryd.ntmps47
  go_wp2
  go_ret
  exact ⟨rfl, rfl⟩
theorem Colds_any (hP : PoolAt w B p m A c s) (h0 : 1 ≤ s.p.mx) : Calls Tryd.prog 25 #[.pointer (some ⟨p, 0, none⟩)] w fun e w' => e = .returned (.int .i64 s.bt) ∧ w = w' := by
  have q1 : w.cell? ⟨p, 6, none⟩ = some (.int .i64 s.bt) := hP.blk.cell 6
  go_enter Tryd.func25, Tryd.ntmps25
  go_wp2_with fail
  refine (made_any hP h0).mono ?_
  rintro e wq ⟨rfl, rfl⟩
  go_wp2
  go_ret
  exact ⟨rfl, rfl⟩
theorem rColds_any (hP : RPoolAt w B p A c s) (h0 : 1 ≤ s.p.mx) : Calls Tryd.prog 26 #[.pointer (some ⟨p, 0, none⟩)] w fun e w' => e = .returned (.int .i64 s.bt) ∧ w = w' := by
  have q1 : w.cell? ⟨p, 7, none⟩ = some (.int .i64 s.bt) := hP.blk.cell 7
  go_enter Tryd.func26, Tryd.ntmps26
  go_wp2_with fail
  refine (rmade_any hP h0).mono ?_
  rintro e wq ⟨rfl, rfl⟩
  go_wp2
  go_ret
  exact ⟨rfl, rfl⟩
theorem ready_any (hP : RPoolAt w B p A c s) (h0 : 1 ≤ s.p.mx) (now : Int) : Calls Tryd.prog 37 #[.pointer (some ⟨p, 0, none⟩), .int .i64 now] w fun e w' => e = .returned (.int .i64 (rdy s now)) ∧ w = w' := by
  have q1 : w.cell? ⟨p, 6, none⟩ = some (.int .i64 s.now) := hP.blk.cell 6
  rcases rdy_cases s now with ⟨h1, h2⟩ | ⟨h1, h2, h3⟩ | ⟨h1, h2, h3⟩
  all_goals
    rw [h1]
    clear h1
    go_enter Tryd.func37, Tryd.ntmps37
    go_wp2_with fail
    refine (rmade_any hP h0).mono ?_
    rintro e wq ⟨rfl, rfl⟩
    go_wp2_with fail
    refine (time_any now _).mono ?_
    rintro e wq ⟨rfl, rfl⟩
    rw [h2]
    go_wp2
    go_ret
    exact ⟨rfl, rfl⟩
end
/-- p.call(now, f) at a pool that was made: f runs only if the time can be accepted. -/
theorem call_any {w : World} {B p m c : Nat} {A : Option Addr} {s : PS} (hP : PoolAt w B p m A c s) (h0 : 1 ≤ s.p.mx) (now : Int) (K : Nat) (hK : ∀ args w, Sem.run Tryd.prog (callFunc K args) w = .ok (.enter K args) w) (caps : Array Value) (F : Int → World → Prop)
    (hf : rdy s now = 0 → Calls Tryd.prog K caps w fun e w' => ∃ n, e = .returned (.int .i64 n) ∧ F n w')
    (hc : ∀ n w', F n w' → ∃ cs : Array Value, Blk w' p 51 cs ∧ cs.size = 9) :
    Calls Tryd.prog 33 #[.pointer (some ⟨p, 0, none⟩), .int .i64 now, .func (.func K) #[] caps] w fun e w' =>
      (rdy s now ≠ 0 ∧ e = .returned (.int .i64 (rdy s now)) ∧ w' = w) ∨ (rdy s now = 0 ∧ ∃ n w1, F n w1 ∧ e = .returned (.int .i64 n) ∧ w' = if n = 0 then w1.setCell ⟨p, 5, none⟩ (.int .i64 now) else w1) := by
  have q1 : w.cell? ⟨p, 5, none⟩ = some (.int .i64 s.now) := hP.blk.cell 5
  rcases rdy_cases s now with ⟨h1, h2⟩ | ⟨h1, h2, h3⟩ | ⟨h1, h2, h3⟩
  · have HP : ∀ w', w' = w → (fun (e : Ending) w' => (rdy s now ≠ 0 ∧ e = .returned (.int .i64 (rdy s now)) ∧ w' = w) ∨ (rdy s now = 0 ∧ ∃ n w1, F n w1 ∧ e = .returned (.int .i64 n) ∧ w' = if n = 0 then w1.setCell ⟨p, 5, none⟩ (.int .i64 now) else w1)) (.returned (.int .i64 2)) w' := fun w' e => .inl ⟨by rw [h1]; decide, by rw [h1], e⟩
    generalize (fun (e : Ending) w' => (rdy s now ≠ 0 ∧ e = .returned (.int .i64 (rdy s now)) ∧ w' = w) ∨ (rdy s now = 0 ∧ ∃ n w1, F n w1 ∧ e = .returned (.int .i64 n) ∧ w' = if n = 0 then w1.setCell ⟨p, 5, none⟩ (.int .i64 now) else w1)) = R at *
    have HP' := Lib.hid HP
    clear hf hc h1 HP
    go_enter Tryd.func33, Tryd.ntmps33
    go_wp2_with fail
    refine (made_any hP h0).mono ?_
    rintro e wq ⟨rfl, rfl⟩
    go_wp2_with fail
    refine (instant_any now _).mono ?_
    rintro e wq ⟨rfl, rfl⟩
    rw [h2]
    go_wp2
    exact HP'.out _ rfl
  · have HP : ∀ w', w' = w → (fun (e : Ending) w' => (rdy s now ≠ 0 ∧ e = .returned (.int .i64 (rdy s now)) ∧ w' = w) ∨ (rdy s now = 0 ∧ ∃ n w1, F n w1 ∧ e = .returned (.int .i64 n) ∧ w' = if n = 0 then w1.setCell ⟨p, 5, none⟩ (.int .i64 now) else w1)) (.returned (.int .i64 11)) w' := fun w' e => .inl ⟨by rw [h1]; decide, by rw [h1], e⟩
    generalize (fun (e : Ending) w' => (rdy s now ≠ 0 ∧ e = .returned (.int .i64 (rdy s now)) ∧ w' = w) ∨ (rdy s now = 0 ∧ ∃ n w1, F n w1 ∧ e = .returned (.int .i64 n) ∧ w' = if n = 0 then w1.setCell ⟨p, 5, none⟩ (.int .i64 now) else w1)) = R at *
    have HP' := Lib.hid HP
    clear hf hc h1 HP
    go_enter Tryd.func33, Tryd.ntmps33
    go_wp2_with fail
    refine (made_any hP h0).mono ?_
    rintro e wq ⟨rfl, rfl⟩
    go_wp2_with fail
    refine (instant_any now _).mono ?_
    rintro e wq ⟨rfl, rfl⟩
    rw [h2]
    go_wp2
    exact HP'.out _ rfl
  · have HP : ∀ n w1 w', F n w1 → (w' = if n = 0 then w1.setCell ⟨p, 5, none⟩ (.int .i64 now) else w1) → (fun (e : Ending) w' => (rdy s now ≠ 0 ∧ e = .returned (.int .i64 (rdy s now)) ∧ w' = w) ∨ (rdy s now = 0 ∧ ∃ n w1, F n w1 ∧ e = .returned (.int .i64 n) ∧ w' = if n = 0 then w1.setCell ⟨p, 5, none⟩ (.int .i64 now) else w1)) (.returned (.int .i64 n)) w' := fun n w1 w' h e => .inr ⟨h1, n, w1, h, rfl, e⟩
    generalize (fun (e : Ending) w' => (rdy s now ≠ 0 ∧ e = .returned (.int .i64 (rdy s now)) ∧ w' = w) ∨ (rdy s now = 0 ∧ ∃ n w1, F n w1 ∧ e = .returned (.int .i64 n) ∧ w' = if n = 0 then w1.setCell ⟨p, 5, none⟩ (.int .i64 now) else w1)) = R at *
    have HP' := Lib.hid HP
    have HF := Lib.hid (hf h1)
    have HC := Lib.hid hc
    clear hf hc h1 HP
    go_enter Tryd.func33, Tryd.ntmps33
    go_wp2_with fail
    refine (made_any hP h0).mono ?_
    rintro e wq ⟨rfl, rfl⟩
    go_wp2_with fail
    refine (instant_any now _).mono ?_
    rintro e wq ⟨rfl, rfl⟩
    rw [h2]
    go_wp2_with fail
    refine HF.out.mono ?_
    rintro e w1 ⟨n, rfl, hF⟩
    obtain ⟨cs, hB, hz⟩ := HC.out n w1 hF
    have HFn := Lib.hid hF
    clear hF
    by_cases hn : n = 0
    · subst hn
      have q2 : w1.cell? ⟨p, 5, none⟩ = some cs[5] := (hB.cell 5).trans (Array.getElem?_eq_getElem _)
      have q3 := hB.frozen 5
      go_wp2
      exact HP'.out _ _ _ HFn.out (by simp)
    · have hd : (n == 0) = false := beq_eq_false_iff_ne.2 hn
      go_wp2
      exact HP'.out _ _ _ HFn.out (by simp [hn])
end Go.Proofs.YtmpaogmfceldjaaDoor
