/- The walks of Flush. -/
import Derived.Test.YtfgohjoamifpiaaWC
namespace Go.Proofs.Ytfgohjoamifpiaa
open Go.RowKit
open Go.Sort (grow)

section
variable {p : Pol} {w : World} {base g c : Nat} {A : Option Addr} {xs : List RecX} {first now : Int}
set_option maxHeartbeats 400000 in
theorem flushC_no (n : Int) (h : ColC p w base g A c xs first now) (hno : n < now ∨ 1073741824 < n) : Calls Try.prog 20 #[.pointer (some ⟨g, 0, none⟩), .int .i64 n] w fun e w' => e = .returned (.slice none 0 0) ∧ w = w' := by
  have k5 : w.cell? ⟨g, 5, none⟩ = some (.int .i64 now) := h.cell 5
  have k6 : w.cell? ⟨g, 6, none⟩ = some (.bool true) := h.cell 6
  clear h
  by_cases h1 : n < now
  · go_enter Try.func20, Try.ntmps20
    go_wp2
    go_ret
    exact ⟨rfl, rfl⟩
  · have h2 : 1073741824 < n := by omega
    clear hno
    go_enter Try.func20, Try.ntmps20
    go_wp2
    go_ret
    exact ⟨rfl, rfl⟩
set_option maxHeartbeats 400000 in
theorem flushD_no (n : Int) (h : ColD p w base g A c xs first now) (hno : n < now ∨ 1073741824 < n) : Calls Try.prog 21 #[.pointer (some ⟨g, 0, none⟩), .int .i64 n] w fun e w' => e = .returned (.slice none 0 0) ∧ w = w' := by
  have k5 : w.cell? ⟨g, 4, none⟩ = some (.int .i64 now) := h.cell 4
  have k6 : w.cell? ⟨g, 0, none⟩ = some (.bool true) := h.cell 0
  clear h
  by_cases h1 : n < now
  · go_enter Try.func21, Try.ntmps21
    go_wp2
    go_ret
    exact ⟨rfl, rfl⟩
  · have h2 : 1073741824 < n := by omega
    clear hno
    go_enter Try.func21, Try.ntmps21
    go_wp2
    go_ret
    exact ⟨rfl, rfl⟩
set_option maxHeartbeats 400000 in
theorem flushC_yes (n : Int) (h : ColC p w base g A c xs first now) (hn : xs.length ≤ 1000000) (h1 : now ≤ n) (h2 : n ≤ 1073741824) (hf : 0 ≤ first ∧ first ≤ 1073741824) (hp : 0 ≤ p.window ∧ p.window ≤ 1073741824) :
    Calls Try.prog 20 #[.pointer (some ⟨g, 0, none⟩), .int .i64 n] w fun e w' => if xs.isEmpty = true ∨ n < first + p.window then e = .returned (.slice none 0 0) ∧ ColC p w' base g A c xs first n ∧ Chg (fun k => k = g) w w'
      else e = .returned (.slice A xs.length c) ∧ ColC p w' base g none 0 [] first n ∧ RecsAt w' w'.heap.size A xs ∧ Chg (fun k => k = g) w w' := by
  have k5 : w.cell? ⟨g, 5, none⟩ = some (.int .i64 now) := h.cell 5
  have k6 : w.cell? ⟨g, 6, none⟩ = some (.bool true) := h.cell 6
  have f5 : w.frozen? ⟨g, 5, none⟩ = false := h.frozen 5
  have hs := h.store 5 (.int .i64 n) (first' := first) (now' := n) rfl
  have hch : Chg (fun k => k = g) w (w.setCell ⟨g, 5, none⟩ (.int .i64 n)) := Chg.setCell (S := fun k => k = g) (Chg.refl _ _) (p := ⟨g, 5, none⟩) (fun _ => rfl) _
  by_cases hc : xs.isEmpty = true ∨ n < first + p.window
  · rw [show (fun (e : Ending) (w' : World) => if xs.isEmpty = true ∨ n < first + p.window then e = .returned (.slice none 0 0) ∧ ColC p w' base g A c xs first n ∧ Chg (fun k => k = g) w w'
      else e = .returned (.slice A xs.length c) ∧ ColC p w' base g none 0 [] first n ∧ RecsAt w' w'.heap.size A xs ∧ Chg (fun k => k = g) w w') = fun e w' => e = .returned (.slice none 0 0) ∧ ColC p w' base g A c xs first n ∧ Chg (fun k => k = g) w w' from by
        funext e w'; rw [if_pos hc]]
    have HC := Lib.hid hc
    have HN := Lib.hid hn
    clear hc hn h
    go_enter Try.func20, Try.ntmps20
    go_wp2_with fail
    refine (dueC_any hs HN.out hf hp).mono ?_
    rintro e w2 ⟨rfl, hb⟩
    have hs2 := hs.below hb
    by_cases hx : xs.isEmpty = true
    · go_wp2_with fail
      go_ret
      exact ⟨rfl, hs2, hch.below hb⟩
    · have hx' : xs.isEmpty = false := by simpa using hx
      have hd : n < dueOf p xs first := by
        have := HC.out
        simp only [dueOf, hx']
        rcases this with h | h
        · exact absurd h hx
        · exact h
      clear hx
      go_wp2_with fail
      go_ret
      exact ⟨rfl, hs2, hch.below hb⟩
  · rw [show (fun (e : Ending) (w' : World) => if xs.isEmpty = true ∨ n < first + p.window then e = .returned (.slice none 0 0) ∧ ColC p w' base g A c xs first n ∧ Chg (fun k => k = g) w w'
      else e = .returned (.slice A xs.length c) ∧ ColC p w' base g none 0 [] first n ∧ RecsAt w' w'.heap.size A xs ∧ Chg (fun k => k = g) w w') = fun e w' => e = .returned (.slice A xs.length c) ∧ ColC p w' base g none 0 [] first n ∧ RecsAt w' w'.heap.size A xs ∧ Chg (fun k => k = g) w w' from by
        funext e w'; rw [if_neg hc]]
    have hx' : xs.isEmpty = false := by
      cases hxe : xs.isEmpty
      · rfl
      · exact absurd (.inl hxe) hc
    have hd : dueOf p xs first ≤ n := by
      simp only [dueOf, hx']
      have : ¬ n < first + p.window := fun h => hc (.inr h)
      simp only [Bool.false_eq_true, if_false]
      omega
    have HN := Lib.hid hn
    clear hc hn h
    go_enter Try.func20, Try.ntmps20
    go_wp2_with fail
    refine (dueC_any hs HN.out hf hp).mono ?_
    rintro e w2 ⟨rfl, hb⟩
    have hs2 := hs.below hb
    go_wp2_with fail
    refine (take_any hs2 HN.out).mono ?_
    rintro e w3 ⟨rfl, rfl⟩
    go_wp2_with fail
    go_ret
    have hE := hs2.empty 3 rfl
    exact ⟨rfl, hE.1, hE.2, (hch.below hb).setCell (p := ⟨_, _, _⟩) (fun _ => rfl) _⟩
set_option maxHeartbeats 400000 in
theorem flushD_yes (n : Int) (h : ColD p w base g A c xs first now) (hn : xs.length ≤ 1000000) (h1 : now ≤ n) (h2 : n ≤ 1073741824) (hf : 0 ≤ first ∧ first ≤ 1073741824) (hp : 0 ≤ p.window ∧ p.window ≤ 1073741824) :
    Calls Try.prog 21 #[.pointer (some ⟨g, 0, none⟩), .int .i64 n] w fun e w' => if xs.isEmpty = true ∨ n < first + p.window then e = .returned (.slice none 0 0) ∧ ColD p w' base g A c xs first n ∧ Chg (fun k => k = g) w w'
      else e = .returned (.slice A xs.length c) ∧ ColD p w' base g none 0 [] first n ∧ RecsAt w' w'.heap.size A xs ∧ Chg (fun k => k = g) w w' := by
  have k5 : w.cell? ⟨g, 4, none⟩ = some (.int .i64 now) := h.cell 4
  have k6 : w.cell? ⟨g, 0, none⟩ = some (.bool true) := h.cell 0
  have f5 : w.frozen? ⟨g, 4, none⟩ = false := h.frozen 4
  have f6 : w.frozen? ⟨g, 6, none⟩ = false := h.frozen 6
  have hs := h.store 4 (.int .i64 n) (first' := first) (now' := n) rfl
  have hch : Chg (fun k => k = g) w (w.setCell ⟨g, 4, none⟩ (.int .i64 n)) := Chg.setCell (S := fun k => k = g) (Chg.refl _ _) (p := ⟨g, 4, none⟩) (fun _ => rfl) _
  have j1 : w.cell? ⟨g, 5, none⟩ = some (.int .i64 first) := h.cell 5
  have j2 : w.cell? ⟨g, 3, none⟩ = some (.int .i64 p.window) := h.cell 3
  have j3 : w.cell? ⟨g, 6, none⟩ = some (.slice A xs.length c) := h.cell 6
  obtain ⟨f1, f2⟩ := hf
  obtain ⟨p1, p2⟩ := hp
  have g1 : IntKind.i64.wrap (first + p.window) = first + p.window := IntWalk.i64_in _ (by omega)
  by_cases hc : xs.isEmpty = true ∨ n < first + p.window
  · rw [show (fun (e : Ending) (w' : World) => if xs.isEmpty = true ∨ n < first + p.window then e = .returned (.slice none 0 0) ∧ ColD p w' base g A c xs first n ∧ Chg (fun k => k = g) w w'
      else e = .returned (.slice A xs.length c) ∧ ColD p w' base g none 0 [] first n ∧ RecsAt w' w'.heap.size A xs ∧ Chg (fun k => k = g) w w') = fun e w' => e = .returned (.slice none 0 0) ∧ ColD p w' base g A c xs first n ∧ Chg (fun k => k = g) w w' from by
        funext e w'; rw [if_pos hc]]
    cases xs with
    | nil =>
      have HS := Lib.hid hs
      simp only [List.length_nil] at j3
      clear hc hn h hs
      go_enter Try.func21, Try.ntmps21
      go_wp2_with fail
      go_quiet (fail)
      go_wp2_with fail
      go_ret
      exact ⟨rfl, HS.out.below (World.below_drewN' _ _ _), hch.drewN _⟩
    | cons x xs =>
      have hd : n < first + p.window := by
        rcases hc with h | h
        · simp at h
        · exact h
      have hd2 : decide (n < first + p.window) = true := by simpa using hd
      have hl : (x :: xs).length = xs.length + 1 := rfl
      rw [hl] at j3 hn
      have g0 : ((xs.length : Int) + 1 == 0) = false := beq_eq_false_iff_ne.2 (by omega)
      have HS := Lib.hid hs
      clear hc h hl hs
      go_enter Try.func21, Try.ntmps21
      go_wp2_with fail
      go_quiet (fail)
      go_wp2_with fail
      go_ret
      exact ⟨rfl, HS.out.below (World.below_drewN' _ _ _), hch.drewN _⟩
  · rw [show (fun (e : Ending) (w' : World) => if xs.isEmpty = true ∨ n < first + p.window then e = .returned (.slice none 0 0) ∧ ColD p w' base g A c xs first n ∧ Chg (fun k => k = g) w w'
      else e = .returned (.slice A xs.length c) ∧ ColD p w' base g none 0 [] first n ∧ RecsAt w' w'.heap.size A xs ∧ Chg (fun k => k = g) w w') = fun e w' => e = .returned (.slice A xs.length c) ∧ ColD p w' base g none 0 [] first n ∧ RecsAt w' w'.heap.size A xs ∧ Chg (fun k => k = g) w w' from by
        funext e w'; rw [if_neg hc]]
    cases xs with
    | nil => exact absurd (.inl rfl) hc
    | cons x xs =>
      have hd : first + p.window ≤ n := by
        have : ¬ n < first + p.window := fun h => hc (.inr h)
        omega
      have h3 : decide (n < now) = false := by simp; omega
      have h4 : decide (1073741824 < n) = false := by simp; omega
      have hd2 : decide (n < first + p.window) = false := by simp; omega
      have hl : (x :: xs).length = xs.length + 1 := rfl
      have HS := Lib.hid hs
      rw [hl] at j3 hn
      rw [hl]
      have g0 : ((xs.length : Int) + 1 == 0) = false := beq_eq_false_iff_ne.2 (by omega)
      clear hc h hl hs
      go_enter Try.func21, Try.ntmps21
      go_wp2_with fail
      go_quiet (fail)
      go_wp2_with fail
      go_ret
      have hE := (HS.out.below (World.below_drewN' _ _ nq)).empty 6 rfl
      exact ⟨rfl, hE.1, hE.2, (hch.drewN _).setCell (p := ⟨_, _, _⟩) (fun _ => rfl) _⟩
end
end Go.Proofs.Ytfgohjoamifpiaa
