/- Two equal lists of times. -/
import Derived.Test.YtefaojbfoboikaaDoorJ
namespace Go.Proofs.YtefaojbfoboikaaDoor
open Go.RowKit
theorem own_get {w : World} {base base' : Nat} {v v' : Value} {l : List Int} (h : w.ownsRow base 3 1 v l.length (l.map (Value.int .i64))) (h' : w.ownsRow base' 3 1 v' l.length (l.map (Value.int .i64))) :
    ∃ p c p' c', v = .slice p l.length c ∧ v' = .slice p' l.length c' ∧ (∀ k, k < l.length → ∃ g g' x, p = some ⟨g, 0, none⟩ ∧ p' = some ⟨g', 0, none⟩ ∧ w.cell? ⟨g, k, none⟩ = some (.int .i64 x) ∧ w.cell? ⟨g', k, none⟩ = some (.int .i64 x)) := by
  by_cases h0 : 0 < l.length
  · obtain ⟨g, c, rfl, -, -⟩ := own_form h h0
    obtain ⟨g', c', rfl, -, -⟩ := own_form h' h0
    refine ⟨_, _, _, _, rfl, rfl, fun k hk => ⟨g, g', l[k], rfl, rfl, ?_, ?_⟩⟩
    · rw [h.cellAt k (by omega), List.getElem?_map, List.getElem?_eq_getElem hk]; rfl
    · rw [h'.cellAt k (by omega), List.getElem?_map, List.getElem?_eq_getElem hk]; rfl
  · have e : ∀ {B : Nat} {u : Value}, w.ownsRow B 3 1 u l.length (l.map (Value.int .i64)) → ∃ p c, u = .slice p l.length c := by
      intro B u hu
      rcases hu.2 with ⟨e1, e2⟩ | ⟨g, cap, cur, hv, -⟩
      · exact ⟨none, 0, by rw [e1, e2]⟩
      · exact ⟨_, _, hv⟩
    obtain ⟨p, c, rfl⟩ := e h
    obtain ⟨p', c', rfl⟩ := e h'
    exact ⟨_, _, _, _, rfl, rfl, fun k hk => absurd hk (by omega)⟩
set_option maxHeartbeats 1000000 in
theorem same_any (v v' : Value) (base base' : Nat) (l : List Int) (w : World) (h : w.ownsRow base 3 1 v l.length (l.map (Value.int .i64))) (h' : w.ownsRow base' 3 1 v' l.length (l.map (Value.int .i64))) (hn : l.length ≤ 100) :
    Calls Tryd.prog 19 #[v, v'] w fun e w' => e = .returned (.bool true) ∧ Below w.heap.size w w' := by
  obtain ⟨p, c, p', c', rfl, rfl, hg⟩ := own_get h h'
  have HG := Lib.hid hg
  clear h h' hg
  go_enter Tryd.func19, Tryd.ntmps19
  go_wp2_with fail
  go_loopw [5] (fun i wr => ∃ k n : Nat, k ≤ l.length ∧ i = .int .i64 k ∧ wr = w.drewN n) (fun i _ => l.length - (Lib.intOf i).toNat)
  case atStart => exact ⟨0, 0, Nat.zero_le _, rfl, rfl⟩
  case round =>
    obtain ⟨k, nq, hk, rfl, rfl⟩ := hrel
    by_cases hlt : k < l.length
    · obtain ⟨g, g', x, rfl, rfl, p0, q0⟩ := HG.out k hlt
      have hltI : (k : Int) < l.length := by omega
      go_wp2_with fail
      go_quiet (fail)
      go_wp2_with fail
      go_roundw
      case rel => exact ⟨k + 1, _, by omega, by go_num, by first | rfl | rw [World.drewN_drewN]⟩
      case measure => simp [Lib.intOf]; omega
    · go_wp2_with fail
      go_ret
      exact ⟨rfl, below_drewN' _ _ _⟩
end Go.Proofs.YtefaojbfoboikaaDoor
