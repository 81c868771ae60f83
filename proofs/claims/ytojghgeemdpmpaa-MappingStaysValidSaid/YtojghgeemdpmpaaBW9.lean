/- The walks of the comparisons, where the two are equal. -/
import Derived.Test.YtojghgeemdpmpaaBW8
import Derived.BigRegion
import Derived.Laws.StructEq
namespace Go.Proofs.Ytojghgeemdpmpaa
open Go.RowKit
open Go.Sort (grow)

theorem body_get {w : World} {B : Nat} {A : Option Addr} {l : List CellV} (h : Reads w B 4 A l.length (l.flatMap CellV.cells)) {k : Nat} (hk : k < l.length) :
    ∃ b o, A = some ⟨b, o, none⟩ ∧ b < B ∧ w.cell? ⟨b, o + k * 4, none⟩ = some (.int .i64 l[k].kind) ∧ w.cell? ⟨b, o + k * 4 + 1, none⟩ = some (.int .i64 l[k].int) ∧
      w.cell? ⟨b, o + k * 4 + 2, none⟩ = some (.string l[k].str) ∧ w.cell? ⟨b, o + k * 4 + 3, none⟩ = some (.int .i64 l[k].n) := by
  obtain ⟨b, o, e, hb, hc⟩ := h.2 (by omega)
  have hg : ∀ j u, j < 4 → (l[k]).cells[j]? = some u → w.cell? ⟨b, o + (k * 4 + j), none⟩ = some u := fun j u hj hu => hc _ _ (by rw [flat_get (k := 4) (fun _ => rfl) l k j l[k] (List.getElem?_eq_getElem hk) hj]; exact hu)
  exact ⟨b, o, e, hb, cell_at (hg 0 _ (by omega) rfl) (by omega), cell_at (hg 1 _ (by omega) rfl) (by omega), cell_at (hg 2 _ (by omega) rfl) (by omega), cell_at (hg 3 _ (by omega) rfl) (by omega)⟩

@[go_sem] theorem eq79 (a b d a' b' d' : Int) (s t : ByteArray) (w : World) : (Op.equalIn 10000 74 (.agg #[.int .i64 a, .int .i64 b, .string s, .int .i64 d]) (.agg #[.int .i64 a', .int .i64 b', .string t, .int .i64 d'])).run Try.prog w = .ok (a == a' && (b == b' && (s.toList == t.toList && d == d'))) w := by
  have hS : Try.prog.underlying 74 = some (.struct (Try.prog.fieldsOf 74)) := by kernel_rfl
  have hp : Try.prog.stoodInHeld 74 = false := by kernel_rfl
  rw [show (10000 : Nat) = 9999 + 1 from rfl, run_equalIn_agg w 9999 74 _ _ hS hp]
  simp only [Program.fieldsOf, Try.underlying74]
  go_simp
  by_cases h1 : a = a' <;> by_cases h2 : b = b' <;> by_cases h3 : s.toList = t.toList <;> by_cases h4 : d = d' <;> simp [h1, h2, h3, h4]

set_option maxHeartbeats 1000000 in
theorem same_any (r : Rec) (a1 a2 : Option Addr) (c1 c2 : Nat) (w : World) (h1 : BodyAt w w.heap.size ⟨r, a1, c1⟩) (h2 : BodyAt w w.heap.size ⟨r, a2, c2⟩) (hn : r.body.length ≤ 3518437208780) :
    Calls Try.prog 37 #[.agg (RecX.cells ⟨r, a1, c1⟩).toArray, .agg (RecX.cells ⟨r, a2, c2⟩).toArray] w fun e w' => e = .returned (.bool true) ∧ Below w.heap.size w w' := by
  simp only [RecX.cells]
  go_enter Try.func37, Try.ntmps37
  go_wp2_with fail
  go_region
  have hM : Try.prog.eqGuardType Try.prog.depth 74 = false := by kernel_rfl
  all_goals
    go_wp2_with fail
    generalize hW : World.drew _ = W at *
    have hlow : Below w.heap.size w W := by rw [← hW]; exact ((((Below.refl _ _).alloc (Nat.le_refl _) _).alloc (by simp) _).alloc (by simp; omega) _ |>.alloc (by simp; omega) _).drew
    first
      | (have f : W.cell? ⟨w.heap.size + 1 + 1, 6, none⟩ = some (.slice a1 r.body.length c1) ∧ W.cell? ⟨w.heap.size + 1 + 1 + 1, 6, none⟩ = some (.slice a2 r.body.length c2) := by (rw [← hW]; clear hW; constructor <;> (go_simp; done))
         revert f)
      | (have f : W.cell? ⟨w.heap.size + 1 + 1 + 1, 6, none⟩ = some (.slice a1 r.body.length c1) ∧ W.cell? ⟨w.heap.size + 1 + 1, 6, none⟩ = some (.slice a2 r.body.length c2) := by (rw [← hW]; clear hW; constructor <;> (go_simp; done))
         revert f)
    intro f
    obtain ⟨f5, f6⟩ := f
    have b1 : Reads W w.heap.size 4 a1 r.body.length (r.body.flatMap CellV.cells) := Reads.below h1 hlow
    have b2 : Reads W w.heap.size 4 a2 r.body.length (r.body.flatMap CellV.cells) := Reads.below h2 hlow
    clear hW h1 h2
    go_loopw [7, 85] (fun _ i wr => ∃ k n : Nat, k ≤ r.body.length ∧ i = .int .i64 k ∧ wr = W.drewN n) (fun _ i _ => r.body.length - (intOf i).toNat)
    case atStart => exact ⟨0, 0, Nat.zero_le _, rfl, rfl⟩
    case round =>
      obtain ⟨k, nq, hk, rfl, rfl⟩ := hrel
      by_cases hlt : k < r.body.length
      · obtain ⟨x1, o1, rfl, hx1, p0, p1, p2, p3⟩ := body_get b1 hlt
        obtain ⟨x2, o2, rfl, hx2, q0, q1, q2, q3⟩ := body_get b2 hlt
        have hltI : (k : Int) < r.body.length := by omega
        go_wp2_with fail
        go_quiet (fail)
        go_wp2
        go_roundw
        case rel => exact ⟨k + 1, _, by omega, by go_num, by first | rfl | rw [World.drewN_drewN]⟩
        case measure => simp [intOf]; omega
      · go_wp2
        go_ret
        exact ⟨rfl, hlow.trans (World.below_drewN' _ _ _)⟩
end Go.Proofs.Ytojghgeemdpmpaa
