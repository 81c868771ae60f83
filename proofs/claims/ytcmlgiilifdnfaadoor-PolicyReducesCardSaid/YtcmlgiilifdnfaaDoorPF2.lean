/- The walk of the law PolicyFormats. -/
import Derived.Test.YtcmlgiilifdnfaaDoorPZ
namespace Go.Proofs.YtcmlgiilifdnfaaDoor
open Go.RowKit
open Go.Sort (grow)

theorem blk_sts1 {w : World} {g : Nat} {a : St} {P Q : Option Addr} {c d : Nat} (h : Blk w g 31 #[.bool a.al, .slice P a.ac.length c, .slice Q a.re.length d])
    (h1 : StrL w w.heap.size P a.ac) (h2 : StrL w w.heap.size Q a.re) : StsAt w w.heap.size (some ⟨g, 0, none⟩) [a] := by
  intro k x hk
  match k, hk with
  | 0, hk =>
    obtain rfl : a = x := Option.some.inj hk
    exact ⟨g, 0, P, c, Q, d, rfl, h.lt, h.cell 0, h.cell 1, h.cell 2, h1, h2⟩
  | k + 1, hk => simp at hk
theorem small_one {s : St} (h : smB [s] = true) : SzSt s := (smB_SzL h).2 s (by simp)
theorem Check_at (s : St) (v : Value) (W : World) (d : Nat) (os : Array Obj) (hv : StV W W.heap.size v s) (hz : SzSt s) :
    Calls Tryd.prog 17 #[v] (grow (redrawn W d) os) fun e w' => e = .returned (.int .i64 s.ck) ∧ ∃ p : Regrown, w' = grow (redrawn W p.d) p.os := Calls.regrown_of (Check_any s v _ (hv.on (below_regrown W d os)) hz)
theorem rCheck_at (s : St) (v : Value) (W : World) (d : Nat) (os : Array Obj) (hv : StV W W.heap.size v s) (hz : SzSt s) :
    Calls Tryd.prog 18 #[v] (grow (redrawn W d) os) fun e w' => e = .returned (.int .i64 s.ck) ∧ ∃ p : Regrown, w' = grow (redrawn W p.d) p.os := Calls.regrown_of (rCheck_any s v _ (hv.on (below_regrown W d os)) hz)
theorem awake_at (m : Int) (W : World) (d : Nat) (os : Array Obj) (hm : W.cell? ⟨0, 0, none⟩ = some (.int .i64 m)) :
    Calls Tryd.prog 10 #[] (grow (redrawn W d) os) fun e w' => e = .returned (.bool true) ∧ ∃ p : Regrown, w' = grow (redrawn W p.d) p.os := Calls.regrown_of (awake_any m _ (cell_regrown hm d os))
theorem par_sz {s : ByteArray} (h : s.size ≤ 100000) : SzSt (parS s).1 := by
  unfold parS
  have h0 : SzSt st0 := ⟨Nat.zero_le _, Nat.zero_le _, fun t ht => (by cases ht), fun t ht => (by cases ht)⟩
  split
  · rename_i a b c e
    have hb : b.size ≤ s.size := pcs_size (c := 32) (by rw [e]; simp)
    have hc : c.size ≤ s.size := pcs_size (c := 32) (by rw [e]; simp)
    split
    · unfold stP
      split
      · exact ⟨by have := pcs_len 44 b; simp only; omega, by have := pcs_len 44 c; simp only; omega, fun t ht => by have := pcs_size ht; omega, fun t ht => by have := pcs_size ht; omega⟩
      · exact h0
    · exact h0
  · exact h0
end Go.Proofs.YtcmlgiilifdnfaaDoor
