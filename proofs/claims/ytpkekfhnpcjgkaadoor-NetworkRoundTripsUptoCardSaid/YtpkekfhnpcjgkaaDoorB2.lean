/- What the walks ask of the listed variables; Format. -/
import Derived.Test.YtpkekfhnpcjgkaaDoorB1
import Derived.Test.YtpkekfhnpcjgkaaDoorShelf
import Derived.Lib.AppendIntMem
namespace Go.Proofs.YtpkekfhnpcjgkaaDoor
open Go.RowKit
open Go.Sort (grow)

/-- What the walks ask of the listed variables. -/
structure LaidW (w : World) : Prop where
  tab : Lib.TabIs Tryd.prog w "internal/strconv.uint64pow10" .u64 Lib.pow10Tab
  rng : ∃ tp p, w.var? Tryd.prog "strconv.ErrRange" = some #[.iface tp p]
theorem var_on {P : Program} {W W' : World} {n : String} {cs : Array Value} (hv : W.var? P n = some cs) (h : Below W.heap.size W W') : W'.var? P n = some cs := by
  unfold World.var? at hv ⊢
  cases hg : P.globalNamed n with
  | none => simp [hg] at hv
  | some g =>
    simp only [hg, Option.bind_some] at hv ⊢
    have hlt : g < W.heap.size := by
      rcases Nat.lt_or_ge g W.heap.size with h | h
      · exact h
      · rw [Array.getElem?_eq_none h] at hv; simp at hv
    rw [h.block g hlt]
    exact hv
theorem LaidW.below {W W' : World} (h : LaidW W) (hb : Below W.heap.size W W') : LaidW W' :=
  ⟨var_on h.tab hb, by obtain ⟨tp, p, hv⟩ := h.rng; exact ⟨tp, p, var_on hv hb⟩⟩
theorem Format_any (n : Int) (h0 : -9223372036854775808 ≤ n) (h1 : n ≤ 9223372036854775807) (w : World) (htab : Lib.TabIs Tryd.prog w "internal/strconv.uint64pow10" .u64 Lib.pow10Tab) :
    Calls Tryd.prog 74 #[.int .i64 n] w fun e w' => e = .returned (.string ⟨(Lib.itoa n).toArray⟩) ∧ Below w.heap.size w w' := by
  go_enter Tryd.func74, Tryd.ntmps74
  go_wp2_with fail
  refine (Tryd.strconv_Itoa n h0 h1 w htab).mono ?_
  rintro e w1 ⟨rfl, k, os, rfl⟩
  go_wp2
  go_ret
  exact ⟨rfl, Lib.below_grow _ w (Nat.le_refl _) k os⟩
end Go.Proofs.YtpkekfhnpcjgkaaDoor
