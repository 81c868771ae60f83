/- Rows of the call's own; two equal lists of integers. -/
import Derived.Test.YtjjmdgiaohmjkaaDoorU3
namespace Go.Proofs.YtjjmdgiaohmjkaaDoor
open Go.RowKit

theorem info_int : (Tryd.prog.info? 3).map (fun i => (i.zero, i.size, i.bytes)) = some (some (.int .i64 0), 1, 8) := by kernel_rfl
section
variable {w w' : World} {base base' : Nat} {e : TypeId} {sz n : Nat} {v : Value} {xs : List Value}
theorem own_form (h : w.ownsRow base e sz v n xs) (hn : 0 < n) : ∃ g cap, v = .slice (some ⟨g, 0, none⟩) n cap ∧ base ≤ g ∧ g < w.heap.size := by
  rcases h.2 with ⟨_, h0⟩ | ⟨g, cap, cur, hv, hb, hg, _⟩
  · omega
  · exact ⟨g, cap, hv, hb, (Array.getElem?_eq_some_iff.1 hg).1⟩
theorem own_below (h : w.ownsRow base e sz v n xs) (hb : Below w.heap.size w w') : w'.ownsRow base e sz v n xs := by
  refine ⟨h.1, ?_⟩
  rcases h.2 with h0 | ⟨g, cap, cur, hv, h1, hg, hr⟩
  · exact .inl h0
  · exact .inr ⟨g, cap, cur, hv, h1, (hb.block g (Array.getElem?_eq_some_iff.1 hg).1).trans hg, hr⟩
theorem own_base (h : w.ownsRow base e sz v n xs) (hb : base' ≤ base) : w.ownsRow base' e sz v n xs := by
  refine ⟨h.1, ?_⟩
  rcases h.2 with h0 | ⟨g, cap, cur, hv, h1, hg, hr⟩
  · exact .inl h0
  · exact .inr ⟨g, cap, cur, hv, Nat.le_trans hb h1, hg, hr⟩
theorem own_slice (h : w.ownsRow base e sz v n xs) : ∃ p c, v = .slice p n c := by
  rcases h.2 with ⟨e1, e2⟩ | ⟨g, cap, cur, hv, -⟩
  · exact ⟨none, 0, by rw [e1, e2]⟩
  · exact ⟨_, _, hv⟩
/-- An owned slice, read. -/
theorem own_reads (h : w.ownsRow base e sz v n xs) : ∃ p c, v = .slice p n c ∧ Reads w w.heap.size sz p n xs := by
  obtain ⟨p, c, rfl⟩ := own_slice h
  exact ⟨p, c, rfl, Reads.of_own h⟩
theorem own_nil (w : World) (base : Nat) (e : TypeId) (sz : Nat) : w.ownsRow base e sz (.slice none 0 0) 0 [] := ⟨by simp, .inl ⟨rfl, rfl⟩⟩
end
/-- An owned list of integers. -/
def OwnI (w : World) (base : Nat) (v : Value) (l : List Int) : Prop := w.ownsRow base 3 1 v l.length (ivals l)
theorem OwnI.nil (w : World) (base : Nat) : OwnI w base (.slice none 0 0) [] := own_nil w base _ _
theorem OwnI.on {w w' : World} {base : Nat} {v : Value} {l : List Int} (h : OwnI w base v l) (hb : Below w.heap.size w w') : OwnI w' base v l := own_below h hb
theorem OwnI.reads {w : World} {base : Nat} {v : Value} {l : List Int} (h : OwnI w base v l) : ∃ p c, v = .slice p l.length c ∧ Reads w w.heap.size 1 p l.length (ivals l) := own_reads h
theorem OwnI.push {w : World} {base : Nat} {v : Value} {l : List Int} {x : Int} (h : w.ownsRow base 3 1 v (l.length + 1) (ivals l ++ [.int .i64 x])) : OwnI w base v (l ++ [x]) := by
  unfold OwnI ivals
  simpa [ivals] using h
/-- Two reads of lists, cell by cell. -/
theorem reads_eq {w : World} {B B' : Nat} {p p' : Option Addr} {l : List Int} (h : Reads w B 1 p l.length (ivals l)) (h' : Reads w B' 1 p' l.length (ivals l)) {k : Nat} (hk : k < l.length) :
    ∃ b o b' o' x, p = some ⟨b, o, none⟩ ∧ p' = some ⟨b', o', none⟩ ∧ w.cell? ⟨b, o + k, none⟩ = some (.int .i64 x) ∧ w.cell? ⟨b', o' + k, none⟩ = some (.int .i64 x) := by
  obtain ⟨b, o, e, -, hc⟩ := h.int (List.getElem?_eq_getElem hk)
  obtain ⟨b', o', e', -, hc'⟩ := h'.int (List.getElem?_eq_getElem hk)
  exact ⟨b, o, b', o', _, e, e', hc, hc'⟩
end Go.Proofs.YtjjmdgiaohmjkaaDoor
