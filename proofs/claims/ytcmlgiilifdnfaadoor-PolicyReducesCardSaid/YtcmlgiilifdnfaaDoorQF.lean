/- Lists of statements as rows of cells: parts and joins. -/
import Derived.Test.YtcmlgiilifdnfaaDoorQD
import Derived.Test.YtcmlgiilifdnfaaDoorQB
namespace Go.Proofs.YtcmlgiilifdnfaaDoor
open Go.RowKit
open Go.Sort (grow)

/-- The cells of a list of statements. -/
def Row3 (w : World) (B : Nat) (xs : List Value) (m : List St) : Prop := xs.length = m.length * 3 ∧ ∀ k s, m[k]? = some s → ∃ P c P2 c2, xs[k * 3]? = some (.bool s.al) ∧ xs[k * 3 + 1]? = some (.slice P s.ac.length c) ∧ xs[k * 3 + 2]? = some (.slice P2 s.re.length c2) ∧ StrL w B P s.ac ∧ StrL w B P2 s.re
theorem Row3.on {w w' : World} {xs : List Value} {m : List St} (h : Row3 w w.heap.size xs m) (hb : Below w.heap.size w w') : Row3 w' w'.heap.size xs m := ⟨h.1, fun k s hk => by
  obtain ⟨P, c, P2, c2, h0, h1, h2, h3, h4⟩ := h.2 k s hk
  exact ⟨P, c, P2, c2, h0, h1, h2, h3.on hb, h4.on hb⟩⟩
theorem Row3.append {w : World} {B : Nat} {xs ys : List Value} {m n : List St} (h : Row3 w B xs m) (h' : Row3 w B ys n) : Row3 w B (xs ++ ys) (m ++ n) := by
  refine ⟨by rw [List.length_append, List.length_append, h.1, h'.1]; omega, fun k s hk => ?_⟩
  rcases Nat.lt_or_ge k m.length with hlt | hge
  · rw [List.getElem?_append_left hlt] at hk
    obtain ⟨P, c, P2, c2, h0, h1, h2, h3⟩ := h.2 k s hk
    have := h.1
    exact ⟨P, c, P2, c2, by rw [List.getElem?_append_left (by omega)]; exact h0, by rw [List.getElem?_append_left (by omega)]; exact h1, by rw [List.getElem?_append_left (by omega)]; exact h2, h3⟩
  · rw [List.getElem?_append_right hge] at hk
    obtain ⟨P, c, P2, c2, h0, h1, h2, h3⟩ := h'.2 _ s hk
    have := h.1
    exact ⟨P, c, P2, c2, by rw [List.getElem?_append_right (by omega), show k * 3 - xs.length = (k - m.length) * 3 from by omega]; exact h0, by rw [List.getElem?_append_right (by omega), show k * 3 + 1 - xs.length = (k - m.length) * 3 + 1 from by omega]; exact h1, by rw [List.getElem?_append_right (by omega), show k * 3 + 2 - xs.length = (k - m.length) * 3 + 2 from by omega]; exact h2, h3⟩
theorem Row3.take {w : World} {B : Nat} {xs : List Value} {m : List St} (h : Row3 w B xs m) (n : Nat) : Row3 w B (xs.take (n * 3)) (m.take n) := by
  refine ⟨by rw [List.length_take, List.length_take, h.1]; omega, fun k s hk => ?_⟩
  rw [List.getElem?_take] at hk
  split at hk
  · obtain ⟨P, c, P2, c2, h0, h1, h2, h3⟩ := h.2 k s hk
    exact ⟨P, c, P2, c2, by rw [List.getElem?_take, if_pos (by omega)]; exact h0, by rw [List.getElem?_take, if_pos (by omega)]; exact h1, by rw [List.getElem?_take, if_pos (by omega)]; exact h2, h3⟩
  · cases hk
theorem Row3.drop {w : World} {B : Nat} {xs : List Value} {m : List St} (h : Row3 w B xs m) (n : Nat) : Row3 w B (xs.drop (n * 3)) (m.drop n) := by
  refine ⟨by rw [List.length_drop, List.length_drop, h.1]; omega, fun k s hk => ?_⟩
  rw [List.getElem?_drop] at hk
  obtain ⟨P, c, P2, c2, h0, h1, h2, h3⟩ := h.2 _ s hk
  exact ⟨P, c, P2, c2, by rw [List.getElem?_drop, show n * 3 + k * 3 = (n + k) * 3 from by omega]; exact h0, by rw [List.getElem?_drop, show n * 3 + (k * 3 + 1) = (n + k) * 3 + 1 from by omega]; exact h1, by rw [List.getElem?_drop, show n * 3 + (k * 3 + 2) = (n + k) * 3 + 2 from by omega]; exact h2, h3⟩
theorem Row3.one {w : World} {B : Nat} {s : St} {P P2 : Option Addr} {c c2 : Nat} (h1 : StrL w B P s.ac) (h2 : StrL w B P2 s.re) : Row3 w B [.bool s.al, .slice P s.ac.length c, .slice P2 s.re.length c2] [s] := by
  refine ⟨rfl, fun k x hk => ?_⟩
  match k, hk with
  | 0, hk =>
    obtain rfl : s = x := Option.some.inj hk
    exact ⟨P, c, P2, c2, rfl, rfl, rfl, h1, h2⟩
  | k + 1, hk => simp at hk
theorem Row3.one_cell {w : World} {B : Nat} {xs : List Value} {m : List St} (h : Row3 w B xs m) : ∀ u ∈ xs, u.oneCell' = true := by
  intro u hu
  obtain ⟨j, hj⟩ := List.getElem?_of_mem hu
  have hlt : j < m.length * 3 := by have := (List.getElem?_eq_some_iff.1 hj).1; rw [h.1] at this; exact this
  obtain ⟨s, hs⟩ : ∃ s, m[j / 3]? = some s := ⟨_, List.getElem?_eq_getElem (by omega)⟩
  obtain ⟨P, c, P2, c2, h0, h1, h2, -⟩ := h.2 _ s hs
  have h3 : j % 3 = 0 ∨ j % 3 = 1 ∨ j % 3 = 2 := by omega
  rcases h3 with h3 | h3 | h3
  · rw [show j / 3 * 3 = j from by omega, hj] at h0; injection h0 with h0; rw [h0]; rfl
  · rw [show j / 3 * 3 + 1 = j from by omega, hj] at h1; injection h1 with h1; rw [h1]; rfl
  · rw [show j / 3 * 3 + 2 = j from by omega, hj] at h2; injection h2 with h2; rw [h2]; rfl
theorem row_aux {w : World} {B b : Nat} : ∀ (m : List St) (o : Nat), (∀ k s, m[k]? = some s → ∃ P c P2 c2, w.cell? ⟨b, o + k * 3, none⟩ = some (.bool s.al) ∧ w.cell? ⟨b, o + k * 3 + 1, none⟩ = some (.slice P s.ac.length c) ∧ w.cell? ⟨b, o + k * 3 + 2, none⟩ = some (.slice P2 s.re.length c2) ∧ StrL w B P s.ac ∧ StrL w B P2 s.re) →
    ∃ xs, Row3 w B xs m ∧ ∀ j u, xs[j]? = some u → w.cell? ⟨b, o + j, none⟩ = some u
  | [], _, _ => ⟨[], ⟨rfl, fun k s h => by simp at h⟩, fun j u h => by simp at h⟩
  | s :: m, o, h => by
    obtain ⟨P, c, P2, c2, h0, h1, h2, h3, h4⟩ := h 0 s rfl
    obtain ⟨ys, hr, hc⟩ := row_aux m (o + 3) fun k t hk => by
      have := h (k + 1) t hk
      rw [show o + (k + 1) * 3 = o + 3 + k * 3 from by omega] at this
      exact this
    refine ⟨[.bool s.al, .slice P s.ac.length c, .slice P2 s.re.length c2] ++ ys, (Row3.one h3 h4).append hr, fun j u hu => ?_⟩
    match j, hu with
    | 0, hu => rw [← Option.some.inj hu]; simpa using h0
    | 1, hu => rw [← Option.some.inj hu]; simpa using h1
    | 2, hu => rw [← Option.some.inj hu]; simpa using h2
    | j + 3, hu => have := hc j u (by simpa using hu); rwa [show o + 3 + j = o + (j + 3) from by omega] at this
theorem sts_row {w : World} {B : Nat} {A : Option Addr} {l : List St} (h : StsAt w B A l) : ∃ xs, Reads w B 3 A l.length xs ∧ Row3 w B xs l := by
  match l, h with
  | [], _ => exact ⟨[], ⟨rfl, fun hn => absurd hn (by simp)⟩, rfl, fun k s h => by simp at h⟩
  | s :: m, h =>
    obtain ⟨b, o, _, _, _, _, rfl, hlt, -⟩ := h 0 s rfl
    obtain ⟨xs, hr, hc⟩ := row_aux (w := w) (B := B) (b := b) (s :: m) o fun k t hk => by
      obtain ⟨b', o', P, c, P2, c2, e, _, h0, h1, h2, h3, h4⟩ := h k t hk
      injection e with e
      injection e with e1 e2
      subst e1 e2
      exact ⟨P, c, P2, c2, h0, h1, h2, h3, h4⟩
    exact ⟨xs, ⟨hr.1, fun _ => ⟨b, o, rfl, hlt, hc⟩⟩, hr⟩
theorem row_sts {w : World} {A : Option Addr} {n : Nat} {xs : List Value} {m : List St} (h : Reads w w.heap.size 3 A n xs) (hn : n = m.length) (hr : Row3 w w.heap.size xs m) : StsAt w w.heap.size A m := by
  intro k s hk
  have hlt : k < m.length := (List.getElem?_eq_some_iff.1 hk).1
  obtain ⟨b, o, rfl, hb, hc⟩ := h.2 (by omega)
  obtain ⟨P, c, P2, c2, h0, h1, h2, h3, h4⟩ := hr.2 k s hk
  exact ⟨b, o, P, c, P2, c2, rfl, hb, hc _ _ h0, by have := hc _ _ h1; rwa [← Nat.add_assoc] at this, by have := hc _ _ h2; rwa [← Nat.add_assoc] at this, h3, h4⟩
section
variable {w : World} {B sz n c : Nat} {A : Option Addr} {xs : List Value}
theorem reads_to (h : Reads w B sz A n xs) {k : Nat} (hk : k ≤ n) : Reads w B sz A k (xs.take (k * sz)) := by
  refine ⟨by rw [List.length_take, h.1]; exact Nat.min_eq_left (Nat.mul_le_mul_right sz hk), fun h0 => ?_⟩
  obtain ⟨b, o, rfl, hb, hc⟩ := h.2 (by omega)
  refine ⟨b, o, rfl, hb, fun j u hu => hc j u ?_⟩
  rw [List.getElem?_take] at hu
  split at hu
  · exact hu
  · cases hu
theorem reads_to_if (h : Reads w B sz A n xs) {k : Nat} (hk : k ≤ n) : Reads w B sz (if c = 0 then A else A.map fun x => x.add 0) k (xs.take (k * sz)) := by
  have e : (if c = 0 then A else A.map fun x => x.add 0) = A := by
    split
    · rfl
    · cases A with
      | none => rfl
      | some a => simp [Addr.add]
  rw [e]
  exact reads_to h hk
theorem reads_from (h : Reads w B sz A n xs) {k : Nat} (hk : k ≤ n) (hc : n ≤ c) : Reads w B sz (if c = k then A else A.map fun x => x.add (k * sz)) (n - k) (xs.drop (k * sz)) := by
  refine ⟨by rw [List.length_drop, h.1, Nat.mul_sub_right_distrib], fun h0 => ?_⟩
  obtain ⟨b, o, rfl, hb, hcc⟩ := h.2 (by omega)
  rw [if_neg (by omega)]
  refine ⟨b, o + k * sz, by simp [Addr.add], hb, fun j u hu => ?_⟩
  rw [List.getElem?_drop] at hu
  have := hcc _ u hu
  rwa [← Nat.add_assoc] at this
end
theorem own_lit0 {base : Nat} {e : TypeId} {sz : Nat} (w : World) (g : Nat) (hg : w.heap.size = g) (hb : base ≤ g) : (w.alloc (.cells #[] e)).ownsRow base e sz (.slice (some ⟨g, 0, none⟩) 0 0) 0 [] := by
  subst hg
  exact World.ownsRow_lit w #[] 0 hb (Nat.zero_le _) (by simp)
theorem reads_at (w : World) (g : Nat) (hg : w.heap.size = g) (cs : List Value) (e : TypeId) (sz n : Nat) (h : cs.length = n * sz) : Reads (w.alloc (.cells cs.toArray e)) (w.alloc (.cells cs.toArray e)).heap.size sz (some ⟨g, 0, none⟩) n cs := by
  subst hg
  exact reads_new w cs e sz n h
theorem reads_grown {w w' : World} {sz n g : Nat} {xs : List Value} {row : Option Nat} (h : Reads w w.heap.size sz (some ⟨g, 0, none⟩) n xs) (hg : w.grownBy w' row) (hne : row ≠ some g) : Reads w' w'.heap.size sz (some ⟨g, 0, none⟩) n xs := by
  refine ⟨h.1, fun hn => ?_⟩
  obtain ⟨b, o, e, hb, hc⟩ := h.2 hn
  injection e with e
  injection e with e1 e2
  subst e1 e2
  exact ⟨g, 0, rfl, Nat.lt_of_lt_of_le hb hg.size, fun j u hu => (World.cell?_of_block (hg.block g hb (fun e => hne e.symm))).trans (hc j u hu)⟩
/-- The block that a value owns lies in no other block. -/
theorem own_ge {w : World} {base : Nat} {e : TypeId} {sz n : Nat} {v : Value} {xs : List Value} (h : w.ownsRow base e sz v n xs) : ∀ q, v.ownBlock = some q → base ≤ q := by
  intro q hq
  rcases h.2 with ⟨rfl, _⟩ | ⟨g, cap, cur, rfl, hb, _⟩
  · cases hq
  · have hq : g = q := Option.some.inj hq
    omega
end Go.Proofs.YtcmlgiilifdnfaaDoor
