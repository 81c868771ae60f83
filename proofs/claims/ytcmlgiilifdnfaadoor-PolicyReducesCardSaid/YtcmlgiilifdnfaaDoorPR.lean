/- Owned lists of statements; the reference's Reduce. -/
import Derived.Test.YtcmlgiilifdnfaaDoorPO
namespace Go.Proofs.YtcmlgiilifdnfaaDoor
open Go.RowKit
open Go.Sort (grow)

theorem info_st : (Tryd.prog.info? 31).map (fun i => (i.zero, i.size, i.bytes)) = some (some (.agg #[.bool false, .slice none 0 0, .slice none 0 0]), 3, 56) := by kernel_rfl
/-- A list's block is not the one that the value owns. -/
def NotIn (v : Value) (P : Option Addr) (n : Nat) : Prop := 0 < n → ∀ ad, P = some ad → v.ownBlock ≠ some ad.block
theorem StrL.grown {w w' : World} {v : Value} {P : Option Addr} {l : List ByteArray} (h : StrL w w.heap.size P l) (hn : NotIn v P l.length) (hg : w.grownBy w' v.ownBlock) : StrL w' w'.heap.size P l := by
  refine ⟨h.1, fun hl => ?_⟩
  obtain ⟨b, o, rfl, hb, hc⟩ := h.2 hl
  exact ⟨b, o, rfl, Nat.lt_of_lt_of_le hb hg.size, fun j u hu => (World.cell?_of_block (hg.block b hb (fun e => hn hl _ rfl e.symm))).trans (hc j u hu)⟩
theorem NotIn.grown {w : World} {v v' : Value} {P : Option Addr} {l : List ByteArray} (hn : NotIn v P l.length) (h : StrL w w.heap.size P l) (hv : v'.ownBlock = v.ownBlock ∨ v'.ownBlock = some w.heap.size) : NotIn v' P l.length := by
  intro hl ad e he
  rcases hv with hv | hv
  · exact hn hl ad e (hv ▸ he)
  · have := h.lt hl ad e
    rw [hv] at he
    injection he with he
    omega
def Shape (w : World) (v : Value) (xs : List Value) (m : List St) : Prop := ∀ k s, m[k]? = some s → ∃ P c P2 c2, xs[k * 3]? = some (.bool s.al) ∧ xs[k * 3 + 1]? = some (.slice P s.ac.length c) ∧ xs[k * 3 + 2]? = some (.slice P2 s.re.length c2) ∧
  (StrL w w.heap.size P s.ac ∧ NotIn v P s.ac.length) ∧ (StrL w w.heap.size P2 s.re ∧ NotIn v P2 s.re.length)
/-- A list of statements that a call owns. -/
def OwnSt (w : World) (base : Nat) (v : Value) (m : List St) : Prop := ∃ xs, w.ownsRow base 31 3 v m.length xs ∧ Shape w v xs m
theorem OwnSt.nil (w : World) (base : Nat) : OwnSt w base (.slice none 0 0) [] := ⟨[], own_nil w base _ _, fun k s h => by simp at h⟩
theorem Shape.on {w w' : World} {v : Value} {xs : List Value} {m : List St} (h : Shape w v xs m) (hb : Below w.heap.size w w') : Shape w' v xs m := by
  intro k s hk
  obtain ⟨P, c, P2, c2, h0, h1, h2, ⟨h3, n3⟩, h4, n4⟩ := h k s hk
  exact ⟨P, c, P2, c2, h0, h1, h2, ⟨h3.on hb, n3⟩, h4.on hb, n4⟩
theorem Shape.grown {w w' : World} {v v' : Value} {xs : List Value} {m : List St} (h : Shape w v xs m) (hg : w.grownBy w' v.ownBlock) (hv : v'.ownBlock = v.ownBlock ∨ v'.ownBlock = some w.heap.size) : Shape w' v' xs m := by
  intro k s hk
  obtain ⟨P, c, P2, c2, h0, h1, h2, ⟨h3, n3⟩, h4, n4⟩ := h k s hk
  exact ⟨P, c, P2, c2, h0, h1, h2, ⟨h3.grown n3 hg, n3.grown h3 hv⟩, h4.grown n4 hg, n4.grown h4 hv⟩
theorem OwnSt.on {w w' : World} {base : Nat} {v : Value} {m : List St} (h : OwnSt w base v m) (hb : Below w.heap.size w w') : OwnSt w' base v m := by
  obtain ⟨xs, ho, hs⟩ := h
  exact ⟨xs, own_below ho hb, hs.on hb⟩
theorem Shape.snoc {w : World} {v : Value} {xs : List Value} {m : List St} {s : St} {P P2 : Option Addr} {c c2 : Nat} (h : Shape w v xs m) (hx : xs.length = m.length * 3) (h3 : StrL w w.heap.size P s.ac) (n3 : NotIn v P s.ac.length) (h4 : StrL w w.heap.size P2 s.re) (n4 : NotIn v P2 s.re.length) :
    Shape w v (xs ++ [.bool s.al, .slice P s.ac.length c, .slice P2 s.re.length c2]) (m ++ [s]) := by
  intro k t hk
  rcases Nat.lt_or_ge k m.length with hlt | hge
  · rw [List.getElem?_append_left hlt] at hk
    obtain ⟨Q, d, Q2, d2, g0, g1, g2, g3, g4⟩ := h k t hk
    exact ⟨Q, d, Q2, d2, by rw [List.getElem?_append_left (by omega)]; exact g0, by rw [List.getElem?_append_left (by omega)]; exact g1, by rw [List.getElem?_append_left (by omega)]; exact g2, g3, g4⟩
  · have hk2 : k < (m ++ [s]).length := (List.getElem?_eq_some_iff.1 hk).1
    rw [List.length_append, List.length_singleton] at hk2
    obtain rfl : k = m.length := by omega
    rw [List.getElem?_append_right (Nat.le_refl _), Nat.sub_self] at hk
    obtain rfl : s = t := Option.some.inj hk
    refine ⟨P, c, P2, c2, ?_, ?_, ?_, ⟨h3, n3⟩, h4, n4⟩
    · rw [List.getElem?_append_right (by omega), show m.length * 3 - xs.length = 0 by omega]; rfl
    · rw [List.getElem?_append_right (by omega), show m.length * 3 + 1 - xs.length = 1 by omega]; rfl
    · rw [List.getElem?_append_right (by omega), show m.length * 3 + 2 - xs.length = 2 by omega]; rfl
/-- One statement more. -/
theorem OwnSt.push {w w' : World} {base : Nat} {v v' : Value} {xs : List Value} {m : List St} {s : St} {P P2 : Option Addr} {c c2 : Nat} (hsh : Shape w v xs m)
    (ho : w'.ownsRow base 31 3 v' (m.length + 1) (xs ++ [.bool s.al, .slice P s.ac.length c, .slice P2 s.re.length c2])) (hg : w.grownBy w' v.ownBlock) (hv : v'.ownBlock = v.ownBlock ∨ v'.ownBlock = some w.heap.size)
    (h3 : StrL w w.heap.size P s.ac) (n3 : NotIn v P s.ac.length) (h4 : StrL w w.heap.size P2 s.re) (n4 : NotIn v P2 s.re.length) : OwnSt w' base v' (m ++ [s]) := by
  have hx : xs.length = m.length * 3 := by have := ho.1; rw [List.length_append] at this; simp at this; omega
  refine ⟨_, ?_, (hsh.grown hg hv).snoc (c := c) (c2 := c2) hx (h3.grown n3 hg) (n3.grown h3 hv) (h4.grown n4 hg) (n4.grown h4 hv)⟩
  rw [List.length_append, List.length_singleton]
  exact ho
theorem OwnSt.reads {w : World} {base : Nat} {v : Value} {m : List St} (h : OwnSt w base v m) : ∃ p c, v = .slice p m.length c ∧ StsAt w w.heap.size p m := by
  obtain ⟨xs, ho, hs⟩ := h
  obtain ⟨p, c, rfl, hr⟩ := own_reads ho
  refine ⟨p, c, rfl, fun k s hk => ?_⟩
  obtain ⟨P, d, P2, d2, h0, h1, h2, ⟨h3, -⟩, h4, -⟩ := hs k s hk
  have hlt : k < m.length := (List.getElem?_eq_some_iff.1 hk).1
  obtain ⟨b, o, rfl, hb, hc⟩ := hr.2 (by omega)
  exact ⟨b, o, P, d, P2, d2, rfl, hb, hc _ _ h0, hc _ _ h1, hc _ _ h2, h3, h4⟩
theorem redS_len (l : List St) : ∀ n, (redS l n).length ≤ n
  | 0 => by simp [redS]
  | n + 1 => by
    have := redS_len l n
    unfold redS
    split
    · rw [List.length_append]
      have : (l[n]?).toList.length ≤ 1 := by cases l[n]? <;> simp
      omega
    · omega
theorem kil_some {l : List St} {i j : Nat} {s t : St} (hi : l[i]? = some s) (hj : l[j]? = some t) : kil l i j = (decide (j ≠ i) && (t.cv s && (decide (j < i) || !s.cv t))) := by unfold kil; rw [hi, hj]
theorem red_yes {l : List St} {k : Nat} {s : St} (hk : l[k]? = some s) (h : (s.ok && !dropB l k l.length) = true) : redS l (k + 1) = redS l k ++ [s] := by
  have : keepB l k = true := by unfold keepB; rw [hk]; exact h
  conv => lhs; unfold redS
  rw [if_pos this, hk]; rfl
theorem red_no {l : List St} {k : Nat} {s : St} (hk : l[k]? = some s) (h : (s.ok && !dropB l k l.length) = false) : redS l (k + 1) = redS l k := by
  have : keepB l k = false := by unfold keepB; rw [hk]; exact h
  conv => lhs; unfold redS
  rw [if_neg (by rw [this]; simp)]
theorem rCovers_sat (a b : St) (va vb : Value) (W : World) (d : Nat) (os : Array Obj) (hva : StV W W.heap.size va a) (hza : SzSt a) (hvb : StV W W.heap.size vb b) (hzb : SzSt b) :
    Calls Tryd.prog 21 #[va, vb] (grow (redrawn W d) os) fun e w' => e = .returned (.bool (a.cv b)) ∧ ∃ p : Regrown, w' = grow (redrawn W p.d) p.os :=
  Calls.regrown_of (rCovers_any a b va vb _ (hva.on (below_regrown W d os)) hza (hvb.on (below_regrown W d os)) hzb)
end Go.Proofs.YtcmlgiilifdnfaaDoor
