/- What a call may change of old memory. -/
import Derived.Test.YtmpaogmfceldjaaDoorU4
namespace Go.Proofs.YtmpaogmfceldjaaDoor
open Go.RowKit

/-- Of the blocks that were there only those of S may have changed. -/
structure Chg (S : Nat → Prop) (w w' : World) : Prop where
  os : w'.os = w.os
  tape : w'.tape = w.tape
  output : w'.output = w.output
  size : w.heap.size ≤ w'.heap.size
  block : ∀ k, k < w.heap.size → ¬ S k → w'.heap[k]? = w.heap[k]?

section
variable {S T : Nat → Prop} {a w w' : World}
theorem Chg.refl (S : Nat → Prop) (w : World) : Chg S w w := ⟨rfl, rfl, rfl, Nat.le_refl _, fun _ _ _ => rfl⟩
theorem Chg.trans (h : Chg S a w) (k : Chg T w w') (hT : ∀ k, k < a.heap.size → T k → S k) : Chg S a w' :=
  ⟨k.os.trans h.os, k.tape.trans h.tape, k.output.trans h.output, Nat.le_trans h.size k.size, fun i hi hn => (k.block i (Nat.lt_of_lt_of_le hi h.size) (fun ht => hn (hT i hi ht))).trans (h.block i hi hn)⟩
theorem Chg.mono (h : Chg S w w') (hs : ∀ k, S k → T k) : Chg T w w' := ⟨h.os, h.tape, h.output, h.size, fun k hk hn => h.block k hk fun hh => hn (hs k hh)⟩
theorem Chg.of_below (hb : Below w.heap.size w w') : Chg S w w' := ⟨hb.os, hb.tape, hb.output, hb.size, fun k hk _ => hb.block k hk⟩
theorem Chg.below (h : Chg S a w) (hb : Below w.heap.size w w') : Chg S a w' := h.trans (T := fun _ => False) (Chg.of_below hb) (fun _ _ h => h.elim)
theorem Chg.alloc (h : Chg S a w) (o : Obj) : Chg S a (w.alloc o) := h.below ((Below.refl _ _).alloc (Nat.le_refl _) _)
theorem Chg.drewN (h : Chg S a w) (n : Nat) : Chg S a (w.drewN n) := h.below (below_drewN' _ _ _)
theorem Chg.drew (h : Chg S a w) : Chg S a w.drew := h.drewN 1
theorem Chg.setCell (h : Chg S a w) {p : Addr} (hp : p.block < a.heap.size → S p.block) (u : Value) : Chg S a (w.setCell p u) :=
  h.trans (T := fun k => k = p.block) ⟨rfl, rfl, rfl, by simp [World.setCell], fun k _ hk => Below.heap_setCell _ _ _ _ hk⟩ (fun k hk e => by subst e; exact hp hk)
theorem Chg.grown {row : Option Nat} (h : Chg S a w) (hg : w.grownBy w' row) (hr : ∀ k, row = some k → k < a.heap.size → S k) : Chg S a w' :=
  h.trans (T := fun k => row = some k) ⟨hg.os, hg.tape, hg.output, hg.size, fun k hk hn => hg.block k hk (fun e => hn e.symm)⟩ (fun k hk e => hr k e hk)
theorem Chg.toBelow {B : Nat} (h : Chg S a w) (hS : ∀ k, S k → B ≤ k) (hB : B ≤ a.heap.size) : Below B a w :=
  ⟨h.os, h.tape, h.output, h.size, fun k hk => h.block k (by omega) (fun hs => by have := hS k hs; omega)⟩
theorem Chg.cell (h : Chg S w w') {p : Addr} (hp : p.block < w.heap.size) (hn : ¬ S p.block) : w'.cell? p = w.cell? p := World.cell?_of_block (w := w) (h.block _ hp hn)
theorem Chg.blk {g : Nat} {t : TypeId} {cs : Array Value} (hc : Chg S w w') (h : Blk w g t cs) (hn : ¬ S g) : Blk w' g t cs := (hc.block g h.lt hn).trans h
theorem Chg.own {base : Nat} {e : TypeId} {sz n : Nat} {v : Value} {xs : List Value} (hc : Chg S w w') (h : w.ownsRow base e sz v n xs) (hn : ∀ k, v.ownBlock = some k → ¬ S k) : w'.ownsRow base e sz v n xs := by
  refine ⟨h.1, ?_⟩
  rcases h.2 with h0 | ⟨g, cap, cur, hv, hb, hg, r⟩
  · exact .inl h0
  · refine .inr ⟨g, cap, cur, hv, hb, ?_, r⟩
    rw [hc.block g (Array.getElem?_eq_some_iff.1 hg).1 (hn g (by rw [hv]; rfl))]
    exact hg
/-- A change within what is new of the first world. -/
theorem Chg.narrow (h : Chg S a w) (k : Chg T w w') (hT : ∀ k, T k → S k ∨ a.heap.size ≤ k) : Chg S a w' := h.trans k fun i hi ht => by rcases hT i ht with h | h; exact h; omega
end
theorem decide_cases (p : Prop) [Decidable p] : (p ∧ decide p = true) ∨ (¬ p ∧ decide p = false) := by by_cases h : p <;> simp [h]
theorem own_eq (A : Option Addr) (n c : Nat) : (Value.slice A n c).ownBlock = A.map (·.block) := by cases A <;> rfl
theorem own_lt {w : World} {base : Nat} {e : TypeId} {sz n : Nat} {v : Value} {xs : List Value} (h : w.ownsRow base e sz v n xs) {k : Nat} (hk : v.ownBlock = some k) : base ≤ k ∧ k < w.heap.size := by
  rcases h.2 with ⟨rfl, _⟩ | ⟨g, cap, cur, hv, hb, hg, _⟩
  · simp [Value.ownBlock] at hk
  · rw [hv] at hk
    have : g = k := by simpa [Value.ownBlock] using hk
    subst this
    exact ⟨hb, (Array.getElem?_eq_some_iff.1 hg).1⟩
theorem own_blk {w : World} {base : Nat} {e : TypeId} {sz n : Nat} {v : Value} {xs : List Value} (h : w.ownsRow base e sz v n xs) {k : Nat} (hk : v.ownBlock = some k) : ∃ cs, Blk w k e cs := by
  rcases h.2 with ⟨rfl, _⟩ | ⟨g, cap, cur, hv, _, hg, _⟩
  · simp [Value.ownBlock] at hk
  · rw [hv] at hk
    have : g = k := by simpa [Value.ownBlock] using hk
    subst this
    exact ⟨_, hg⟩
theorem Blk.ne_ {w : World} {g g' : Nat} {t t' : TypeId} {cs cs' : Array Value} (h : Blk w g t cs) (h' : Blk w g' t' cs') (hne : t ≠ t') : g ≠ g' := by
  rintro rfl
  unfold Blk at h h'
  rw [h] at h'
  injection h' with h'
  injection h' with _ ht
  exact hne ht
/-- A row of another element type lies elsewhere. -/
theorem Blk.off {w : World} {g : Nat} {t : TypeId} {cs : Array Value} (h : Blk w g t cs) {base : Nat} {e : TypeId} {sz n : Nat} {v : Value} {xs : List Value} (ho : w.ownsRow base e sz v n xs) (hne : t ≠ e) {k : Nat} (hk : v.ownBlock = some k) : g ≠ k := by
  obtain ⟨cs', h'⟩ := own_blk ho hk
  exact h.ne_ h' hne
end Go.Proofs.YtmpaogmfceldjaaDoor
