/- Collectors in memory: what they use, what a call may change. -/
import Derived.Test.YtfgohjoamifpiaaWA
namespace Go.Proofs.Ytfgohjoamifpiaa
open Go.RowKit
open Go.Sort (grow)

/-- Of the blocks that were there only those of S may have changed. -/
structure Chg (S : Nat → Prop) (w w' : World) : Prop where
  os : w'.os = w.os
  tape : w'.tape = w.tape
  output : w'.output = w.output
  size : w.heap.size ≤ w'.heap.size
  block : ∀ k, k < w.heap.size → ¬ S k → w'.heap[k]? = w.heap[k]?

section
variable {S T : Nat → Prop} {a w w' : World}
theorem Chg.refl (S : Nat → Prop) (w : World) : Chg S w w := ⟨rfl, rfl, rfl, Nat.le_refl _, fun _ _ _ => rfl⟩
theorem Chg.trans (h : Chg S a w) (k : Chg T w w') (hT : ∀ k, k < a.heap.size → T k → S k) : Chg S a w' :=
  ⟨k.os.trans h.os, k.tape.trans h.tape, k.output.trans h.output, Nat.le_trans h.size k.size, fun i hi hn => (k.block i (Nat.lt_of_lt_of_le hi h.size) (fun ht => hn (hT i hi ht))).trans (h.block i hi hn)⟩
theorem Chg.mono (h : Chg S w w') (hs : ∀ k, S k → T k) : Chg T w w' := ⟨h.os, h.tape, h.output, h.size, fun k hk hn => h.block k hk fun hh => hn (hs k hh)⟩
theorem Chg.of_below (hb : Below w.heap.size w w') : Chg S w w' := ⟨hb.os, hb.tape, hb.output, hb.size, fun k hk _ => hb.block k hk⟩
theorem Chg.below (h : Chg S a w) (hb : Below w.heap.size w w') : Chg S a w' := h.trans (T := fun _ => False) (Chg.of_below hb) (fun _ _ h => h.elim)
theorem Chg.alloc (h : Chg S a w) (o : Obj) : Chg S a (w.alloc o) := h.below ((Below.refl _ _).alloc (Nat.le_refl _) _)
theorem Chg.drewN (h : Chg S a w) (n : Nat) : Chg S a (w.drewN n) := h.below (World.below_drewN' _ _ _)
theorem Chg.setCell (h : Chg S a w) {p : Addr} (hp : p.block < a.heap.size → S p.block) (u : Value) : Chg S a (w.setCell p u) :=
  h.trans (T := fun k => k = p.block) ⟨rfl, rfl, rfl, by simp [World.setCell], fun k _ hk => Below.heap_setCell _ _ _ _ hk⟩ (fun k hk e => by subst e; exact hp hk)
theorem Chg.grown {row : Option Nat} (h : Chg S a w) (hg : w.grownBy w' row) (hr : ∀ k, row = some k → k < a.heap.size → S k) : Chg S a w' :=
  h.trans (T := fun k => row = some k) ⟨hg.os, hg.tape, hg.output, hg.size, fun k hk hn => hg.block k hk (fun e => hn e.symm)⟩ (fun k hk e => hr k e hk)
theorem Chg.toBelow {B : Nat} (h : Chg S a w) (hS : ∀ k, S k → B ≤ k) (hB : B ≤ a.heap.size) : Below B a w :=
  ⟨h.os, h.tape, h.output, h.size, fun k hk => h.block k (by omega) (fun hs => by have := hS k hs; omega)⟩
theorem Chg.cell (h : Chg S w w') {p : Addr} (hp : p.block < w.heap.size) (hn : ¬ S p.block) : w'.cell? p = w.cell? p := World.cell?_of_block (w := w) (h.block _ hp hn)
end

/-- What a list of records in memory rests on, from block 'base' on. -/
def rowFoot (base : Nat) (A : Option Addr) (xs : List RecX) (k : Nat) : Prop :=
  base ≤ k ∧ ((0 < xs.length ∧ ∃ ad, A = some ad ∧ ad.block = k) ∨ ∃ x ∈ xs, 0 < x.r.body.length ∧ ∃ ad, x.ba = some ad ∧ ad.block = k)
theorem RecsAt.chg {S : Nat → Prop} {w w' : World} {base : Nat} {A : Option Addr} {xs : List RecX} (h : RecsAt w w.heap.size A xs) (hc : Chg S w w') (hS : ∀ k, S k → base ≤ k) (hd : ∀ k, rowFoot base A xs k → ¬ S k) : RecsAt w' w'.heap.size A xs := by
  have key : ∀ k, ((0 < xs.length ∧ ∃ ad, A = some ad ∧ ad.block = k) ∨ ∃ x ∈ xs, 0 < x.r.body.length ∧ ∃ ad, x.ba = some ad ∧ ad.block = k) → ¬ S k := by
    intro k hk hs
    exact hd k ⟨hS k hs, hk⟩ hs
  refine ⟨Reads.more (Reads.keepAt' h.1 fun hn ad ha hb o => ?_) hc.size, fun x hx => Reads.more (Reads.keepAt' (h.2 x hx) fun hn ad ha hb o => ?_) hc.size⟩
  · exact hc.cell (p := ⟨_, _, _⟩) hb (key _ (.inl ⟨hn, ad, ha, rfl⟩))
  · exact hc.cell (p := ⟨_, _, _⟩) hb (key _ (.inr ⟨x, hx, hn, ad, ha, rfl⟩))
theorem rowFoot.lt {w : World} {base k : Nat} {A : Option Addr} {xs : List RecX} (h : RecsAt w w.heap.size A xs) (hk : rowFoot base A xs k) : k < w.heap.size := by
  obtain ⟨_, ⟨hn, ad, ha, rfl⟩ | ⟨x, hx, hn, ad, ha, rfl⟩⟩ := hk
  · obtain ⟨b, o, e, hb, _⟩ := h.1.2 hn
    rw [ha] at e; injection e with e; subst e; exact hb
  · obtain ⟨b, o, e, hb, _⟩ := (h.2 x hx).2 hn
    rw [ha] at e; injection e with e; subst e; exact hb

/-- A collector at the head of block g: of type T, its cells laid out by 'lay'. -/
structure Col (T : TypeId) (lay : Value → Int → Int → Array Value) (w : World) (base g : Nat) (A : Option Addr) (c : Nat) (xs : List RecX) (first now : Int) : Prop where
  blk : w.heap[g]? = some (.cells (lay (.slice A xs.length c) first now) T (0, 0))
  mine : MineInv w base (.slice A xs.length c) xs
  hg : base ≤ g
  ne : (Value.slice A xs.length c).ownBlock ≠ some g
  bg : ∀ x ∈ xs, 0 < x.r.body.length → ∀ ad, x.ba = some ad → ad.block ≠ g

theorem Col.lt {T : TypeId} {lay : Value → Int → Int → Array Value} {w : World} {base g c : Nat} {A : Option Addr} {xs : List RecX} {first now : Int} (h : Col T lay w base g A c xs first now) : g < w.heap.size :=
  (Array.getElem?_eq_some_iff.1 h.blk).1
theorem Col.cell {T : TypeId} {lay : Value → Int → Int → Array Value} {w : World} {base g c : Nat} {A : Option Addr} {xs : List RecX} {first now : Int} (h : Col T lay w base g A c xs first now) (i : Nat) :
    w.cell? ⟨g, i, none⟩ = (lay (.slice A xs.length c) first now)[i]? := cell_of_row w g i _ T (0, 0) h.blk
theorem Col.frozen {T : TypeId} {lay : Value → Int → Int → Array Value} {w : World} {base g c : Nat} {A : Option Addr} {xs : List RecX} {first now : Int} (h : Col T lay w base g A c xs first now) (i : Nat) :
    w.frozen? ⟨g, i, none⟩ = false := by
  have := h.blk
  simp [World.frozen?, this]
/-- What a call on a collector may change of old memory. -/
def hot (g : Nat) (A : Option Addr) (k : Nat) : Prop := k = g ∨ A.map (·.block) = some k
/-- All that a collector rests on. -/
def foot (base g : Nat) (A : Option Addr) (xs : List RecX) (k : Nat) : Prop := hot g A k ∨ rowFoot base A xs k

section
variable {T : TypeId} {lay : Value → Int → Int → Array Value} {w w' : World} {base g c : Nat} {A : Option Addr} {xs : List RecX} {first now : Int}
theorem own_eq (A : Option Addr) (n c : Nat) : (Value.slice A n c).ownBlock = A.map (·.block) := by cases A <;> rfl
theorem Col.recs (h : Col T lay w base g A c xs first now) : RecsAt w w.heap.size A xs := h.mine.recs
theorem Col.hot_ge (h : Col T lay w base g A c xs first now) : ∀ k, hot g A k → base ≤ k := by
  rintro k (rfl | e)
  · exact h.hg
  · exact (h.mine.row.lt k (by rw [own_eq]; exact e)).1
theorem Col.foot_lt (h : Col T lay w base g A c xs first now) : ∀ k, foot base g A xs k → k < w.heap.size := by
  rintro k ((rfl | e) | hr)
  · exact h.lt
  · exact (h.mine.row.lt k (by rw [own_eq]; exact e)).2
  · exact rowFoot.lt h.recs hr
theorem Col.foot_ge (h : Col T lay w base g A c xs first now) : ∀ k, foot base g A xs k → base ≤ k := by
  rintro k (hh | hr)
  · exact h.hot_ge k hh
  · exact hr.1
/-- A collector under a change elsewhere. -/
theorem Col.chg {S : Nat → Prop} (h : Col T lay w base g A c xs first now) (hc : Chg S w w') (hS : ∀ k, S k → base ≤ k) (hd : ∀ k, foot base g A xs k → ¬ S k) : Col T lay w' base g A c xs first now := by
  have hrow : w'.ownsRow base 39 10 (.slice A xs.length c) xs.length (xs.flatMap RecX.cells) := by
    refine ⟨h.mine.row.1, ?_⟩
    rcases h.mine.row.2 with h0 | ⟨gg, cap, cur, hv, hb, hgg, r⟩
    · exact .inl h0
    · refine .inr ⟨gg, cap, cur, hv, hb, ?_, r⟩
      rw [hc.block gg (Array.getElem?_eq_some_iff.1 hgg).1 (hd gg (.inl (.inr (by rw [← own_eq A xs.length c, hv]; rfl))))]
      exact hgg
  refine ⟨?_, ⟨hrow, fun x hx => ((RecsAt.chg h.recs hc hS fun k hk => hd k (.inr hk)).2 x hx), h.mine.apart⟩, h.hg, h.ne, h.bg⟩
  rw [hc.block g h.lt (hd g (.inl (.inl rfl)))]
  exact h.blk
theorem Col.below (h : Col T lay w base g A c xs first now) (hb : Below w.heap.size w w') : Col T lay w' base g A c xs first now :=
  h.chg (S := fun _ => False) (Chg.of_below hb) (fun _ h => h.elim) (fun _ _ h => h)
/-- A store into the collector's own block. -/
theorem Col.of_store {cs : Array Value} {i : Nat} {u : Value} (hblk : w.heap[g]? = some (.cells cs T (0, 0))) (hm : MineInv w base (.slice A xs.length c) xs) (hg : base ≤ g) (hne : (Value.slice A xs.length c).ownBlock ≠ some g)
    (hbg : ∀ x ∈ xs, 0 < x.r.body.length → ∀ ad, x.ba = some ad → ad.block ≠ g) (hl : cs.setIfInBounds i u = lay (.slice A xs.length c) first now) : Col T lay (w.setCell ⟨g, i, none⟩ u) base g A c xs first now := by
  have hc : Chg (fun k => k = g) w (w.setCell ⟨g, i, none⟩ u) := Chg.setCell (S := fun k => k = g) (Chg.refl _ _) (p := ⟨g, i, none⟩) (fun _ => rfl) u
  have hs : (w.setCell ⟨g, i, none⟩ u).heap.size = w.heap.size := by simp [World.setCell]
  refine ⟨?_, ⟨?_, ?_, hm.apart⟩, hg, hne, hbg⟩
  · simp only [World.setCell, Array.getElem?_modify, if_true, hblk, Option.map_some]
    simp [hl]
  · refine ⟨hm.row.1, ?_⟩
    rcases hm.row.2 with h0 | ⟨gg, cap, cur, hv, hb, hgg, r⟩
    · exact .inl h0
    · refine .inr ⟨gg, cap, cur, hv, hb, ?_, r⟩
      rw [hc.block gg (Array.getElem?_eq_some_iff.1 hgg).1 (fun e => hne (by rw [hv]; simp [Value.ownBlock, e]))]
      exact hgg
  · intro x hx
    refine Reads.more (Reads.keepAt' (hm.body x hx) fun hn ad ha hb o => ?_) hc.size
    exact hc.cell (p := ⟨_, _, _⟩) hb (hbg x hx hn ad ha)
theorem Col.store (h : Col T lay w base g A c xs first now) (i : Nat) (u : Value) {first' now' : Int} (hl : (lay (.slice A xs.length c) first now).setIfInBounds i u = lay (.slice A xs.length c) first' now') :
    Col T lay (w.setCell ⟨g, i, none⟩ u) base g A c xs first' now' := Col.of_store h.blk h.mine h.hg h.ne h.bg hl
/-- The collector empties itself: the row stays, as a list of records of its own. -/
theorem Col.empty (h : Col T lay w base g A c xs first now) (i : Nat) (hl : (lay (.slice A xs.length c) first now).setIfInBounds i (.slice none 0 0) = lay (.slice none 0 0) first now) :
    Col T lay (w.setCell ⟨g, i, none⟩ (.slice none 0 0)) base g none 0 [] first now ∧ RecsAt (w.setCell ⟨g, i, none⟩ (.slice none 0 0)) (w.setCell ⟨g, i, none⟩ (.slice none 0 0)).heap.size A xs := by
  have hc : Chg (fun k => k = g) w (w.setCell ⟨g, i, none⟩ (.slice none 0 0)) := Chg.setCell (S := fun k => k = g) (Chg.refl _ _) (p := ⟨g, i, none⟩) (fun _ => rfl) _
  refine ⟨⟨?_, MineInv.nil _ _, h.hg, by simp [Value.ownBlock], by simp⟩, ?_⟩
  · have := h.blk
    simp only [World.setCell, Array.getElem?_modify, if_true, this, Option.map_some, List.length_nil]
    simp [hl]
  · refine RecsAt.chg (base := base) h.recs hc (fun k e => by subst e; exact h.hg) ?_
    rintro k ⟨_, ⟨hn, ad, ha, rfl⟩ | ⟨x, hx, hn, ad, ha, rfl⟩⟩ e
    · exact h.ne (by rw [own_eq, ha]; simp [e])
    · exact h.bg x hx hn ad ha e
end
end Go.Proofs.Ytfgohjoamifpiaa
