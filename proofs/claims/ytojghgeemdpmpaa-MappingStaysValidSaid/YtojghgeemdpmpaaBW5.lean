/- Lists of batches in memory that a call itself makes. -/
import Derived.Test.YtojghgeemdpmpaaBW4
import Derived.Lib.QuietBelow
namespace Go.Proofs.Ytojghgeemdpmpaa
open Go.RowKit
open Go.Sort (grow)

/-- A batch in memory. -/
structure BatchX where
  a : Option Addr
  c : Nat
  l : List RecX
def BatchX.val (b : BatchX) : Value := .slice b.a b.l.length b.c
def BatchX.flat (b : BatchX) : List Value := b.l.flatMap RecX.cells
/-- The call owns the row of a batch, which is not empty. -/
def BatchX.Own (w : World) (base : Nat) (b : BatchX) : Prop := 0 < b.l.length ∧ w.ownsRow base 54 10 b.val b.l.length b.flat
/-- The call owns a list of batches: its row, their rows, all apart. -/
structure OutInv (w : World) (base : Nat) (v : Value) (bs : List BatchX) : Prop where
  row : w.ownsRow base 28 1 v bs.length (bs.map BatchX.val)
  own : ∀ b ∈ bs, b.Own w base
  apart : bs.Pairwise fun x y => x.val.ownBlock ≠ y.val.ownBlock

theorem BatchX.Own.block {w : World} {base : Nat} {b : BatchX} (h : b.Own w base) : ∃ g, b.a = some ⟨g, 0, none⟩ ∧ b.val.ownBlock = some g ∧ base ≤ g ∧ g < w.heap.size ∧ ∃ cur, w.heap[g]? = some (.cells cur 54 (0, 0)) := by
  rcases h.2.2 with ⟨_, h0⟩ | ⟨g, cap, cur, hv, hb, hg, _⟩
  · have := h.1; omega
  · have ha : b.a = some ⟨g, 0, none⟩ := by unfold BatchX.val at hv; injection hv
    exact ⟨g, ha, by simp [BatchX.val, Value.ownBlock, ha], hb, (Array.getElem?_eq_some_iff.1 hg).1, cur, hg⟩

/-- Under a change to one row (and new blocks) a batch whose row it is not stays owned. -/
theorem BatchX.Own.kept {w w' : World} {base : Nat} {b : BatchX} {row : Option Nat} (h : b.Own w base) (hg : w.grownBy w' row) (hne : b.val.ownBlock ≠ row) : b.Own w' base :=
  ⟨h.1, h.2.kept hg (.inr hne)⟩
theorem BatchX.Own.recs {w : World} {base B : Nat} {b : BatchX} (h : b.Own w base) (hB : w.heap.size ≤ B) (hb : ∀ x ∈ b.l, BodyAt w B x) : RecsAt w B b.a b.l :=
  ⟨(Reads.of_own h.2).more hB, hb⟩

/-- The row of the list of batches is no batch's row. -/
theorem OutInv.ne_row {w : World} {base : Nat} {v : Value} {bs : List BatchX} (h : OutInv w base v bs) {b : BatchX} (hb : b ∈ bs) : b.val.ownBlock ≠ v.ownBlock := by
  obtain ⟨g, ha, ho, _, _, cur, hg⟩ := (h.own b hb).block
  rw [ho]
  intro e
  rcases h.row.2 with ⟨rfl, _⟩ | ⟨g', cap, cur', rfl, _, hg', _⟩
  · simp [Value.ownBlock] at e
  · simp [Value.ownBlock] at e
    subst e
    rw [hg] at hg'
    injection hg' with hg'
    injection hg' with _ ht
    exact absurd ht (by decide)

theorem OutInv.nil (w : World) (base : Nat) : OutInv w base (.slice none 0 0) [] := ⟨World.ownsRow_nil _ _ _ _, by simp, by simp⟩
theorem OutInv.alloc {w : World} {base : Nat} {v : Value} {bs : List BatchX} (h : OutInv w base v bs) (o : Obj) : OutInv (w.alloc o) base v bs :=
  ⟨h.row.alloc o, fun b hb => ⟨(h.own b hb).1, (h.own b hb).2.alloc o⟩, h.apart⟩
/-- Nothing of what was there has turned. -/
theorem OutInv.below {w w' : World} {base : Nat} {v : Value} {bs : List BatchX} (h : OutInv w base v bs) (hb : Below w.heap.size w w') : OutInv w' base v bs := by
  have hg : w.grownBy w' none := ⟨hb.os, hb.tape, hb.output, hb.size, fun k hk _ => hb.block k hk⟩
  refine ⟨h.row.kept hg ?_, fun b hbm => ⟨(h.own b hbm).1, (h.own b hbm).2.kept hg ?_⟩, h.apart⟩
  · cases v.ownBlock <;> simp
  · cases b.val.ownBlock <;> simp

theorem OutInv.shape {w : World} {base : Nat} {v : Value} {bs : List BatchX} (h : OutInv w base v bs) : ∃ A c, v = .slice A bs.length c := by
  rcases h.row.2 with ⟨rfl, h0⟩ | ⟨g, cap, cur, rfl, _⟩
  · exact ⟨none, 0, by rw [h0]⟩
  · exact ⟨_, _, rfl⟩
theorem OutInv.shape0 {w : World} {base : Nat} {v : Value} (h : OutInv w base v []) : ∃ A c, v = .slice A 0 c := h.shape
theorem OutInv.drewN {w : World} {base : Nat} {v : Value} {bs : List BatchX} (h : OutInv w base v bs) (n : Nat) : OutInv (w.drewN n) base v bs := ⟨h.row, h.own, h.apart⟩
theorem OutInv.drew {w : World} {base : Nat} {v : Value} {bs : List BatchX} (h : OutInv w base v bs) : OutInv w.drew base v bs := ⟨h.row, h.own, h.apart⟩
theorem OutInv.shape1 {w : World} {base : Nat} {v : Value} {bs : List BatchX} {b : BatchX} (h : OutInv w base v (bs ++ [b])) : ∃ g c, v = .slice (some ⟨g, 0, none⟩) (bs.length + 1) c ∧ base ≤ g ∧ g < w.heap.size ∧ bs.length + 1 ≤ c ∧
    w.cell? ⟨g, bs.length, none⟩ = some b.val ∧ w.frozen? ⟨g, bs.length, none⟩ = false := by
  have hr := h.row
  rw [List.length_append, List.length_singleton] at hr
  rcases hr.2 with ⟨_, h0⟩ | ⟨g, cap, cur, rfl, hg, hgg, hcap, _⟩
  · omega
  · refine ⟨g, cap, rfl, hg, (Array.getElem?_eq_some_iff.1 hgg).1, hcap, ?_, hr.frozenAt _⟩
    rw [hr.cellAt bs.length (by omega)]
    simp

/-- A new batch of one record at the end: its row is new, the row of the list may have moved. -/
theorem OutInv.push {w w2 : World} {base gg n : Nat} {v v' : Value} {bs : List BatchX} {x : RecX} {o : Obj} (h : OutInv w base v bs) (hbase : base ≤ w.heap.size) (hgg : gg = w.heap.size) (hn : n = bs.length + 1)
    (hown : w2.ownsRow base 28 1 v' n (bs.map BatchX.val ++ [.slice (some ⟨gg, 0, none⟩) 1 1])) (hg : ((w.alloc (.cells x.cells.toArray 54)).alloc o).grownBy w2 v.ownBlock) :
    OutInv w2 base v' (bs ++ [⟨some ⟨gg, 0, none⟩, 1, [x]⟩]) := by
  subst hgg hn
  have hvlt : ∀ k, v.ownBlock = some k → k < w.heap.size := fun k hk => (h.row.lt k hk).2
  refine ⟨?_, ?_, ?_⟩
  · rw [List.length_append, List.map_append]
    exact hown
  · intro b hb
    rcases List.mem_append.1 hb with hb | hb
    · have hne := h.ne_row hb
      exact (((h.alloc _).alloc o).own b hb).kept hg hne
    · simp only [List.mem_singleton] at hb
      subst hb
      refine ⟨by simp, ?_⟩
      have h0 := World.ownsRow_lit (w := w) (e := 54) (size := 10) x.cells.toArray 1 hbase (by decide) (by simp [RecX.cells])
      have h1 := h0.alloc o
      have h2 := h1.kept hg (.inr (by
        intro e
        have := hvlt w.heap.size (by rw [← e]; rfl)
        omega))
      simpa [BatchX.val, BatchX.flat] using h2
  · rw [List.pairwise_append]
    refine ⟨h.apart, by simp, fun a ha b hb => ?_⟩
    simp only [List.mem_singleton] at hb
    subst hb
    obtain ⟨g, _, ho, _, hlt, _⟩ := (h.own a ha).block
    rw [ho]
    intro e
    simp [BatchX.val, Value.ownBlock] at e
    omega

theorem length_le_flat : ∀ bs : List BatchX, (∀ b ∈ bs, 0 < b.l.length) → bs.length ≤ (bs.map (·.l)).flatten.length
  | [], _ => by simp
  | b :: bs, h => by
    have h1 := h b (by simp)
    have h2 := length_le_flat bs fun x hx => h x (by simp [hx])
    simp only [List.length_cons, List.map_cons, List.flatten_cons, List.length_append]
    omega
theorem OutInv.len_le {w : World} {base : Nat} {v : Value} {bs : List BatchX} (h : OutInv w base v bs) : bs.length ≤ (bs.map (·.l)).flatten.length := length_le_flat bs fun b hb => (h.own b hb).1
/-- Behind the append onto the last batch, ahead of the store of its value. -/
theorem OutInv.grow_cell {w w2 : World} {base : Nat} {g cap n : Nat} {bs : List BatchX} {b : BatchX} {xs : List Value} {v' : Value} {o : Obj} (h : OutInv w base (.slice (some ⟨g, 0, none⟩) (bs.length + 1) cap) (bs ++ [b]))
    (hown : w2.ownsRow base 54 10 v' (n + 1) xs) (hg : (w.alloc o).grownBy w2 b.val.ownBlock) :
    (∃ a' c', v' = .slice a' (n + 1) c') ∧ w2.cell? ⟨g, bs.length, none⟩ = some b.val ∧ w2.frozen? ⟨g, bs.length, none⟩ = false := by
  have hrow1 : (w.alloc o).ownsRow base 28 1 (.slice (some ⟨g, 0, none⟩) (bs.length + 1) cap) (bs.length + 1) ((bs ++ [b]).map BatchX.val) := by
    have := h.row.alloc o
    simpa using this
  have hgne : (Value.slice (some ⟨g, 0, none⟩) (bs.length + 1) cap).ownBlock ≠ b.val.ownBlock := fun e => h.ne_row (b := b) (by simp) e.symm
  have hrow2 := hrow1.kept hg (.inr hgne)
  refine ⟨?_, ?_, hrow2.frozenAt _⟩
  · rcases hown.2 with ⟨_, h0⟩ | ⟨g', cap', cur, rfl, _⟩
    · omega
    · exact ⟨_, _, rfl⟩
  · rw [hrow2.cellAt bs.length (by omega)]
    simp
/-- The last batch has grown by one record; its new value has been stored into the list's row. -/
theorem OutInv.grow {w w1 w2 : World} {base : Nat} {g cap : Nat} {bs : List BatchX} {b : BatchX} {x : RecX} {v' : Value} {o : Obj} (h : OutInv w base (.slice (some ⟨g, 0, none⟩) (bs.length + 1) cap) (bs ++ [b]))
    (hw1 : w1 = w.alloc o) (hown : w2.ownsRow base 54 10 v' (b.l.length + 1) (b.flat ++ x.cells)) (hg : w1.grownBy w2 b.val.ownBlock)
    (hblk : v'.ownBlock = b.val.ownBlock ∨ v'.ownBlock = some w1.heap.size) {a'' : Option Addr} {n'' c'' : Nat} (hv : v' = .slice a'' n'' c'') :
    OutInv (w2.setCell ⟨g, bs.length, none⟩ (.slice a'' n'' c'')) base (.slice (some ⟨g, 0, none⟩) (bs.length + 1) cap) (bs ++ [⟨a'', c'', b.l ++ [x]⟩]) := by
  subst hw1
  have hb : b.Own w base := h.own b (by simp)
  obtain ⟨gb, hba, hbo, hbb, hblt, curb, hgb⟩ := hb.block
  have hshape : ∃ a' c', v' = .slice a' (b.l.length + 1) c' := by
    rcases hown.2 with ⟨_, h0⟩ | ⟨g', cap', cur, rfl, _⟩
    · omega
    · exact ⟨_, _, rfl⟩
  obtain ⟨a', c', rfl⟩ := hshape
  injection hv with h1 h2 h3
  subst h1 h2 h3
  have hrow1 : (w.alloc o).ownsRow base 28 1 (.slice (some ⟨g, 0, none⟩) (bs.length + 1) cap) (bs.length + 1) ((bs ++ [b]).map BatchX.val) := by
    have := h.row.alloc o
    simpa using this
  have hgne : (Value.slice (some ⟨g, 0, none⟩) (bs.length + 1) cap).ownBlock ≠ b.val.ownBlock := fun e => h.ne_row (b := b) (by simp) e.symm
  have hrow2 := hrow1.kept hg (.inr hgne)
  have hrow3 := (hrow2.stored bs.length (.slice a' (b.l.length + 1) c'))
  have hglt : g < w.heap.size := (h.row.lt g rfl).2
  -- the new row of the batch is not the list's
  have hnewne : some g ≠ (Value.slice a' (b.l.length + 1) c').ownBlock := by
    rcases hblk with e | e <;> rw [e]
    · exact hgne
    · simp; omega
  have hgr3 : w2.grownBy (w2.setCell ⟨g, bs.length, none⟩ (.slice a' (b.l.length + 1) c')) (some g) := hrow3.2
  refine ⟨?_, ?_, ?_⟩
  · have := hrow3.1
    simp only [List.map_append, List.length_append, List.length_singleton, List.map_cons, List.map_nil] at this ⊢
    have e : (bs.map BatchX.val ++ [b.val]).set bs.length (.slice a' (b.l.length + 1) c') = bs.map BatchX.val ++ [BatchX.val ⟨a', c', b.l ++ [x]⟩] := by
      rw [List.set_append_right _ _ (by simp)]
      simp [BatchX.val]
    rw [e] at this
    exact this
  · intro z hz
    rcases List.mem_append.1 hz with hz | hz
    · have hzo : z.Own w base := h.own z (by simp [hz])
      obtain ⟨gz, _, hzb, _, hzlt, _⟩ := hzo.block
      have hap : z.val.ownBlock ≠ b.val.ownBlock := by
        have := h.apart
        rw [List.pairwise_append] at this
        exact this.2.2 z hz b (by simp)
      have hzg : z.val.ownBlock ≠ some g := fun e => h.ne_row (b := z) (by simp [hz]) e
      have h1 : z.Own (w.alloc o) base := ⟨hzo.1, hzo.2.alloc o⟩
      exact (h1.kept hg hap).kept hgr3 hzg
    · simp only [List.mem_singleton] at hz
      subst hz
      refine ⟨by simp, ?_⟩
      have := hown.kept hgr3 (.inr hnewne.symm)
      simpa [BatchX.val, BatchX.flat] using this
  · rw [List.pairwise_append]
    have hap := h.apart
    rw [List.pairwise_append] at hap
    refine ⟨hap.1, by simp, fun a ha z hz => ?_⟩
    simp only [List.mem_singleton] at hz
    subst hz
    have hne := hap.2.2 a ha b (by simp)
    show a.val.ownBlock ≠ (Value.slice a' (b.l ++ [x]).length c').ownBlock
    have e2 : (Value.slice a' (b.l ++ [x]).length c').ownBlock = (Value.slice a' (b.l.length + 1) c').ownBlock := by simp
    rw [e2]
    rcases hblk with e | e <;> rw [e]
    · exact hne
    · obtain ⟨ga, _, hao, _, halt, _⟩ := (h.own a (by simp [ha])).block
      rw [hao]
      simp
      omega
end Go.Proofs.Ytojghgeemdpmpaa
