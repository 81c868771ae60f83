/- The symbolic machine: loads; how its states turn. -/
import Derived.Test.YtfhcngnmgfkdkaaGreatDoorTJ
namespace Go.Proofs.YtfhcngnmgfkdkaaGreatDoor
namespace Sy
open Go.RowKit

/-! ### loads -/
section
variable {P : Program} {E : Env} {A : SA} {a : Act} {B : Nat} {w0 w : World} {S : SH}
def CellsAtW (w : World) (r q : Nat) (xs : List Value) : Prop := ∀ (j : Nat) (y : Value), xs[j]? = some y → w.cell? ⟨r, q + j, none⟩ = some y
theorem cell_of_cells {w : World} {r : Nat} {arr : Array Value} {ty : TypeId} (h : w.heap[r]? = some (.cells arr ty (0, 0))) (j : Nat) : w.cell? ⟨r, j, none⟩ = arr[j]? := by
  simp [World.cell?, h]
theorem cells_seg {w : World} {r : Nat} {cs : List SV} {arr : Array Value} {ty : TypeId} (hw : w.heap[r]? = some (.cells arr ty (0, 0))) (hc : CellsOk E cs arr) {q n : Nat} {l : List SV} (hl : seg cs q n = some l) :
    ∃ xs, denL E l = some xs ∧ xs.length = n ∧ (∀ x ∈ xs, x.oneCell' = true) ∧ CellsAtW w r q xs := by
  obtain ⟨h1, h2, h3⟩ := seg_some hl
  have key : ∀ j, j < n → ∃ v x, l[j]? = some v ∧ den E v = some x ∧ x.oneCell' = true ∧ arr[q + j]? = some x := by
    intro j hj
    have hlt : q + j < cs.length := by omega
    obtain ⟨x, h4, h5, h6⟩ := hc (q + j) cs[q + j] (List.getElem?_eq_getElem hlt)
    exact ⟨_, x, by rw [h3 j hj, List.getElem?_eq_getElem hlt], h4, h5, h6⟩
  have hlt : ∀ j, j < n → q + j < arr.size := fun j hj => by
    obtain ⟨_, x, _, _, _, h⟩ := key j hj
    exact (Array.getElem?_eq_some_iff.1 h).1
  refine ⟨(arr.toList.drop q).take n, denL_of ?_ fun j v hv => ?_, ?_, fun x hx => ?_, fun j y hy => ?_⟩
  · rcases Nat.eq_zero_or_pos n with h | h
    · subst h; simpa using h2.symm
    · have := hlt (n - 1) (by omega)
      simp
      omega
  · have hj : j < n := by rw [← h2]; exact (List.getElem?_eq_some_iff.1 hv).1
    obtain ⟨v', x, h4, h5, _, h6⟩ := key j hj
    rw [hv] at h4
    injection h4 with h4
    subst h4
    exact ⟨x, h5, by simp [hj, h6]⟩
  · rcases Nat.eq_zero_or_pos n with h | h
    · subst h; simp
    · have := hlt (n - 1) (by omega)
      simp
      omega
  · obtain ⟨j, hj⟩ := List.mem_iff_getElem?.1 hx
    have hjn : j < n := by
      have := (List.getElem?_eq_some_iff.1 hj).1
      simp at this
      omega
    obtain ⟨v', x', _, _, h5, h6⟩ := key j hjn
    simp [hjn, h6] at hj
    subst hj
    exact h5
  · have hjn : j < n := by
      have := (List.getElem?_eq_some_iff.1 hy).1
      simp at this
      omega
    rw [cell_of_cells hw]
    simpa [hjn] using hy
theorem add_eq (r q j : Nat) : (⟨r, q, none⟩ : Addr).add j = ⟨r, q + j, none⟩ := add_lit' r q j
/-- A LOAD YIELDS ITS VALUE IN EVERY WORLD WHERE ITS CELLS ARE AS THEY ARE HERE. -/
theorem opL_ok (hI : Inv B w0 E S w) (hA : ARel E A a) {o : Oper} {v : SV} {id q : Nat} {l : List SV} (h : opL P A S o = some (v, id, q, l)) :
    ∃ r xs x, E.r id = some r ∧ denL E l = some xs ∧ den E v = some x ∧ CellsAtW w r q xs ∧ ∀ w', CellsAtW w' r q xs → (execOp a.eval o).run P w' = .ok (.value x) w' := by
  unfold opL at h
  split at h
  · rename_i t x ho
    split at h
    · rename_i id' q' hx
      obtain ⟨r, hr, hv⟩ := den_pt (hA.ev hx)
      split at h
      · rename_i ro cs sp hg
        obtain ⟨r', arr, ty, hr', hB, hw, hc, -⟩ := hI.blk _ _ hg
        rw [hr] at hr'
        injection hr' with hr'
        subst hr'
        split at h
        · rename_i ha
          split at h
          · rename_i n hn
            split at h
            · rename_i l' hs
              injection h with h
              injection h with h1 h2
              injection h2 with h2 h3
              injection h3 with h3 h4
              subst h1 h2 h3 h4
              obtain ⟨xs, h5, h6, -, h7⟩ := cells_seg hw hc hs
              refine ⟨r, xs, .agg xs.toArray, hr, h5, by simp [den, h5], h7, fun w' hw' => ?_⟩
              have hld := run_loadCells_list (P := P) w' ⟨r, q', none⟩ xs (fun j v hj => by rw [add_eq]; exact hw' j v hj)
              rw [h6] at hld
              simp [execOp, ho, Instr.loadAt, hv, Instr.sureAddr, loadVar, rAgg ha, rSz hn, hld]
            · cases h
          · cases h
        · rename_i ha
          split at h
          · rename_i u hu
            injection h with h
            injection h with h1 h2
            injection h2 with h2 h3
            injection h3 with h3 h4
            subst h1 h2 h3 h4
            obtain ⟨x', h5, -, h6⟩ := hc _ _ hu
            refine ⟨r, [x'], x', hr, by simp [denL, h5], h5, fun j y hj => ?_, fun w' hw' => ?_⟩
            · cases j with
              | zero =>
                simp only [List.getElem?_cons_zero, Option.some.injEq] at hj
                subst hj
                rw [cell_of_cells hw]
                exact h6
              | succ j => simp at hj
            · have := hw' 0 x' rfl
              simp only [Nat.add_zero] at this
              simp [execOp, ho, Instr.loadAt, hv, Instr.sureAddr, loadVar, rAgg ha, this]
          · cases h
        · cases h
      · cases h
    · cases h
  · cases h
end

/-! ### how states turn -/
def Env.ext (E : Env) (id r : Nat) (cp : Option Nat) : Env := ⟨fun k => if k = id then some r else E.r k, fun k => if k = id then cp else E.c k⟩
section
variable {E F : Env} {B : Nat} {w0 w w' : World} {S : SH}
theorem BOk.mono (hE : E.le F) {id : Nat} {b : SB} (h : BOk B E w id b) (hw : b.live = true → ∀ r, E.r id = some r → w'.heap[r]? = w.heap[r]?) : BOk B F w' id b := by
  cases b with
  | c ro cs sp =>
    obtain ⟨r, arr, ty, h1, h2, h3, h4, h5⟩ := h
    refine ⟨r, arr, ty, hE.1 _ _ h1, h2, by rw [hw rfl r h1]; exact h3, fun j v hv => ?_, fun hs => ?_⟩
    · obtain ⟨x, h6, h7, h8⟩ := h4 j v hv
      exact ⟨x, den_mono hE _ h6, h7, h8⟩
    · obtain ⟨c, h6, h7⟩ := h5 hs
      exact ⟨c, hE.2 _ _ h6, h7⟩
  | mp es ck =>
    obtain ⟨r, es', h1, h2, h3, h4, h5⟩ := h
    refine ⟨r, es', hE.1 _ _ h1, h2, by rw [hw rfl r h1]; exact h3, h4, fun j e he => ?_⟩
    obtain ⟨m, h6, k, v, h7, h8, h9⟩ := h5 j e he
    exact ⟨m, h6, k, v, den_mono hE _ h7, den_mono hE _ h8, h9⟩
  | dead => trivial
theorem BOk.real {id : Nat} {b : SB} (h : BOk B E w id b) (hl : b.live = true) : ∃ r, E.r id = some r ∧ r < w.heap.size := by
  cases b with
  | c ro cs sp =>
    obtain ⟨r, arr, ty, h1, h2, h3, -⟩ := h
    exact ⟨r, h1, (Array.getElem?_eq_some_iff.1 h3).1⟩
  | mp es ck =>
    obtain ⟨r, es', h1, h2, h3, -⟩ := h
    exact ⟨r, h1, (Array.getElem?_eq_some_iff.1 h3).1⟩
  | dead => cases hl
theorem Env.ext_le {id r : Nat} {cp : Option Nat} (h : E.r id = none) (k : E.c id = none) : E.le (E.ext id r cp) := by
  refine ⟨fun j x hj => ?_, fun j x hj => ?_⟩
  · unfold Env.ext
    simp only
    rw [if_neg (by intro e; subst e; rw [h] at hj; cases hj)]
    exact hj
  · unfold Env.ext
    simp only
    rw [if_neg (by intro e; subst e; rw [k] at hj; cases hj)]
    exact hj
theorem Inv.size (h : Inv B w0 E S w) : B ≤ w.heap.size := Nat.le_trans h.base h.below.size
/-- A block more, under a new name. -/
theorem Inv.ext {id r n : Nat} {cp : Option Nat} {b : SB} (h : Inv B w0 E S w) (hn : S.h.get id = none) (h16 : 16 ≤ id) (hid : id < 1000000) (hb : Below B w w')
    (hk : ∀ j b k, S.h.get j = some b → b.live = true → E.r j = some k → w'.heap[k]? = w.heap[k]? ∧ k ≠ r) (hB : BOk B (E.ext id r cp) w' id b) :
    Inv B w0 (E.ext id r cp) { h := S.h.put id b, nx := n } w' := by
  obtain ⟨f1, f2⟩ := h.fresh id hn h16
  have hE := Env.ext_le (r := r) (cp := cp) f1 f2
  refine ⟨h.below.trans hb, h.base, fun g hg => hE.1 _ _ (h.glob g hg), fun j hj h6 => ?_, fun j c hj => ?_, fun i j c d hi hj hc hd hij => ?_⟩
  · simp only at hj
    by_cases e : j = id
    · subst e
      rw [Tr.put_same _ _ _ hid] at hj
      cases hj
    · rw [Tr.put_other _ _ e] at hj
      obtain ⟨g1, g2⟩ := h.fresh j hj h6
      simp only [Env.ext, if_neg e]
      exact ⟨g1, g2⟩
  · simp only at hj
    by_cases e : j = id
    · subst e
      rw [Tr.put_same _ _ _ hid] at hj
      injection hj with hj
      subst hj
      exact hB
    · rw [Tr.put_other _ _ e] at hj
      exact (h.blk j c hj).mono hE fun hl k hk' => (hk j c k hj hl hk').1
  · simp only at hi hj
    have old : ∀ k c, k ≠ id → S.h.get k = some c → c.live = true → (E.ext id r cp).r k ≠ some r := by
      intro k c e hc hl
      simp only [Env.ext, if_neg e]
      obtain ⟨q, h1, -⟩ := (h.blk k c hc).real hl
      rw [h1]
      intro e2
      injection e2 with e2
      exact (hk k c q hc hl h1).2 e2
    have new : (E.ext id r cp).r id = some r := by simp [Env.ext]
    by_cases e : i = id
    · by_cases e2 : j = id
      · exact absurd (e.trans e2.symm) hij
      · rw [Tr.put_other _ _ e2] at hj
        subst e
        rw [new]
        exact Ne.symm (old j d e2 hj hd)
    · rw [Tr.put_other _ _ e] at hi
      by_cases e2 : j = id
      · subst e2
        rw [new]
        exact old i c e hi hc
      · rw [Tr.put_other _ _ e2] at hj
        simp only [Env.ext, if_neg e, if_neg e2]
        exact h.inj i j c d hi hj hc hd hij
theorem new_some {b : SB} {id : Nat} {S' : SH} (h : S.new b = some (id, S')) : id = S.nx ∧ S.h.get id = none ∧ 16 ≤ id ∧ id < 1000000 ∧ S' = { h := S.h.put id b, nx := id + 1 } := by
  unfold SH.new at h
  obtain ⟨h1, h2⟩ := need_some h
  obtain ⟨h1, h3⟩ := and2 h1
  split at h2
  · rename_i hg
    injection h2 with h2
    injection h2 with h2 h4
    subst h2 h4
    exact ⟨rfl, hg, leB h3, ltB h1, rfl⟩
  · cases h2
/-- A new block. -/
theorem Inv.alloc {id : Nat} {S' : SH} {b : SB} (h : Inv B w0 E S w) (hn : S.new b = some (id, S')) (o : Obj) (cp : Option Nat) (hB : E.le (E.ext id w.heap.size cp) → BOk B (E.ext id w.heap.size cp) (w.alloc o) id b) :
    E.le (E.ext id w.heap.size cp) ∧ Inv B w0 (E.ext id w.heap.size cp) S' (w.alloc o) := by
  obtain ⟨-, h1, h2, h3, rfl⟩ := new_some hn
  obtain ⟨f1, f2⟩ := h.fresh id h1 h2
  have hE := Env.ext_le (r := w.heap.size) (cp := cp) f1 f2
  refine ⟨hE, h.ext h1 h2 h3 ((Below.refl B w).alloc h.size o) (fun j c k hj hl hk => ?_) (hB hE)⟩
  obtain ⟨q, h5, h6⟩ := (h.blk j c hj).real hl
  rw [hk] at h5
  injection h5 with h5
  subst h5
  exact ⟨Below.heap_alloc w o k h6, by omega⟩
/-- A block that has turned. -/
theorem Inv.upd {id r : Nat} {b b' : SB} (h : Inv B w0 E S w) (hg : S.h.get id = some b) (hl : b.live = true) (hr : E.r id = some r) (hid : id < 1000000) (hb : Below B w w')
    (hk : ∀ k, k ≠ r → w'.heap[k]? = w.heap[k]?) (hB : BOk B E w' id b') : Inv B w0 E (S.upd id b') w' := by
  refine ⟨h.below.trans hb, h.base, h.glob, fun j hj h6 => ?_, fun j c hj => ?_, fun i j c d hi hj hc hd hij => ?_⟩
  · simp only [SH.upd] at hj
    by_cases e : j = id
    · subst e
      rw [Tr.put_same _ _ _ hid] at hj
      cases hj
    · rw [Tr.put_other _ _ e] at hj
      exact h.fresh j hj h6
  · simp only [SH.upd] at hj
    by_cases e : j = id
    · subst e
      rw [Tr.put_same _ _ _ hid] at hj
      injection hj with hj
      subst hj
      exact hB
    · rw [Tr.put_other _ _ e] at hj
      refine (h.blk j c hj).mono (Env.le.refl E) fun hcl k hk' => hk k ?_
      intro e2
      subst e2
      exact h.inj j id c b hj hg hcl hl e (hk'.trans hr.symm)
  · have lift : ∀ k c, (S.upd id b').h.get k = some c → c.live = true → ∃ c', S.h.get k = some c' ∧ c'.live = true := by
      intro k c hc hcl
      simp only [SH.upd] at hc
      by_cases e : k = id
      · subst e; exact ⟨b, hg, hl⟩
      · rw [Tr.put_other _ _ e] at hc; exact ⟨c, hc, hcl⟩
    obtain ⟨c', h1, h2⟩ := lift i c hi hc
    obtain ⟨d', h3, h4⟩ := lift j d hj hd
    exact h.inj i j c' d' h1 h3 h2 h4 hij
theorem Inv.drew (h : Inv B w0 E S w) {w' : World} (hh : w'.heap = w.heap) (ho : w'.os = w.os) (ht : w'.tape = w.tape) (hu : w'.output = w.output) : Inv B w0 E S w' :=
  ⟨h.below.trans ⟨ho, ht, hu, by rw [hh]; exact Nat.le_refl _, fun k _ => by rw [hh]⟩, h.base, h.glob, h.fresh, fun id b hg => (h.blk id b hg).mono (Env.le.refl E) fun _ _ _ => by rw [hh], h.inj⟩
/-- Whatever leaves alone what was there. -/
theorem Inv.on (h : Inv B w0 E S w) (hb : Below w.heap.size w w') : Inv B w0 E S w' :=
  ⟨h.below.trans (hb.mono h.size), h.base, h.glob, h.fresh, fun id b hg => (h.blk id b hg).mono (Env.le.refl E) fun hl r hr => by
    obtain ⟨q, h1, h2⟩ := (h.blk id b hg).real hl
    rw [hr] at h1
    injection h1 with h1
    subst h1
    exact hb.block _ h2, h.inj⟩
theorem below_setRow {w : World} {g : Nat} (hg : B ≤ g) (cs : Array Value) : Below B w (w.setRow g cs) :=
  ⟨rfl, rfl, rfl, by simp, fun k hk => setRow_other w g k cs (by omega)⟩
end
end Sy
end Go.Proofs.YtfhcngnmgfkdkaaGreatDoor
