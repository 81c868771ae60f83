/- The reference's queue in memory: what the stores of its methods leave. -/
import Derived.Test.YtbofclohnmojmaaGreatDoorRC6
import Derived.Test.YtbofclohnmojmaaGreatDoorRD0
namespace Go.Proofs.YtbofclohnmojmaaGreatDoor
open Go.RowKit
open Go.Sort (grow)

theorem flat_atR {l : List En} {k i : Nat} {x : En} (hi : l[i]? = some x) (hk : k < 10) : (l.flatMap En.rcells)[i * 10 + k]? = x.rcells[k]? := flat_get En.rlen l i k x hi hk
theorem En.rset8 (x : En) (u : Int) : { x with rcv := u }.rcells = x.rcells.set 8 (.int .i64 u) := rfl
theorem En.rset9 (x : En) (u : Bool) : { x with held := u }.rcells = x.rcells.set 9 (.bool u) := rfl
theorem En.rset7 (x : En) (u : Int) : { x with vis := u }.rcells = x.rcells.set 7 (.int .i64 u) := rfl
def lc10 (a : Addr) : Sem (Array Value) := loadCellsFrom a 0 10 #[]
theorem run_lc10 (P : Program) (a : Addr) (W : World) : Sem.run P (loadCellsFrom a 0 10 #[]) W = Sem.run P (lc10 a) W := rfl
section
variable {w w' w5 : World} {B q c c' : Nat} {A A' : Option Addr} {s : QS}
theorem RQ.pushD (h : RQ w B q A c A' c' s) {e : Ev} {v' : Value} {o : Obj} (he : EvQ w B e) (hown : w5.ownsRow B 40 7 v' (s.d.length + 1) (s.d.flatMap Ev.cells ++ e.cells)) (hg : (w.alloc o).drew.grownBy w5 (Value.slice A' s.d.length c').ownBlock) (hblk : v'.ownBlock = (Value.slice A' s.d.length c').ownBlock ∨ v'.ownBlock = some (w.alloc o).drew.heap.size) :
    ∃ A2 c2, v' = .slice A2 (s.d.length + 1) c2 ∧ RQ (w5.setCell ⟨q, 3, none⟩ v') B q A c A2 c2 { s with d := s.d ++ [e] } ∧ Chg (fun k => k = q ∨ A'.map (·.block) = some k) w (w5.setCell ⟨q, 3, none⟩ v') ∧ ∀ k, A2.map (·.block) = some k → A'.map (·.block) = some k ∨ w.heap.size ≤ k := by
  obtain ⟨A2, c2, rfl⟩ := own_slice hown
  have hne := h.ne
  have hc : Chg (fun k => A'.map (·.block) = some k) w w5 := (((Chg.refl (fun k => A'.map (·.block) = some k) w).alloc o).drew).grown hg (fun k hk _ => by rw [own_eq] at hk; exact hk)
  have hoff : OffC w (fun k => A'.map (·.block) = some k) := fun k hk => h.offC k (.inr (.inr hk))
  have hA2 : ∀ k, A2.map (·.block) = some k → A'.map (·.block) = some k ∨ w.heap.size ≤ k := fun k hk => by
    rcases hblk with e | e
    · rw [own_eq, own_eq] at e
      exact .inl (by rw [← e]; exact hk)
    · rw [own_eq, hk] at e
      injection e with e
      right
      rw [e]
      show w.heap.size ≤ (w.alloc o).heap.size
      simp
  have hd : OwnV w5 B (.slice A2 (s.d ++ [e]).length c2) (s.d ++ [e]) := by
    unfold OwnV
    rw [List.length_append, List.flatMap_append]
    simpa using hown
  have hblk5 : Blk w5 q 68 (rqC s A c A' c') := hc.blk h.blk hne.2.1
  have hrow5 := hc.own h.row (fun k hk e => by rw [own_eq] at hk; exact hne.2.2 k hk e)
  have hc2 : Chg (fun k => k = q) w5 (w5.setCell ⟨q, 3, none⟩ (.slice A2 (s.d.length + 1) c2)) := (Chg.refl (fun k => k = q) w5).setCell (p := ⟨q, 3, none⟩) (fun _ => rfl) _
  have hoff2 : OffC w5 (fun k => k = q) := by
    rintro k rfl cs m e
    unfold Blk at hblk5
    rw [hblk5] at e
    injection e with e
    injection e with _ e
    exact absurd e (by decide)
  refine ⟨A2, c2, rfl, ⟨?_, ?_, ?_, fun x hx => ((h.bl x hx).chg hc hoff).chg hc2 hoff2, fun y hy => ?_, h.hq⟩, (hc.mono (T := fun k => k = q ∨ A'.map (·.block) = some k) (fun _ hk => .inr hk)).trans hc2 (fun _ _ hk => .inl hk), hA2⟩
  · have := hblk5.set_ 3 (.slice A2 (s.d.length + 1) c2)
    unfold rqC at this ⊢
    rw [List.length_append]
    exact this
  · exact hc2.own hrow5 (fun k hk e => by subst e; exact hblk5.off hrow5 (by decide) (k := k) hk rfl)
  · exact hc2.own hd (fun k hk e => by subst e; exact hblk5.off hd (by decide) (k := k) hk rfl)
  · rcases List.mem_append.1 hy with hy | hy
    · exact ((h.bd y hy).chg hc hoff).chg hc2 hoff2
    · rw [List.mem_singleton.1 hy]; exact (he.chg hc hoff).chg hc2 hoff2
theorem RQ.pushL {w w5 : World} {s : QS} (h : RQ w B q A c A' c' s) {x : En} {v' : Value} (he : EvQ w B x.ev) (hown : w5.ownsRow B 78 10 v' (s.l.length + 1) (s.l.flatMap En.rcells ++ x.rcells)) (hc : Chg (fun k => A.map (·.block) = some k) w w5) (hblk : v'.ownBlock = (Value.slice A s.l.length c).ownBlock ∨ ∃ n, v'.ownBlock = some n ∧ w.heap.size ≤ n) :
    ∃ A2 c2, v' = .slice A2 (s.l.length + 1) c2 ∧ RQ (w5.setCell ⟨q, 2, none⟩ v') B q A2 c2 A' c' { s with l := s.l ++ [x] } ∧ Chg (fun k => k = q ∨ A.map (·.block) = some k) w (w5.setCell ⟨q, 2, none⟩ v') ∧ ∀ k, A2.map (·.block) = some k → A.map (·.block) = some k ∨ w.heap.size ≤ k := by
  obtain ⟨A2, c2, rfl⟩ := own_slice hown
  have hne := h.ne
  have hoff : OffC w (fun k => A.map (·.block) = some k) := fun k hk => h.offC k (.inr (.inl hk))
  have hA2 : ∀ k, A2.map (·.block) = some k → A.map (·.block) = some k ∨ w.heap.size ≤ k := fun k hk => by
    rcases hblk with e | ⟨n, e, hn⟩
    · rw [own_eq, own_eq] at e
      exact .inl (by rw [← e]; exact hk)
    · rw [own_eq, hk] at e
      injection e with e
      exact .inr (by omega)
  have hd : OwnR w5 B (.slice A2 (s.l ++ [x]).length c2) (s.l ++ [x]) := by
    unfold OwnR
    rw [List.length_append, List.flatMap_append]
    simpa using hown
  have hblk5 : Blk w5 q 68 (rqC s A c A' c') := hc.blk h.blk hne.1
  have hdead5 := hc.own h.dead (fun k hk e => by rw [own_eq] at hk; exact hne.2.2 k e hk)
  have hc2 : Chg (fun k => k = q) w5 (w5.setCell ⟨q, 2, none⟩ (.slice A2 (s.l.length + 1) c2)) := (Chg.refl (fun k => k = q) w5).setCell (p := ⟨q, 2, none⟩) (fun _ => rfl) _
  have hoff2 : OffC w5 (fun k => k = q) := by
    rintro k rfl cs m e
    unfold Blk at hblk5
    rw [hblk5] at e
    injection e with e
    injection e with _ e
    exact absurd e (by decide)
  refine ⟨A2, c2, rfl, ⟨?_, ?_, ?_, fun y hy => ?_, fun y hy => ((h.bd y hy).chg hc hoff).chg hc2 hoff2, h.hq⟩, (hc.mono (T := fun k => k = q ∨ A.map (·.block) = some k) (fun _ hk => .inr hk)).trans hc2 (fun _ _ hk => .inl hk), hA2⟩
  · have := hblk5.set_ 2 (.slice A2 (s.l.length + 1) c2)
    unfold rqC at this ⊢
    rw [List.length_append]
    exact this
  · exact hc2.own hd (fun k hk e => by subst e; exact hblk5.off hd (by decide) (k := k) hk rfl)
  · exact hc2.own hdead5 (fun k hk e => by subst e; exact hblk5.off hdead5 (by decide) (k := k) hk rfl)
  · rcases List.mem_append.1 hy with hy | hy
    · exact ((h.bl y hy).chg hc hoff).chg hc2 hoff2
    · rw [List.mem_singleton.1 hy]; exact (he.chg hc hoff).chg hc2 hoff2
end
section
variable {w w' w5 : World} {B q c c' g : Nat} {A A' : Option Addr} {s : QS}
theorem RQ.setE (h : RQ w B q (some ⟨g, 0, none⟩) c A' c' s) {i j : Nat} {x x' : En} {u : Value} (hx : s.l[i]? = some x) (hj : j < 10) (hu : x'.rcells = x.rcells.set j u) (he : x'.ev = x.ev) :
    RQ (w.setCell ⟨g, i * 10 + j, none⟩ u) B q (some ⟨g, 0, none⟩) c A' c' { s with l := s.l.set i x' } ∧ Chg (fun k => k = g) w (w.setCell ⟨g, i * 10 + j, none⟩ u) := by
  have hc : Chg (fun k => k = g) w (w.setCell ⟨g, i * 10 + j, none⟩ u) := (Chg.refl (fun k => k = g) w).setCell (p := ⟨g, i * 10 + j, none⟩) (fun _ => rfl) u
  have hne := h.ne
  have hS : OffC w (fun k => k = g) := fun k hk => h.offC k (.inr (.inl (by rw [hk]; rfl)))
  have hrow := own_store h.row (i * 10 + j) u
  rw [flat_set En.rlen hj s.l i x hx hu] at hrow
  refine ⟨⟨?_, ?_, hc.own h.dead (fun k hk e => by rw [own_eq] at hk; exact hne.2.2 k (by rw [e]; rfl) hk), fun y hy => ?_, fun e he => (h.bd e he).chg hc hS, h.hq⟩, hc⟩
  · have := hc.blk h.blk (fun e => hne.1 (by rw [e]; rfl))
    unfold rqC at this ⊢
    rw [List.length_set]
    exact this
  · unfold OwnR
    rw [List.length_set]
    exact hrow
  · rcases List.mem_or_eq_of_mem_set hy with hy | rfl
    · exact (h.bl y hy).chg hc hS
    · rw [he]
      exact (h.bl x (List.mem_of_getElem? hx)).chg hc hS
theorem RQ.got (h : RQ w B q (some ⟨g, 0, none⟩) c A' c' s) {i : Nat} {x : En} (hx : s.l[i]? = some x) (now v : Int) :
    RQ (((w.setCell ⟨g, i * 10 + 8, none⟩ (.int .i64 (x.rcv + 1))).setCell ⟨g, i * 10 + 9, none⟩ (.bool true)).setCell ⟨g, i * 10 + 7, none⟩ (.int .i64 (now + v))) B q (some ⟨g, 0, none⟩) c A' c' { s with l := s.l.set i (x.got now v) } ∧
    Chg (fun k => k = g) w (((w.setCell ⟨g, i * 10 + 8, none⟩ (.int .i64 (x.rcv + 1))).setCell ⟨g, i * 10 + 9, none⟩ (.bool true)).setCell ⟨g, i * 10 + 7, none⟩ (.int .i64 (now + v))) := by
  have hi := (List.getElem?_eq_some_iff.1 hx).1
  have h1 := h.setE hx (j := 8) (by omega) (En.rset8 x (x.rcv + 1)) rfl
  have h2 := h1.1.setE (i := i) (x := { x with rcv := x.rcv + 1 }) (by simp [hi]) (j := 9) (by omega) (En.rset9 _ true) rfl
  have h3 := h2.1.setE (i := i) (x := { x with rcv := x.rcv + 1, held := true }) (by simp [hi]) (j := 7) (by omega) (En.rset7 _ (now + v)) rfl
  refine ⟨?_, (h1.2.trans h2.2 (fun _ _ h => h)).trans h3.2 (fun _ _ h => h)⟩
  have := h3.1
  simp only [List.set_set] at this
  exact this
/-- The cells of an entry. -/
theorem RQ.ecell (h : RQ w B q (some ⟨g, 0, none⟩) c A' c' s) {i : Nat} {x : En} (hx : s.l[i]? = some x) {j : Nat} {u : Value} (hj : x.rcells[j]? = some u) : w.cell? ⟨g, i * 10 + j, none⟩ = some u ∧ w.frozen? ⟨g, i * 10 + j, none⟩ = false := by
  have hi := (List.getElem?_eq_some_iff.1 hx).1
  obtain ⟨g', c2, e1, -, -, -, -, hc, hf⟩ := own_at h.row (by omega)
  injection e1 with e1 _ _
  injection e1 with e1
  injection e1 with e1
  subst e1
  have hjk : j < 10 := by rw [← En.rlen x]; exact (List.getElem?_eq_some_iff.1 hj).1
  exact ⟨hc _ _ (by rw [flat_atR hx hjk]; exact hj), hf _⟩
theorem RQ.eload' (h : RQ w B q (some ⟨g, 0, none⟩) c A' c' s) {i : Nat} {x : En} (hx : s.l[i]? = some x) (P : Program) {w' : World} (hw : ∀ j, w'.cell? ⟨g, j, none⟩ = w.cell? ⟨g, j, none⟩) : Sem.run P (lc7 ⟨g, i * 10, none⟩) w' = .ok #[.string x.ev.id, .string x.ev.tn, .string x.ev.src, .string x.ev.key, .int .i64 x.ev.at_, .string x.ev.cause, .slice x.ev.A x.ev.body.length x.ev.cp] w' := by
  have := run_loadCellsFrom_list P w' ⟨g, i * 10, none⟩ x.ev.cells 7 rfl (fun j u hj => by
    rw [Addr.add_lit, hw]
    have hjk : j < 7 := by rw [← Ev.len x.ev]; exact (List.getElem?_eq_some_iff.1 hj).1
    refine (h.ecell hx (j := j) (u := u) ?_).1
    have e : x.rcells = x.ev.cells ++ [.int .i64 x.vis, .int .i64 x.rcv, .bool x.held] := rfl
    rw [e, List.getElem?_append_left (by rw [Ev.len]; exact hjk)]
    exact hj)
  exact this
/-- The event of an entry, loaded whole. -/
theorem RQ.eload (h : RQ w B q (some ⟨g, 0, none⟩) c A' c' s) {i : Nat} {x : En} (hx : s.l[i]? = some x) (P : Program) : Sem.run P (lc7 ⟨g, i * 10, none⟩) w = .ok #[.string x.ev.id, .string x.ev.tn, .string x.ev.src, .string x.ev.key, .int .i64 x.ev.at_, .string x.ev.cause, .slice x.ev.A x.ev.body.length x.ev.cp] w := by
  have := run_loadCellsFrom_list P w ⟨g, i * 10, none⟩ x.ev.cells 7 rfl (fun j u hj => by
    rw [Addr.add_lit]
    have hjk : j < 7 := by rw [← Ev.len x.ev]; exact (List.getElem?_eq_some_iff.1 hj).1
    refine (h.ecell hx (j := j) (u := u) ?_).1
    have e : x.rcells = x.ev.cells ++ [.int .i64 x.vis, .int .i64 x.rcv, .bool x.held] := rfl
    rw [e, List.getElem?_append_left (by rw [Ev.len]; exact hjk)]
    exact hj)
  exact this
/-- An item, loaded whole. -/
theorem RQ.iload (h : RQ w B q (some ⟨g, 0, none⟩) c A' c' s) {i : Nat} {x : En} (hx : s.l[i]? = some x) (P : Program) {w' : World} (hw : ∀ j, w'.cell? ⟨g, j, none⟩ = w.cell? ⟨g, j, none⟩) : Sem.run P (lc10 ⟨g, i * 10, none⟩) w' = .ok #[.string x.ev.id, .string x.ev.tn, .string x.ev.src, .string x.ev.key, .int .i64 x.ev.at_, .string x.ev.cause, .slice x.ev.A x.ev.body.length x.ev.cp, .int .i64 x.vis, .int .i64 x.rcv, .bool x.held] w' := by
  have := run_loadCellsFrom_list P w' ⟨g, i * 10, none⟩ x.rcells 10 rfl (fun j u hj => by
    rw [Addr.add_lit, hw]
    exact (h.ecell hx (j := j) (u := u) hj).1)
  exact this
/-- The time is set. -/
theorem RQ.setNow (h : RQ w B q A c A' c' s) (now : Int) : RQ (w.setCell ⟨q, 4, none⟩ (.int .i64 now)) B q A c A' c' { s with now := now } ∧ Chg (fun k => k = q) w (w.setCell ⟨q, 4, none⟩ (.int .i64 now)) := by
  have hne := h.ne
  have hc : Chg (fun k => k = q) w (w.setCell ⟨q, 4, none⟩ (.int .i64 now)) := (Chg.refl (fun k => k = q) w).setCell (p := ⟨q, 4, none⟩) (fun _ => rfl) _
  have hoff : OffC w (fun k => k = q) := fun k hk => h.offC k (.inl hk)
  refine ⟨⟨h.blk.set_ 4 _, hc.own h.row (fun k hk e => by subst e; exact hne.1 (by rw [own_eq] at hk; exact hk)), hc.own h.dead (fun k hk e => by subst e; exact hne.2.1 (by rw [own_eq] at hk; exact hk)), fun x hx => (h.bl x hx).chg hc hoff, fun e he => (h.bd e he).chg hc hoff, h.hq⟩, hc⟩
end
/-! ### a queue behind a call -/
def RTo (w : World) (B q : Nat) (A A' : Option Addr) (s : QS) (w' : World) : Prop := ∃ A2 c2 A3 c3, RQ w' B q A2 c2 A3 c3 s ∧ Chg (ff q A A') w w' ∧ ∀ k, ff q A2 A3 k → ff q A A' k ∨ w.heap.size ≤ k
theorem RTo.below {w w1 w' : World} {B q : Nat} {A A' : Option Addr} {s : QS} (h : RTo w B q A A' s w1) (hb : Below w1.heap.size w1 w') : RTo w B q A A' s w' := by
  obtain ⟨A2, c2, A3, c3, h1, h2, h3⟩ := h
  exact ⟨A2, c2, A3, c3, h1.below hb, h2.below hb, h3⟩
theorem RQ.to {w w' : World} {B q c c' : Nat} {A A' : Option Addr} {s : QS} (h : RQ w B q A c A' c' s) (hb : Below w.heap.size w w') : RTo w B q A A' s w' := ⟨A, c, A', c', h.below hb, Chg.of_below hb, fun _ hk => .inl hk⟩
/-- One change of the queue behind another. -/
theorem RTo.trans {w w1 w' : World} {B q : Nat} {A A' A2 A3 : Option Addr} {s' : QS} (h2 : Chg (ff q A A') w w1) (h3 : ∀ k, ff q A2 A3 k → ff q A A' k ∨ w.heap.size ≤ k) (h : RTo w1 B q A2 A3 s' w') : RTo w B q A A' s' w' := by
  obtain ⟨A4, c4, A5, c5, g1, g2, g3⟩ := h
  refine ⟨A4, c4, A5, c5, g1, h2.narrow g2 (fun k hk => h3 k hk), fun k hk => ?_⟩
  rcases g3 k hk with h | h
  · exact h3 k h
  · exact .inr (Nat.le_trans h2.size h)
/-- The queue behind remove. -/
theorem RQ.removed {w w' : World} {B q c c' k : Nat} {A A' : Option Addr} {s : QS} {e : Ending} (h : RQ w B q A c A' c' s) (hB : B ≤ w.heap.size) (hr : RmPost w q A' c' s (s.l.take k ++ s.l.drop (k + 1)) e w') : e = .returned (.tuple #[]) ∧ ∃ A2 c2, RQ w' B q A2 c2 A' c' { s with l := s.l.eraseIdx k } ∧ Chg (fun j => j = q) w w' ∧ ∀ j, A2.map (·.block) = some j → w.heap.size ≤ j := by
  rw [← List.eraseIdx_eq_take_drop_succ] at hr
  obtain ⟨A2, c2, he, hb, ho, hc⟩ := hr
  have hne := h.ne
  have hoff : OffC w (fun k => k = q) := fun k hk => h.offC k (.inl hk)
  refine ⟨he, A2, c2, ⟨hb, own_base ho hB, hc.own h.dead (fun k hk e => by subst e; exact hne.2.1 (by rw [own_eq] at hk; exact hk)), fun x hx => (h.bl x (List.mem_of_mem_eraseIdx hx)).chg hc hoff, fun e he => (h.bd e he).chg hc hoff, h.hq⟩, hc, fun j hj => own_ge ho j (by rw [own_eq]; exact hj)⟩
end Go.Proofs.YtbofclohnmojmaaGreatDoor
