/- A queue and rows of the call's own beside it; find, dead, small. -/
import Derived.Test.YtbofclohnmojmaaGreatDoorGR
namespace Go.Proofs.YtbofclohnmojmaaGreatDoor
open Go.RowKit
open Go.Sort (grow)

/-- A row: element type, size, length, slice, cells. -/
structure Row where
  e : TypeId
  sz : Nat
  n : Nat
  v : Value
  xs : List Value
def Row.at_ (R : Row) (w : World) (B : Nat) : Prop := w.ownsRow B R.e R.sz R.v R.n R.xs
def strR (v : Value) (T : List ByteArray) : Row := ⟨9, 1, T.length, v, svals T⟩
def delR (v : Value) (r : List De) : Row := ⟨46, 9, r.length, v, r.flatMap De.cells⟩
def snR (v : Value) (l : List Sn) : Row := ⟨61, 4, l.length, v, l.flatMap Sn.cells⟩
theorem m1 {α : Type} {a : α} {l : List α} : a ∈ a :: l := List.mem_cons_self ..
theorem m2 {α : Type} {a b : α} {l : List α} : b ∈ a :: b :: l := List.mem_cons_of_mem _ m1
theorem m3 {α : Type} {a b c : α} {l : List α} : c ∈ a :: b :: c :: l := List.mem_cons_of_mem _ m2
theorem m4 {α : Type} {a b c d : α} {l : List α} : d ∈ a :: b :: c :: d :: l := List.mem_cons_of_mem _ m3
def Row.off (R Q : Row) : Prop := ∀ k, R.v.ownBlock = some k → Q.v.ownBlock ≠ some k
theorem Row.off_symm {R Q : Row} (h : R.off Q) : Q.off R := fun k hk e => h k e hk
structure QRP (w : World) (B q : Nat) (A : Option Addr) (c : Nat) (A' : Option Addr) (c' : Nat) (s : QS) (Rs : List Row) : Prop where
  fq : FQ w B q A c A' c' s
  rs : ∀ R ∈ Rs, R.at_ w B ∧ (∀ k, R.v.ownBlock = some k → ¬ ff q A A' k) ∧ R.e ≠ 94
  ne : Rs.Pairwise Row.off
/-- A queue, and rows that lie apart from it and from each other. -/
structure QR (w0 w : World) (q : Nat) (s : QS) (Rs : List Row) : Prop where
  ex : ∃ A c A' c', QRP w w0.heap.size q A c A' c' s Rs
  below : Below w0.heap.size w0 w
section
variable {w0 w w' : World} {q : Nat} {s s' : QS} {R Q : Row} {Rs Qs : List Row} {v : Value}
theorem QR.row (h : QR w0 w q s Rs) (hR : R ∈ Rs) : R.at_ w w0.heap.size := by obtain ⟨_, _, _, _, h⟩ := h.ex; exact (h.rs R hR).1
theorem QR.str {T : List ByteArray} (h : QR w0 w q s Rs) (hR : strR v T ∈ Rs) : OwnS w w0.heap.size v T := h.row hR
theorem QR.on (h : QR w0 w q s Rs) (hb : Below w.heap.size w w') : QR w0 w' q s Rs := by
  obtain ⟨A, c, A', c', h1, h2, h3⟩ := h.ex
  exact ⟨⟨A, c, A', c', h1.below hb, fun R hR => ⟨own_below (h2 R hR).1 hb, (h2 R hR).2⟩, h3⟩, h.below.trans (hb.mono h.below.size)⟩
theorem QR.sub (h : QR w0 w q s Rs) (hs : Qs.Sublist Rs) : QR w0 w q s Qs := by
  obtain ⟨A, c, A', c', h1, h2, h3⟩ := h.ex
  exact ⟨⟨A, c, A', c', h1, fun R hR => h2 R (hs.subset hR), h3.sublist hs⟩, h.below⟩
theorem QR.perm (h : QR w0 w q s Rs) (hs : Rs.Perm Qs) : QR w0 w q s Qs := by
  obtain ⟨A, c, A', c', h1, h2, h3⟩ := h.ex
  exact ⟨⟨A, c, A', c', h1, fun R hR => h2 R (hs.mem_iff.2 hR), hs.pairwise h3 (fun hxy => Row.off_symm hxy)⟩, h.below⟩
theorem QR.p231 {R1 R2 R3 : Row} (h : QR w0 w q s [R1, R2, R3]) : QR w0 w q s [R2, R3, R1] := h.perm (List.perm_append_comm (l₁ := [R1]) (l₂ := [R2, R3]))
theorem QR.p213 {R1 R2 : Row} (h : QR w0 w q s (R1 :: R2 :: Rs)) : QR w0 w q s (R2 :: R1 :: Rs) := h.perm (List.Perm.swap _ _ _)
/-- A row that is newer than all that was. -/
theorem QR.fresh (h : QR w0 w q s Rs) (hb : Below w.heap.size w w') (hR : R.at_ w' w.heap.size) (he : R.e ≠ 94) : QR w0 w' q s (R :: Rs) := by
  obtain ⟨A, c, A', c', h1, h2, h3⟩ := (h.on hb).ex
  obtain ⟨A0, c0, A0', c0', g1, g2, g3⟩ := h.ex
  refine ⟨⟨A0, c0, A0', c0', g1.below hb, fun Q hQ => ?_, List.pairwise_cons.2 ⟨fun Q hQ k hk e => ?_, g3⟩⟩, h.below.trans (hb.mono h.below.size)⟩
  · rcases List.mem_cons.1 hQ with rfl | hQ
    · refine ⟨own_base hR h.below.size, fun k hk hp => ?_, he⟩
      have := (own_lt hR hk).1
      have := (g1.foot_lt k hp).2
      omega
    · exact ⟨own_below (g2 Q hQ).1 hb, (g2 Q hQ).2⟩
  · have := (own_lt hR hk).1
    have := (own_lt (g2 Q hQ).1 e).2
    omega
/-- Where it begins. -/
theorem QR.first {A A' : Option Addr} {c c' B : Nat} (hQ : FQ w B q A c A' c' s) (hB : w0.heap.size ≤ B) (hb : Below w0.heap.size w0 w) : QR w0 w q s [] :=
  ⟨⟨A, c, A', c', ⟨hQ.blk, own_base hQ.row hB, own_base hQ.dead hB, fun x hx => (hQ.bl x hx).base hB, fun x hx => (hQ.bd x hx).base hB, Nat.le_trans hB hQ.hq⟩, by simp, List.Pairwise.nil⟩, hb⟩
theorem QR.to {A A' : Option Addr} {c c' : Nat} (h : QRP w w0.heap.size q A c A' c' s Rs) (hb : Below w0.heap.size w0 w) (ht : QTo w w0.heap.size q A A' s' w') : QR w0 w' q s' Rs := by
  obtain ⟨A2, c2, A3, c3, hF, hch, hff⟩ := ht
  refine ⟨⟨A2, c2, A3, c3, hF, fun R hR => ⟨hch.own (h.rs R hR).1 (h.rs R hR).2.1, fun k hk hp => ?_, (h.rs R hR).2.2⟩, h.ne⟩, hb.trans (hch.toBelow (fun k hk => (h.fq.foot_lt k hk).1) hb.size)⟩
  rcases hff k hp with h0 | h0
  · exact (h.rs R hR).2.1 k hk h0
  · have := (own_lt (h.rs R hR).1 hk).2
    omega
/-- The first row has changed. -/
theorem QR.turn (h : QR w0 w q s (R :: Rs)) (hc : Chg (fun k => R.v.ownBlock = some k) w w') (ho : Q.at_ w' w0.heap.size) (hk : Q.v.ownBlock = R.v.ownBlock ∨ ∃ n, Q.v.ownBlock = some n ∧ w.heap.size ≤ n) (he : Q.e ≠ 94) : QR w0 w' q s (Q :: Rs) := by
  obtain ⟨A, c, A', c', h1, h2, h3⟩ := h.ex
  have hR := h2 R (List.mem_cons_self ..)
  have h3' := List.pairwise_cons.1 h3
  have hoff : OffC w (fun k => R.v.ownBlock = some k) := by
    intro k hk cs m hb
    obtain ⟨cs', hb'⟩ := own_blk hR.1 hk
    unfold Blk at hb'
    rw [hb'] at hb
    injection hb with hb
    injection hb with _ ht _
    exact hR.2.2 ht
  refine ⟨⟨A, c, A', c', h1.chg hc (fun k hf hk' => hR.2.1 k hk' hf) hoff, fun P hP => ?_, List.pairwise_cons.2 ⟨fun P hP k hk' e => ?_, h3'.2⟩⟩, h.below.trans (hc.toBelow (fun k hk' => (own_lt hR.1 hk').1) h.below.size)⟩
  · rcases List.mem_cons.1 hP with rfl | hP
    · refine ⟨ho, fun k hk' hp => ?_, he⟩
      rcases hk with e | ⟨n, e, hn⟩
      · exact hR.2.1 k (e ▸ hk') hp
      · rw [e] at hk'
        injection hk' with hk'
        subst hk'
        have := (h1.foot_lt _ hp).2
        omega
    · have hP2 := h2 P (List.mem_cons_of_mem _ hP)
      exact ⟨hc.own hP2.1 (fun k hk' e => h3'.1 P hP k e hk'), hP2.2⟩
  · rcases hk with e' | ⟨n, e', hn⟩
    · exact h3'.1 P hP k (e' ▸ hk') e
    · rw [e'] at hk'
      injection hk' with hk'
      subst hk'
      have := (own_lt (h2 P (List.mem_cons_of_mem _ hP)).1 e).2
      omega
/-- One more string at the end of the first row. -/
theorem QR.tell {T : List ByteArray} (h : QR w0 w q s (strR v T :: Rs)) {x : ByteArray} {v' : Value} (ho : w'.ownsRow w0.heap.size 9 1 v' (T.length + 1) (svals T ++ [.string x])) (hg : w.grownBy w' v.ownBlock) (hk : v'.ownBlock = v.ownBlock ∨ v'.ownBlock = some w.heap.size) : QR w0 w' q s (strR v' (T ++ [x]) :: Rs) :=
  h.turn ((Chg.refl _ _).grown hg (fun _ hk _ => hk)) (OwnS.push ho) (hk.imp id fun e => ⟨_, e, Nat.le_refl _⟩) (show (9 : TypeId) ≠ 94 by decide)
theorem OwnN.push {base : Nat} {l : List Sn} {x : Sn} (h : w.ownsRow base 61 4 v (l.length + 1) (l.flatMap Sn.cells ++ x.cells)) : (snR v (l ++ [x])).at_ w base := by
  unfold Row.at_ snR
  simp only [List.length_append, List.length_cons, List.length_nil, Nat.zero_add, List.flatMap_append, List.flatMap_cons, List.flatMap_nil, List.append_nil]
  exact h
/-- One more event at the end of the first row. -/
theorem QR.push {l : List Sn} (h : QR w0 w q s (snR v l :: Rs)) {x : Sn} {v' : Value} (ho : w'.ownsRow w0.heap.size 61 4 v' (l.length + 1) (l.flatMap Sn.cells ++ x.cells)) (hg : w.grownBy w' v.ownBlock) (hk : v'.ownBlock = v.ownBlock ∨ v'.ownBlock = some w.heap.size) : QR w0 w' q s (snR v' (l ++ [x]) :: Rs) :=
  h.turn ((Chg.refl _ _).grown hg (fun _ hk _ => hk)) (OwnN.push ho) (hk.imp id fun e => ⟨_, e, Nat.le_refl _⟩) (show (61 : TypeId) ≠ 94 by decide)
/-- A store into a row of events. -/
theorem QR.put {l : List Sn} {g c i j : Nat} {x x' : Sn} {u : Value} (h : QR w0 w q s (snR (.slice (some ⟨g, 0, none⟩) l.length c) l :: Rs)) (hx : l[i]? = some x) (hj : j < 4) (hu : x'.cells = x.cells.set j u) :
    QR w0 (w.setCell ⟨g, i * 4 + j, none⟩ u) q s (snR (.slice (some ⟨g, 0, none⟩) l.length c) (l.set i x') :: Rs) := by
  refine h.turn ((Chg.refl (fun k => (snR (.slice (some ⟨g, 0, none⟩) l.length c) l).v.ownBlock = some k) w).setCell (p := ⟨g, i * 4 + j, none⟩) (fun _ => rfl) u) ?_ (.inl rfl) (show (61 : TypeId) ≠ 94 by decide)
  have h1 := own_store (h.row (List.mem_cons_self ..)) (i * 4 + j) u
  unfold Row.at_
  show (w.setCell _ u).ownsRow _ _ 4 _ (l.set i x').length ((l.set i x').flatMap Sn.cells)
  rw [List.length_set, ← flat_set Sn.len hj l i x hx hu]
  exact h1
theorem QR.put2 {l : List Sn} {g c i j : Nat} {x x' x2 : Sn} {u u' : Value} (h : QR w0 w q s (snR (.slice (some ⟨g, 0, none⟩) l.length c) l :: Rs)) (hx : l[i]? = some x) (hj : j < 4) (hu : x'.cells = x.cells.set j u) (hu2 : x2.cells = x'.cells.set j u') :
    QR w0 ((w.setCell ⟨g, i * 4 + j, none⟩ u).setCell ⟨g, i * 4 + j, none⟩ u') q s (snR (.slice (some ⟨g, 0, none⟩) l.length c) (l.set i x2) :: Rs) := by
  have h1 := h.put hx hj hu
  have h2 := QR.put (l := l.set i x') (c := c) (x := x') (x' := x2) (u := u') (i := i) (j := j) (by rw [List.length_set]; exact h1) (List.getElem?_set_self (List.getElem?_eq_some_iff.1 hx).1) hj hu2
  rw [List.length_set, List.set_set] at h2
  exact h2
theorem QR.sn {l : List Sn} (h : QR w0 w q s Rs) (hR : snR v l ∈ Rs) {i : Nat} {x : Sn} (hx : l[i]? = some x) : ∃ g c, v = .slice (some ⟨g, 0, none⟩) l.length c ∧ g < w.heap.size ∧ (w.cell? ⟨g, i * 4, none⟩ = some (.string x.id) ∧ w.cell? ⟨g, i * 4 + 1, none⟩ = some (.string x.key) ∧ w.cell? ⟨g, i * 4 + 2, none⟩ = some (.bool x.gone) ∧ w.cell? ⟨g, i * 4 + 3, none⟩ = some (.int .i64 x.times)) ∧ ∀ j, w.frozen? ⟨g, j, none⟩ = false := by
  have hl : 0 < l.length := by have := (List.getElem?_eq_some_iff.1 hx).1; omega
  obtain ⟨g, c, e, _, _, _, hg, hcell, hfz⟩ := own_at (h.row hR) hl
  refine ⟨g, c, e, hg, ?_, hfz⟩
  have hq : ∀ j u, x.cells[j]? = some u → w.cell? ⟨g, i * 4 + j, none⟩ = some u := fun j u hj => by
    have hjk : j < 4 := (List.getElem?_eq_some_iff.1 hj).1
    exact hcell _ _ (by show (l.flatMap Sn.cells)[i * 4 + j]? = _; rw [flat_get Sn.len l i j x hx hjk]; exact hj)
  exact ⟨hq 0 _ rfl, hq 1 _ rfl, hq 2 _ rfl, hq 3 _ rfl⟩
theorem QR.de {r : List De} (h : QR w0 w q s Rs) (hR : delR v r ∈ Rs) {i : Nat} {x : De} (hx : r[i]? = some x) : ∃ g c, v = .slice (some ⟨g, 0, none⟩) r.length c ∧ g < w.heap.size ∧ (w.cell? ⟨g, i * 9, none⟩ = some (.string x.rc) ∧ w.cell? ⟨g, i * 9 + 1, none⟩ = some (.string x.ev.id) ∧ w.cell? ⟨g, i * 9 + 4, none⟩ = some (.string x.ev.key) ∧ w.cell? ⟨g, i * 9 + 8, none⟩ = some (.int .i64 x.cnt)) := by
  have hl : 0 < r.length := by have := (List.getElem?_eq_some_iff.1 hx).1; omega
  obtain ⟨g, c, e, _, _, _, hg, hcell, _⟩ := own_at (h.row hR) hl
  refine ⟨g, c, e, hg, ?_⟩
  have hq : ∀ j u, x.cells[j]? = some u → w.cell? ⟨g, i * 9 + j, none⟩ = some u := fun j u hj => by
    have hjk : j < 9 := (List.getElem?_eq_some_iff.1 hj).1
    exact hcell _ _ (by show (r.flatMap De.cells)[i * 9 + j]? = _; rw [flat_get De.len r i j x hx hjk]; exact hj)
  exact ⟨hq 0 _ rfl, hq 1 _ rfl, hq 4 _ rfl, hq 8 _ rfl⟩
theorem QR.slice (h : QR w0 w q s Rs) (hR : R ∈ Rs) : ∃ A c, R.v = .slice A R.n c := by
  obtain ⟨A, c, e⟩ := own_slice (h.row hR)
  exact ⟨A, c, e⟩
/-- A call of a script on the queue. -/
theorem call_qr {t : Value} {T : List ByteArray} (h : QR w0 w q s Rs) (hok : s.ok) (harr : s.arr < 1000000) (x : Cl) (hin : EvIn w w0.heap.size x.e) (hup : evB x.e ∧ x.s.size ≤ 140737488351232) (hT : strR t T ∈ Rs) (hl : T.length ≤ 9223372036854775807) (hTs : ∀ t ∈ T, t.size ≤ 1048576) (hX : LaidB w0 w0.heap.size) (hE : ErrB w0 w0.heap.size) :
    Calls Tryz.prog 11 #[.pointer (some ⟨q, 0, none⟩), .agg #[.int .i64 x.k, .string x.e.id, .string x.e.tn, .string x.e.src, .string x.e.key, .int .i64 x.e.at_, .string x.e.cause, .slice x.e.A x.e.body.length x.e.cp, .string x.s, .int .i64 x.now, .int .i64 x.n], t] w fun e w' => ∃ u z r s', e = .returned (.tuple #[u, .int .i64 z]) ∧ (∀ d ∈ r, EvQ w' w.heap.size d.ev) ∧ StepR s x T z r s' ∧ QR w0 w' q s' (delR u r :: Rs) := by
  obtain ⟨A, c, A', c', hP⟩ := h.ex
  refine (callQ_any h.below.size hP.fq hok harr x hin hup (h.str hT) hl hTs (hX.on h.below) (hE.on h.below)).mono ?_
  rintro e w' ⟨u, z, rfl, r, s', ho, hd, hst, hto⟩
  refine ⟨u, z, r, s', rfl, hd, hst, ?_⟩
  have h1 := QR.to hP h.below hto
  obtain ⟨A2, c2, A3, c3, hF, hch, hff⟩ := hto
  obtain ⟨A4, c4, A5, c5, g1, g2, g3⟩ := h1.ex
  refine ⟨⟨A2, c2, A3, c3, hF, fun R hR => ?_, List.pairwise_cons.2 ⟨fun Q hQ k hk e => ?_, g3⟩⟩, h1.below⟩
  · rcases List.mem_cons.1 hR with rfl | hR
    · refine ⟨own_base ho h.below.size, fun k hk hp => ?_, by show (46 : TypeId) ≠ 94; decide⟩
      have hk' : k = q ∨ A2.map (·.block) = some k ∨ A3.map (·.block) = some k := hp
      obtain ⟨cs, hb⟩ := own_blk ho hk
      rcases hk' with e | e | e
      · subst e
        exact hF.blk.ne_ hb (by decide) rfl
      · obtain ⟨cs', hb'⟩ := own_blk hF.row (k := k) (by rw [own_eq]; exact e)
        exact hb'.ne_ hb (by decide) rfl
      · obtain ⟨cs', hb'⟩ := own_blk hF.dead (k := k) (by rw [own_eq]; exact e)
        exact hb'.ne_ hb (by decide) rfl
    · refine ⟨(g2 R hR).1, fun k hk hp => ?_, (g2 R hR).2.2⟩
      rcases hff k hp with h0 | h0
      · exact (hP.rs R hR).2.1 k hk h0
      · have := (own_lt (hP.rs R hR).1 hk).2
        omega
  · have h5 := (own_lt ho hk).1
    have h6 := (own_lt (hP.rs Q hQ).1 e).2
    omega
theorem len_qr (h : QR w0 w q s Rs) (hok : s.ok) : Calls Tryz.prog 19 #[.pointer (some ⟨q, 0, none⟩)] w fun e w' => e = .returned (.int .i64 s.l.length) ∧ w' = w := by
  obtain ⟨A, c, A', c', hP⟩ := h.ex
  exact Len_any hP.fq (by have := hok.r; omega)
theorem evSz_len {e : Ev} (h : evSz e) : e.body.length ≤ 1048576 := h.2.2.2.2.2.1
theorem dead_qr (h : QR w0 w q s Rs) (hok : s.ok) : Calls Tryz.prog 22 #[.pointer (some ⟨q, 0, none⟩)] w (EvsPost w s.d) := by
  obtain ⟨A, c, A', c', hP⟩ := h.ex
  exact Dead_any hP.fq (by have := hok.r; omega) (by have := hok.len; omega) (fun e he => evSz_len (hok.dels e he))
theorem wait_qr (h : QR w0 w q s Rs) (hok : s.ok) (key : ByteArray) : Calls Tryz.prog 15 #[.pointer (some ⟨q, 0, none⟩), .string key] w (WtPost w (waitS s.l key)) := by
  obtain ⟨A, c, A', c', hP⟩ := h.ex
  exact Waiting_any hP.fq (by have := hok.r; omega) (by have := hok.len; omega) key
theorem small_any (A : Option Addr) (n c : Nat) (w : World) : Calls Tryz.prog 9 #[.slice A n c] w fun e w' => e = .returned (.bool (decide ((n : Int) ≤ 200))) ∧ w' = w := by
  go_enter Tryz.func9, Tryz.ntmps9
  go_wp2_with fail
  go_ret
  exact ⟨rfl, rfl⟩
set_option maxHeartbeats 4000000 in
theorem find_sn {l : List Sn} {c : Nat} {A : Option Addr} (h : QR w0 w q s Rs) (hR : snR (.slice A l.length c) l ∈ Rs) (id : ByteArray) (hn : l.length ≤ 1000000) :
    Calls Tryz.prog 26 #[.slice A l.length c, .string id] w fun e w' => e = .returned (.int .i64 (fnS l id)) ∧ w' = w := by
  have HG := Lib.hid (fun i x hx => h.sn hR (i := i) (x := x) hx)
  clear h hR
  have HW0 := Lib.hid (show wrap64 ((l.length : Int) - 1) = (l.length : Int) - 1 ∧ IntKind.i64.wrap ((l.length : Int) - 1) = (l.length : Int) - 1 from by
    have ha := w64 (x := (l.length : Int) - 1) (by omega) (by omega)
    exact ⟨ha.2, ha.1⟩)
  obtain ⟨wa1, wa2⟩ := HW0.out
  go_enter Tryz.func26, Tryz.ntmps26
  go_wp2_with fail
  clear wa1 wa2
  go_loop [5] (fun i => ∃ k : Nat, k ≤ l.length ∧ i = .int .i64 ((k : Int) - 1) ∧ fnS l id = fnAt l id k) (fun i => (intOf i + 1).toNat)
  case atStart => exact ⟨l.length, Nat.le_refl _, rfl, rfl⟩
  case round =>
    obtain ⟨k, hk, rfl, hf⟩ := hrel
    have HF := Lib.hid hf
    clear hf
    cases k with
    | zero =>
      have d0 : decide ((((0 : Nat) : Int) - 1) ≥ 0) = false := by decide
      go_wp2_with fail
      all_goals try (exfalso; omega)
      go_ret
      exact ⟨by rw [HF.out]; rfl, rfl⟩
    | succ k =>
      have e1 : (((k + 1 : Nat) : Int) - 1) = (k : Int) := by omega
      rw [e1]
      have hx := List.getElem?_eq_getElem (show k < l.length by omega)
      obtain ⟨g, c9, hv, hg, ⟨p0, -, p2, -⟩, -⟩ := HG.out k _ hx
      injection hv with hv _ hc
      subst hv
      subst hc
      have HX := Lib.hid hx
      clear hx
      generalize l[k] = x at *
      have hk0 : (0 : Int) ≤ k := by omega
      have hkl : (k : Int) < l.length := by omega
      have HK := Lib.hid (show wrap64 ((k : Int) - 1) = (k : Int) - 1 ∧ IntKind.i64.wrap ((k : Int) - 1) = (k : Int) - 1 from by
        have ha := w64 (x := (k : Int) - 1) (by omega) (by omega)
        exact ⟨ha.2, ha.1⟩)
      have ht := toL_eq x.id id
      cases hq : eqS x.id id
      · have HO := Lib.hid (show onB id x = false by unfold onB; rw [hq]; rfl)
        rw [hq] at ht
        obtain ⟨wa1, wa2⟩ := HK.out
        clear hq
        go_wp2_with fail
        clear wa1 wa2
        go_round
        case rel => exact ⟨k, by omega, by first | rfl | go_num, by rw [HF.out]; exact fnAt_no HX.out HO.out⟩
        case measure => simp [intOf] <;> omega
      · rw [hq] at ht
        cases hgn : x.gone
        · have HO := Lib.hid (show onB id x = true by unfold onB; rw [hq, hgn]; rfl)
          rw [hgn] at p2
          clear hq hgn
          go_wp2_with fail
          go_ret
          exact ⟨by rw [HF.out, fnAt_yes HX.out HO.out]; rfl, rfl⟩
        · have HO := Lib.hid (show onB id x = false by unfold onB; rw [hq, hgn]; rfl)
          rw [hgn] at p2
          obtain ⟨wa1, wa2⟩ := HK.out
          clear hq hgn
          go_wp2_with fail
          clear wa1 wa2
          go_round
          case rel => exact ⟨k, by omega, by first | rfl | go_num, by rw [HF.out]; exact fnAt_no HX.out HO.out⟩
          case measure => simp [intOf] <;> omega
end
end Go.Proofs.YtbofclohnmojmaaGreatDoor
