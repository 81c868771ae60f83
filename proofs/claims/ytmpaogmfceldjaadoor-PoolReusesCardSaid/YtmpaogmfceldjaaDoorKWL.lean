/- A pool and two rows of the call's own: what a call leaves of each. -/
import Derived.Test.YtmpaogmfceldjaaDoorKWK
namespace Go.Proofs.YtmpaogmfceldjaaDoor
open Go.RowKit
open Go.Sort (grow)

/-- A row: element type, size, length, slice, cells. -/
structure Row where
  e : TypeId
  sz : Nat
  n : Nat
  v : Value
  xs : List Value
def Row.at_ (R : Row) (w : World) (B : Nat) : Prop := w.ownsRow B R.e R.sz R.v R.n R.xs
def strR (v : Value) (T : List ByteArray) : Row := ⟨9, 1, T.length, v, svals T⟩
def insRow (v : Value) (L : List Ins) : Row := ⟨56, 4, L.length, v, L.flatMap Ins.cells⟩
def noR : Row := ⟨9, 1, 0, .slice none 0 0, []⟩
structure OneP (w : World) (B p m : Nat) (A : Option Addr) (c : Nat) (s : PS) (R Q : Row) : Prop where
  pool : PoolAt w B p m A c s
  r1 : R.at_ w B
  r2 : Q.at_ w B
  p1 : ∀ k, R.v.ownBlock = some k → ¬ pf p m A k
  p2 : ∀ k, Q.v.ownBlock = some k → ¬ pf p m A k
  ne : ∀ k, R.v.ownBlock = some k → Q.v.ownBlock ≠ some k
structure One (w0 w : World) (p m : Nat) (s : PS) (R Q : Row) : Prop where
  ex : ∃ A c, OneP w w0.heap.size p m A c s R Q
  below : Below w0.heap.size w0 w
section
variable {w0 w w' : World} {p m : Nat} {s t : PS} {R Q : Row} {v : Value} {T : List ByteArray}
theorem One.row1 (h : One w0 w p m s R Q) : R.at_ w w0.heap.size := by obtain ⟨_, _, h⟩ := h.ex; exact h.r1
theorem One.row2 (h : One w0 w p m s R Q) : Q.at_ w w0.heap.size := by obtain ⟨_, _, h⟩ := h.ex; exact h.r2
theorem One.str1 (h : One w0 w p m s (strR v T) Q) : OwnS w w0.heap.size v T := h.row1
theorem One.str2 (h : One w0 w p m s R (strR v T)) : OwnS w w0.heap.size v T := h.row2
theorem One.ins2 {L : List Ins} (h : One w0 w p m s R (insRow v L)) : OwnL w w0.heap.size v L := h.row2
theorem One.laid (h : One w0 w p m s R Q) (hl : LaidW w0) : LaidW w := hl.below h.below
theorem One.on (h : One w0 w p m s R Q) (hb : Below w.heap.size w w') : One w0 w' p m s R Q := by
  obtain ⟨A, c, h1, h2, h3, h4, h5, h6⟩ := h.ex
  exact ⟨⟨A, c, h1.below hb, own_below h2 hb, own_below h3 hb, h4, h5, h6⟩, h.below.trans (hb.mono h.below.size)⟩
theorem One.turn (h : One w0 w p m s R Q) : One w0 w p m s Q R := by
  obtain ⟨A, c, h1, h2, h3, h4, h5, h6⟩ := h.ex
  exact ⟨⟨A, c, h1, h3, h2, h5, h4, fun k hk e => h6 k e hk⟩, h.below⟩
theorem One.drop (h : One w0 w p m s R Q) : One w0 w p m s R noR := by
  obtain ⟨A, c, h1, h2, h3, h4, h5, h6⟩ := h.ex
  exact ⟨⟨A, c, h1, h2, own_nil _ _ _ _, h4, fun k hk => by simp [noR, Value.ownBlock] at hk, fun k _ e => by simp [noR, Value.ownBlock] at e⟩, h.below⟩
theorem One.of_ {A : Option Addr} {c : Nat} (h : OneP w w0.heap.size p m A c s R Q) (hb : Below w0.heap.size w0 w) (ht : PoolTo w w0.heap.size p m A t w') : One w0 w' p m t R Q := by
  have ho := (ht.out h.pool hb.size).2
  obtain ⟨A1, c1, h1, hc, hf⟩ := ht
  refine ⟨⟨A1, c1, h1, hc.own h.r1 h.p1, hc.own h.r2 h.p2, fun k hk hp => ?_, fun k hk hp => ?_, h.ne⟩, hb.trans ho⟩
  · rcases hf k hp with h0 | h0
    · exact h.p1 k hk h0
    · have := (own_lt h.r1 hk).2; omega
  · rcases hf k hp with h0 | h0
    · exact h.p2 k hk h0
    · have := (own_lt h.r2 hk).2; omega
/-- A row that is newer than all the others. -/
theorem One.fresh {N : Row} (h : One w0 w p m s R Q) (hb : Below w.heap.size w w') (hN : N.at_ w' w.heap.size) : One w0 w' p m s R N := by
  obtain ⟨A, c, h1, h2, h3, h4, h5, h6⟩ := h.ex
  refine ⟨⟨A, c, h1.below hb, own_below h2 hb, own_base hN h.below.size, h4, fun k hk hp => ?_, fun k hk e => ?_⟩, h.below.trans (hb.mono h.below.size)⟩
  · have := (own_lt hN hk).1; have := (h1.foot_lt k hp).2; omega
  · have := (own_lt hN e).1; have := (own_lt h2 hk).2; omega
/-- One more string at the end of the first row. -/
theorem One.tell (h : One w0 w p m s (strR v T) Q) {x : ByteArray} {v' : Value} (ho : w'.ownsRow w0.heap.size 9 1 v' (T.length + 1) (svals T ++ [.string x])) (hg : w.grownBy w' v.ownBlock) (hk : v'.ownBlock = v.ownBlock ∨ v'.ownBlock = some w.heap.size) : One w0 w' p m s (strR v' (T ++ [x])) Q := by
  obtain ⟨A, c, h1, h3, h4, h6, h7, h8⟩ := h.ex
  have hc : Chg (fun k => v.ownBlock = some k) w w' := (Chg.refl _ _).grown hg (fun k hk _ => hk)
  refine ⟨⟨A, c, h1.chg hc fun k hk e => h6 k e hk, OwnS.push ho, hc.own h4 fun k hk e => h8 k e hk, fun k hk' => ?_, h7, fun k hk' e => ?_⟩, h.below.trans (hc.toBelow (fun k hk => (own_lt h3 hk).1) h.below.size)⟩
  · rcases hk with e | e
    · exact h6 k (e ▸ hk')
    · change v'.ownBlock = some k at hk'
      rw [e] at hk'
      injection hk' with hk'
      subst hk'
      exact fun hp => by have := (h1.foot_lt _ hp).2; omega
  · rcases hk with e' | e'
    · exact h8 k (e' ▸ hk') e
    · change v'.ownBlock = some k at hk'
      rw [e'] at hk'
      injection hk' with hk'
      subst hk'
      have := (own_lt h4 e).2
      omega
theorem acq_one (h : One w0 w p m s R Q) (hok : s.ok) (hbt : s.bt ≤ 1000000) (hl : LaidW w0) (now : Int) :
    Calls Tryd.prog 11 #[.pointer (some ⟨p, 0, none⟩), .int .i64 now] w fun e w' => e = .returned (tup3 (acqS s now)) ∧ One w0 w' p m (acqS s now).1 R Q := by
  obtain ⟨A, c, hP⟩ := h.ex
  exact (Acquire_any hP.pool hok hbt (h.laid hl) now).mono fun e w' ⟨h1, ht⟩ => ⟨h1, One.of_ hP h.below ht⟩
theorem rel_one (h : One w0 w p m s R Q) (hok : s.ok) (id : ByteArray) (hid : id.size ≤ 9223372036854775807) (now : Int) :
    Calls Tryd.prog 13 #[.pointer (some ⟨p, 0, none⟩), .string id, .int .i64 now] w fun e w' => e = .returned (.int .i64 (relS s id now).2) ∧ One w0 w' p m (relS s id now).1 R Q := by
  obtain ⟨A, c, hP⟩ := h.ex
  exact (Release_any hP.pool hok id hid now).mono fun e w' ⟨h1, ht⟩ => ⟨h1, One.of_ hP h.below ht⟩
theorem cra_one (h : One w0 w p m s R Q) (hok : s.ok) (id : ByteArray) (hid : id.size ≤ 9223372036854775807) (now : Int) :
    Calls Tryd.prog 18 #[.pointer (some ⟨p, 0, none⟩), .string id, .int .i64 now] w fun e w' => e = .returned (.int .i64 (craS s id now).2) ∧ One w0 w' p m (craS s id now).1 R Q := by
  obtain ⟨A, c, hP⟩ := h.ex
  exact (Crash_any hP.pool hok id hid now).mono fun e w' ⟨h1, ht⟩ => ⟨h1, One.of_ hP h.below ht⟩
theorem exp_one (h : One w0 w p m s R Q) (hok : s.ok) (now : Int) :
    Calls Tryd.prog 16 #[.pointer (some ⟨p, 0, none⟩), .int .i64 now] w fun e w' => ∃ x, e = .returned x ∧ OwnS w' w.heap.size x (expS s now).2 ∧ One w0 w' p m (expS s now).1 R Q := by
  obtain ⟨A, c, hP⟩ := h.ex
  exact (Expire_any hP.pool hok now).mono fun e w' ⟨x, h1, h2, ht⟩ => ⟨x, h1, h2, One.of_ hP h.below ht⟩
theorem cnt_one (h : One w0 w p m s R Q) (hok : s.ok) :
    Calls Tryd.prog 20 #[.pointer (some ⟨p, 0, none⟩)] w fun e w' => e = .returned (.tuple #[.int .i64 (busyN s.l), .int .i64 (s.l.length - busyN s.l : Nat)]) ∧ One w0 w' p m s R Q := by
  obtain ⟨A, c, hP⟩ := h.ex
  exact (Counts_any hP.pool hok).mono fun e w' ⟨h1, hb⟩ => ⟨h1, h.on hb⟩
theorem lst_one (h : One w0 w p m s R Q) (hok : s.ok) :
    Calls Tryd.prog 23 #[.pointer (some ⟨p, 0, none⟩)] w fun e w' => ∃ x, e = .returned x ∧ OwnL w' w.heap.size x s.l ∧ Below w.heap.size w w' ∧ One w0 w' p m s R Q := by
  obtain ⟨A, c, hP⟩ := h.ex
  exact (List_any hP.pool hok).mono fun e w' ⟨x, h1, h2, hb⟩ => ⟨x, h1, h2, hb, h.on hb⟩
theorem lst_fresh (h : One w0 w p m s R Q) (hok : s.ok) :
    Calls Tryd.prog 23 #[.pointer (some ⟨p, 0, none⟩)] w fun e w' => ∃ x, e = .returned x ∧ One w0 w' p m s R (insRow x s.l) := by
  obtain ⟨A, c, hP⟩ := h.ex
  exact (List_any hP.pool hok).mono fun e w' ⟨x, h1, h2, hb⟩ => ⟨x, h1, h.fresh hb h2⟩
theorem col_one (h : One w0 w p m s R Q) (hok : s.ok) :
    Calls Tryd.prog 25 #[.pointer (some ⟨p, 0, none⟩)] w fun e w' => e = .returned (.int .i64 s.bt) ∧ w = w' := by
  obtain ⟨A, c, hP⟩ := h.ex
  exact Colds_any hP.pool hok.mx.1
/-- Where it begins. -/
theorem One.first {w1 : World} {A : Option Addr} {c : Nat} (hP : PoolAt w1 w.heap.size p m A c s) (hz : w0.heap.size ≤ w.heap.size) (h1 : Below w0.heap.size w0 w1) : One w0 w1 p m s noR noR :=
  ⟨⟨A, c, hP.base hz, own_nil _ _ _ _, own_nil _ _ _ _, fun k hk => by simp [noR, Value.ownBlock] at hk, fun k hk => by simp [noR, Value.ownBlock] at hk, fun k hk => by simp [noR, Value.ownBlock] at hk⟩, h1⟩
/-- An empty list, made. -/
theorem One.made (h : One w0 w p m s R Q) : One w0 (w.alloc (.cells #[] 9)) p m s (strR (.slice (some ⟨w.heap.size, 0, none⟩) 0 0) []) Q :=
  (h.turn.fresh (N := strR (.slice (some ⟨w.heap.size, 0, none⟩) 0 0) []) ((Below.refl _ _).alloc (Nat.le_refl _) (.cells #[] 9)) (show OwnS _ _ _ [] from OwnS.empty rfl (Nat.le_refl _))).turn
end
/-- What an error says. -/
structure Err (s t : PS) (now n : Int) : Prop where
  rng : n = 2 ↔ inB now 0 1073741824 = false
  yes : n = 0 → t.now = now ∧ s.now ≤ now
  no : n ≠ 0 → t = s
theorem inB_dec (now : Int) : inB now 0 1073741824 = false ↔ (now < 0 ∨ 1073741824 < now) := by
  rw [← Bool.not_eq_true, inB_iff]
  omega
theorem err_of {s t : PS} {now n : Int} {G : PS × Int} (h : (if rdy s now = 0 then G else (s, rdy s now)) = (t, n)) (hG : rdy s now = 0 → G.2 ≠ 2 ∧ (G.2 = 0 → G.1.now = now) ∧ (G.2 ≠ 0 → G.1 = s)) : Err s t now n := by
  rcases rdy_cases s now with ⟨hr, hi⟩ | ⟨hr, hi, hl⟩ | ⟨hr, hi, hl⟩
  · rw [if_neg (by omega)] at h
    injection h with h1 h2
    subst h1 h2
    exact ⟨⟨fun _ => hi, fun _ => hr⟩, fun h => by omega, fun _ => rfl⟩
  · rw [if_neg (by omega)] at h
    injection h with h1 h2
    subst h1 h2
    exact ⟨⟨fun h => by omega, fun h => by rw [hi] at h; cases h⟩, fun h => by omega, fun _ => rfl⟩
  · rw [if_pos hr] at h
    obtain ⟨g1, g2, g3⟩ := hG hr
    rw [h] at g1 g2 g3
    exact ⟨⟨fun h => absurd h g1, fun h => by rw [hi] at h; cases h⟩, fun h => ⟨g2 h, by omega⟩, g3⟩
theorem rel_err {s t : PS} {id : ByteArray} {now n : Int} (h : relS s id now = (t, n)) : Err s t now n := by
  unfold relS at h
  refine err_of h fun _ => ?_
  unfold relG relX
  repeat' split
  all_goals simp
theorem cra_err {s t : PS} {id : ByteArray} {now n : Int} (h : craS s id now = (t, n)) : Err s t now n := by
  unfold craS at h
  refine err_of h fun _ => ?_
  unfold craG
  repeat' split
  all_goals simp
theorem acq_err {s t : PS} {now n y : Int} {a : ByteArray} (h : acqS s now = (t, a, y, n)) : Err s t now n := by
  have h2 : (if rdy s now = 0 then ((acqG s now).1, (acqG s now).2.2.2) else (s, rdy s now)) = (t, n) := by
    unfold acqS at h
    split at h
    · rw [if_pos ‹_›, h]
    · rw [if_neg ‹_›]
      simp only [Prod.mk.injEq] at h
      obtain ⟨rfl, _, _, rfl⟩ := h
      rfl
  refine err_of h2 fun _ => ?_
  unfold acqG
  repeat' split
  all_goals simp
end Go.Proofs.YtmpaogmfceldjaaDoor
