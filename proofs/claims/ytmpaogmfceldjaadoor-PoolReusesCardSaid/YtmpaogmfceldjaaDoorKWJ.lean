/- A pool, the reference's pool, lists of the call's own: what a call leaves of each. -/
import Derived.Test.YtmpaogmfceldjaaDoorKWI
import Derived.Maps.AppendAt
namespace Go.Proofs.YtmpaogmfceldjaaDoor
open Go.RowKit
open Go.Sort (grow)

theorem PoolAt.base {w : World} {B B' p m c : Nat} {A : Option Addr} {s : PS} (h : PoolAt w B p m A c s) (hb : B' ≤ B) : PoolAt w B' p m A c s := ⟨h.blk, own_base h.row hb, h.map, Nat.le_trans hb h.hp, Nat.le_trans hb h.hm⟩
theorem RPoolAt.base {w : World} {B B' p c : Nat} {A : Option Addr} {s : PS} (h : RPoolAt w B p A c s) (hb : B' ≤ B) : RPoolAt w B' p A c s := ⟨h.blk, own_base h.row hb, Nat.le_trans hb h.hp⟩
theorem OwnS.base {w : World} {B B' : Nat} {v : Value} {l : List ByteArray} (h : OwnS w B v l) (hb : B' ≤ B) : OwnS w B' v l := own_base h hb
theorem OwnS.chg {S : Nat → Prop} {w w' : World} {B : Nat} {v : Value} {l : List ByteArray} (h : OwnS w B v l) (hc : Chg S w w') (hn : ∀ k, v.ownBlock = some k → ¬ S k) : OwnS w' B v l := hc.own h hn
/-- What the calls rest on, each part apart from the others. -/
structure TwoP (w : World) (B p m : Nat) (A : Option Addr) (c : Nat) (s : PS) (q : Nat) (A' : Option Addr) (c' : Nat) (r : PS) (v : Value) (T : List ByteArray) (u : Value) (U : List ByteArray) : Prop where
  pool : PoolAt w B p m A c s
  ref : RPoolAt w B q A' c' r
  own : OwnS w B v T
  row : OwnS w B u U
  pr : ∀ k, pf p m A k → ¬ rpf q A' k
  pv : ∀ k, v.ownBlock = some k → ¬ pf p m A k ∧ ¬ rpf q A' k
  pu : ∀ k, u.ownBlock = some k → ¬ pf p m A k ∧ ¬ rpf q A' k
  vu : ∀ k, v.ownBlock = some k → u.ownBlock ≠ some k
structure Two (w0 w : World) (p m q : Nat) (s r : PS) (v : Value) (T : List ByteArray) (u : Value) (U : List ByteArray) : Prop where
  ex : ∃ A c A' c', TwoP w w0.heap.size p m A c s q A' c' r v T u U
  below : Below w0.heap.size w0 w
section
variable {w0 w w' : World} {p m q : Nat} {s r t : PS} {v u : Value} {T U : List ByteArray}
theorem Two.own (h : Two w0 w p m q s r v T u U) : OwnS w w0.heap.size v T := by obtain ⟨_, _, _, _, h⟩ := h.ex; exact h.own
theorem Two.row (h : Two w0 w p m q s r v T u U) : OwnS w w0.heap.size u U := by obtain ⟨_, _, _, _, h⟩ := h.ex; exact h.row
theorem Two.laid (h : Two w0 w p m q s r v T u U) (hl : LaidW w0) : LaidW w := hl.below h.below
theorem Two.on (h : Two w0 w p m q s r v T u U) (hb : Below w.heap.size w w') : Two w0 w' p m q s r v T u U := by
  obtain ⟨A, c, A', c', h1, h2, h3, h4, h5, h6, h7, h8⟩ := h.ex
  exact ⟨⟨A, c, A', c', h1.below hb, h2.below hb, h3.on hb, h4.on hb, h5, h6, h7, h8⟩, h.below.trans (hb.mono h.below.size)⟩
theorem TwoP.pool_to {B : Nat} {A A' : Option Addr} {c c' : Nat} (h : TwoP w B p m A c s q A' c' r v T u U) (ht : PoolTo w B p m A t w') : ∃ A c, TwoP w' B p m A c t q A' c' r v T u U := by
  obtain ⟨A1, c1, h1, hc, hf⟩ := ht
  refine ⟨A1, c1, h1, h.ref.chg hc fun k hk hp => h.pr k hp hk, h.own.chg hc fun k hk => (h.pv k hk).1, h.row.chg hc fun k hk => (h.pu k hk).1, fun k hk hr => ?_, fun k hk => ⟨fun hp => ?_, (h.pv k hk).2⟩, fun k hk => ⟨fun hp => ?_, (h.pu k hk).2⟩, h.vu⟩
  · rcases hf k hk with h0 | h0
    · exact h.pr k h0 hr
    · have := (h.ref.foot_lt k hr).2; omega
  · rcases hf k hp with h0 | h0
    · exact (h.pv k hk).1 h0
    · have := (own_lt h.own hk).2; omega
  · rcases hf k hp with h0 | h0
    · exact (h.pu k hk).1 h0
    · have := (own_lt h.row hk).2; omega
theorem TwoP.ref_to {B : Nat} {A A' : Option Addr} {c c' : Nat} (h : TwoP w B p m A c s q A' c' r v T u U) (ht : RPoolTo w B q A' t w') : ∃ A' c', TwoP w' B p m A c s q A' c' t v T u U := by
  obtain ⟨A1, c1, h1, hc, hf⟩ := ht
  refine ⟨A1, c1, h.pool.chg hc fun k hk hp => h.pr k hk hp, h1, h.own.chg hc fun k hk => (h.pv k hk).2, h.row.chg hc fun k hk => (h.pu k hk).2, fun k hk hr => ?_, fun k hk => ⟨(h.pv k hk).1, fun hp => ?_⟩, fun k hk => ⟨(h.pu k hk).1, fun hp => ?_⟩, h.vu⟩
  · rcases hf k hr with h0 | h0
    · exact h.pr k hk h0
    · have := (h.pool.foot_lt k hk).2; omega
  · rcases hf k hp with h0 | h0
    · exact (h.pv k hk).2 h0
    · have := (own_lt h.own hk).2; omega
  · rcases hf k hp with h0 | h0
    · exact (h.pu k hk).2 h0
    · have := (own_lt h.row hk).2; omega
theorem TwoP.out {B : Nat} {A A' : Option Addr} {c c' : Nat} (h : TwoP w B p m A c s q A' c' r v T u U) (ht : PoolTo w B p m A t w') (hB : B ≤ w.heap.size) : Below B w w' := (ht.out h.pool hB).2
theorem TwoP.rout {B : Nat} {A A' : Option Addr} {c c' : Nat} (h : TwoP w B p m A c s q A' c' r v T u U) (ht : RPoolTo w B q A' t w') (hB : B ≤ w.heap.size) : Below B w w' := by
  obtain ⟨_, _, _, h2, _⟩ := ht
  exact h2.toBelow (fun k hk => (h.ref.foot_lt k hk).1) hB
/-- Another second list. -/
theorem Two.turn (h : Two w0 w p m q s r v T u U) : Two w0 w p m q s r u U v T := by
  obtain ⟨A, c, A', c', h1, h2, h3, h4, h5, h6, h7, h8⟩ := h.ex
  exact ⟨⟨A, c, A', c', h1, h2, h4, h3, h5, h7, h6, fun k hk e => h8 k e hk⟩, h.below⟩
theorem Two.drop (h : Two w0 w p m q s r v T u U) : Two w0 w p m q s r v T (.slice none 0 0) [] := by
  obtain ⟨A, c, A', c', h1, h2, h3, h4, h5, h6, h7, h8⟩ := h.ex
  exact ⟨⟨A, c, A', c', h1, h2, h3, OwnS.nil _ _, h5, h6, fun k hk => by simp [Value.ownBlock] at hk, fun k _ e => by simp [Value.ownBlock] at e⟩, h.below⟩
/-- One more string at the end of the first list. -/
theorem Two.tell (h : Two w0 w p m q s r v T u U) {x : ByteArray} {v' : Value} (ho : w'.ownsRow w0.heap.size 9 1 v' (T.length + 1) (svals T ++ [.string x])) (hg : w.grownBy w' v.ownBlock) (hk : v'.ownBlock = v.ownBlock ∨ v'.ownBlock = some w.heap.size) : Two w0 w' p m q s r v' (T ++ [x]) u U := by
  obtain ⟨A, c, A', c', h1, h2, h3, h4, h5, h6, h7, h8⟩ := h.ex
  have hc : Chg (fun k => v.ownBlock = some k) w w' := (Chg.refl _ _).grown hg (fun k hk _ => hk)
  refine ⟨⟨A, c, A', c', h1.chg hc fun k hk e => (h6 k e).1 hk, h2.chg hc fun k hk e => (h6 k e).2 hk, OwnS.push ho, h4.chg hc fun k hk e => h8 k e hk, h5, fun k hk' => ?_, h7, fun k hk' e => ?_⟩, h.below.trans (hc.toBelow (fun k hk => (own_lt h3 hk).1) h.below.size)⟩
  · rcases hk with e | e
    · exact h6 k (e ▸ hk')
    · rw [e] at hk'
      injection hk' with hk'
      subst hk'
      exact ⟨fun hp => by have := (h1.foot_lt _ hp).2; omega, fun hp => by have := (h2.foot_lt _ hp).2; omega⟩
  · rcases hk with e' | e'
    · exact h8 k (e' ▸ hk') e
    · rw [e'] at hk'
      injection hk' with hk'
      subst hk'
      have := (own_lt h4 e).2
      omega
theorem acq_two (h : Two w0 w p m q s r v T u U) (hok : s.ok) (hbt : s.bt ≤ 1000000) (hl : LaidW w0) (now : Int) :
    Calls Tryd.prog 11 #[.pointer (some ⟨p, 0, none⟩), .int .i64 now] w fun e w' => e = .returned (tup3 (acqS s now)) ∧ Two w0 w' p m q (acqS s now).1 r v T u U := by
  obtain ⟨A, c, A', c', hP⟩ := h.ex
  refine (Acquire_any hP.pool hok hbt (h.laid hl) now).mono ?_
  rintro e w' ⟨rfl, ht⟩
  obtain ⟨A1, c1, h1⟩ := hP.pool_to ht
  exact ⟨rfl, ⟨A1, c1, A', c', h1⟩, h.below.trans (hP.out ht h.below.size)⟩
theorem racq_two (h : Two w0 w p m q s r v T u U) (hok : r.ok) (hbt : r.bt ≤ 1000000) (now : Int) :
    Calls Tryd.prog 12 #[.pointer (some ⟨q, 0, none⟩), .int .i64 now] w fun e w' => e = .returned (tup3 (acqS r now)) ∧ Two w0 w' p m q s (acqS r now).1 v T u U := by
  obtain ⟨A, c, A', c', hP⟩ := h.ex
  refine (rAcquire_any hP.ref hok hbt now).mono ?_
  rintro e w' ⟨rfl, ht⟩
  obtain ⟨A1, c1, h1⟩ := hP.ref_to ht
  exact ⟨rfl, ⟨A, c, A1, c1, h1⟩, h.below.trans (hP.rout ht h.below.size)⟩
theorem rel_two (h : Two w0 w p m q s r v T u U) (hok : s.ok) (id : ByteArray) (hid : id.size ≤ 9223372036854775807) (now : Int) :
    Calls Tryd.prog 13 #[.pointer (some ⟨p, 0, none⟩), .string id, .int .i64 now] w fun e w' => e = .returned (.int .i64 (relS s id now).2) ∧ Two w0 w' p m q (relS s id now).1 r v T u U := by
  obtain ⟨A, c, A', c', hP⟩ := h.ex
  refine (Release_any hP.pool hok id hid now).mono ?_
  rintro e w' ⟨rfl, ht⟩
  obtain ⟨A1, c1, h1⟩ := hP.pool_to ht
  exact ⟨rfl, ⟨A1, c1, A', c', h1⟩, h.below.trans (hP.out ht h.below.size)⟩
theorem rrel_two (h : Two w0 w p m q s r v T u U) (hok : r.ok) (id : ByteArray) (now : Int) :
    Calls Tryd.prog 14 #[.pointer (some ⟨q, 0, none⟩), .string id, .int .i64 now] w fun e w' => e = .returned (.int .i64 (relS r id now).2) ∧ Two w0 w' p m q s (relS r id now).1 v T u U := by
  obtain ⟨A, c, A', c', hP⟩ := h.ex
  refine (rRelease_any hP.ref hok id now).mono ?_
  rintro e w' ⟨rfl, ht⟩
  obtain ⟨A1, c1, h1⟩ := hP.ref_to ht
  exact ⟨rfl, ⟨A, c, A1, c1, h1⟩, h.below.trans (hP.rout ht h.below.size)⟩
theorem cra_two (h : Two w0 w p m q s r v T u U) (hok : s.ok) (id : ByteArray) (hid : id.size ≤ 9223372036854775807) (now : Int) :
    Calls Tryd.prog 18 #[.pointer (some ⟨p, 0, none⟩), .string id, .int .i64 now] w fun e w' => e = .returned (.int .i64 (craS s id now).2) ∧ Two w0 w' p m q (craS s id now).1 r v T u U := by
  obtain ⟨A, c, A', c', hP⟩ := h.ex
  refine (Crash_any hP.pool hok id hid now).mono ?_
  rintro e w' ⟨rfl, ht⟩
  obtain ⟨A1, c1, h1⟩ := hP.pool_to ht
  exact ⟨rfl, ⟨A1, c1, A', c', h1⟩, h.below.trans (hP.out ht h.below.size)⟩
theorem rcra_two (h : Two w0 w p m q s r v T u U) (hok : r.ok) (id : ByteArray) (now : Int) :
    Calls Tryd.prog 19 #[.pointer (some ⟨q, 0, none⟩), .string id, .int .i64 now] w fun e w' => e = .returned (.int .i64 (craS r id now).2) ∧ Two w0 w' p m q s (craS r id now).1 v T u U := by
  obtain ⟨A, c, A', c', hP⟩ := h.ex
  refine (rCrash_any hP.ref hok id now).mono ?_
  rintro e w' ⟨rfl, ht⟩
  obtain ⟨A1, c1, h1⟩ := hP.ref_to ht
  exact ⟨rfl, ⟨A, c, A1, c1, h1⟩, h.below.trans (hP.rout ht h.below.size)⟩
/-- Behind Expire: its list lies apart from what the reference rests on. -/
structure Mid (w0 w : World) (p m q : Nat) (s r : PS) (v : Value) (T : List ByteArray) (u : Value) (U : List ByteArray) (x : Value) (X : List ByteArray) : Prop where
  ex : ∃ A c A' c', TwoP w w0.heap.size p m A c s q A' c' r v T u U ∧ ∀ k, x.ownBlock = some k → ¬ rpf q A' k
  row : OwnS w w0.heap.size x X
  below : Below w0.heap.size w0 w
theorem Mid.two {x : Value} {X : List ByteArray} (h : Mid w0 w p m q s r v T u U x X) : Two w0 w p m q s r v T u U := by
  obtain ⟨A, c, A', c', h1, _⟩ := h.ex
  exact ⟨⟨A, c, A', c', h1⟩, h.below⟩
theorem exp_two (h : Two w0 w p m q s r v T u U) (hok : s.ok) (now : Int) :
    Calls Tryd.prog 16 #[.pointer (some ⟨p, 0, none⟩), .int .i64 now] w fun e w' => ∃ x, e = .returned x ∧ Mid w0 w' p m q (expS s now).1 r v T u U x (expS s now).2 := by
  obtain ⟨A, c, A', c', hP⟩ := h.ex
  refine (Expire_any hP.pool hok now).mono ?_
  rintro e w' ⟨x, rfl, hx, ht⟩
  obtain ⟨A1, c1, h1⟩ := hP.pool_to ht
  exact ⟨x, rfl, ⟨A1, c1, A', c', h1, fun k hk hr => by have := (own_lt hx hk).1; have := (hP.ref.foot_lt k hr).2; omega⟩, hx.base h.below.size, h.below.trans (hP.out ht h.below.size)⟩
theorem rexp_two {x : Value} {X : List ByteArray} (h : Mid w0 w p m q s r v T u U x X) (hok : r.ok) (now : Int) :
    Calls Tryd.prog 17 #[.pointer (some ⟨q, 0, none⟩), .int .i64 now] w fun e w' => ∃ y, e = .returned y ∧ OwnS w' w0.heap.size y (expS r now).2 ∧ OwnS w' w0.heap.size x X ∧ Two w0 w' p m q s (expS r now).1 v T u U := by
  obtain ⟨A, c, A', c', hP, hn⟩ := h.ex
  refine (rExpire_any hP.ref hok now).mono ?_
  rintro e w' ⟨y, rfl, hy, ht⟩
  obtain ⟨A1, c1, h1⟩ := hP.ref_to ht
  have hc : Chg (rpf q A') w w' := by obtain ⟨_, _, _, hc, _⟩ := ht; exact hc
  exact ⟨y, rfl, hy.base h.below.size, h.row.chg hc hn, ⟨A, c, A1, c1, h1⟩, h.below.trans (hP.rout ht h.below.size)⟩
theorem cnt_two (h : Two w0 w p m q s r v T u U) (hok : s.ok) :
    Calls Tryd.prog 20 #[.pointer (some ⟨p, 0, none⟩)] w fun e w' => e = .returned (.tuple #[.int .i64 (busyN s.l), .int .i64 (s.l.length - busyN s.l : Nat)]) ∧ Below w.heap.size w w' ∧ Two w0 w' p m q s r v T u U := by
  obtain ⟨A, c, A', c', hP⟩ := h.ex
  exact (Counts_any hP.pool hok).mono fun e w' ⟨h1, hb⟩ => ⟨h1, hb, h.on hb⟩
theorem rcnt_two (h : Two w0 w p m q s r v T u U) (hok : r.ok) :
    Calls Tryd.prog 21 #[.pointer (some ⟨q, 0, none⟩)] w fun e w' => e = .returned (.tuple #[.int .i64 (busyN r.l), .int .i64 (r.l.length - busyN r.l : Nat)]) ∧ Below w.heap.size w w' ∧ Two w0 w' p m q s r v T u U := by
  obtain ⟨A, c, A', c', hP⟩ := h.ex
  exact (rCounts_any hP.ref hok).mono fun e w' ⟨h1, hb⟩ => ⟨h1, hb, h.on hb⟩
theorem lst_two (h : Two w0 w p m q s r v T u U) (hok : s.ok) :
    Calls Tryd.prog 23 #[.pointer (some ⟨p, 0, none⟩)] w fun e w' => ∃ x, e = .returned x ∧ OwnL w' w.heap.size x s.l ∧ Below w.heap.size w w' ∧ Two w0 w' p m q s r v T u U := by
  obtain ⟨A, c, A', c', hP⟩ := h.ex
  exact (List_any hP.pool hok).mono fun e w' ⟨x, h1, h2, hb⟩ => ⟨x, h1, h2, hb, h.on hb⟩
theorem rlst_two (h : Two w0 w p m q s r v T u U) (hok : r.ok) :
    Calls Tryd.prog 24 #[.pointer (some ⟨q, 0, none⟩)] w fun e w' => ∃ x, e = .returned x ∧ OwnL w' w.heap.size x r.l ∧ Below w.heap.size w w' ∧ Two w0 w' p m q s r v T u U := by
  obtain ⟨A, c, A', c', hP⟩ := h.ex
  exact (rList_any hP.ref hok).mono fun e w' ⟨x, h1, h2, hb⟩ => ⟨x, h1, h2, hb, h.on hb⟩
theorem col_two (h : Two w0 w p m q s r v T u U) (hok : s.ok) :
    Calls Tryd.prog 25 #[.pointer (some ⟨p, 0, none⟩)] w fun e w' => e = .returned (.int .i64 s.bt) ∧ w = w' := by
  obtain ⟨A, c, A', c', hP⟩ := h.ex
  exact Colds_any hP.pool hok.mx.1
theorem rcol_two (h : Two w0 w p m q s r v T u U) (hok : r.ok) :
    Calls Tryd.prog 26 #[.pointer (some ⟨q, 0, none⟩)] w fun e w' => e = .returned (.int .i64 r.bt) ∧ w = w' := by
  obtain ⟨A, c, A', c', hP⟩ := h.ex
  exact rColds_any hP.ref hok.mx.1
/-- Where it begins. -/
theorem Two.first {w1 w2 : World} {nm : ByteArray} {pp : PP} (hP : PoolAt w1 w.heap.size p m none 0 ⟨nm, pp, 0, 0, []⟩) (hR : RPoolAt w2 w1.heap.size q none 0 ⟨nm, pp, 0, 0, []⟩) (hz : w0.heap.size ≤ w.heap.size) (h1 : Below w0.heap.size w0 w1) (h2 : Below w1.heap.size w1 w2) :
    Two w0 w2 p m q ⟨nm, pp, 0, 0, []⟩ ⟨nm, pp, 0, 0, []⟩ (.slice none 0 0) [] (.slice none 0 0) [] := by
  have hlt := hP.foot_lt
  refine ⟨⟨none, 0, none, 0, (hP.below h2).base hz, hR.base h1.size, OwnS.nil _ _, OwnS.nil _ _, fun k hk hr => ?_, fun k hk => by simp [Value.ownBlock] at hk, fun k hk => by simp [Value.ownBlock] at hk, fun k hk => by simp [Value.ownBlock] at hk⟩, h1.trans (h2.mono h1.size)⟩
  have := (hlt k hk).2
  have := (hR.foot_lt k hr).1
  omega
/-- An empty list, made. -/
theorem Two.made (h : Two w0 w p m q s r v T u U) : Two w0 (w.alloc (.cells #[] 9)) p m q s r (.slice (some ⟨w.heap.size, 0, none⟩) 0 0) [] u U := by
  have h' := h.on ((Below.refl _ _).alloc (Nat.le_refl _) (.cells #[] 9))
  obtain ⟨A, c, A', c', h1, h2, h3, h4, h5, h6, h7, h8⟩ := h.ex
  have hb : Below w.heap.size w (w.alloc (.cells #[] 9)) := (Below.refl _ _).alloc (Nat.le_refl _) _
  refine ⟨⟨A, c, A', c', h1.below hb, h2.below hb, OwnS.empty rfl h.below.size, h4.on hb, h5, fun k hk => ?_, h7, fun k hk e => ?_⟩, h'.below⟩
  · obtain rfl : w.heap.size = k := by simpa [Value.ownBlock] using hk
    exact ⟨fun hp => by have := (h1.foot_lt _ hp).2; omega, fun hp => by have := (h2.foot_lt _ hp).2; omega⟩
  · obtain rfl : w.heap.size = k := by simpa [Value.ownBlock] using hk
    have := (own_lt h4 e).2
    omega
end
end Go.Proofs.YtmpaogmfceldjaaDoor
