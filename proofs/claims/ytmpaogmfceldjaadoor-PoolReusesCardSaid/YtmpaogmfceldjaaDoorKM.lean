/- The pools in memory. -/
import Derived.Test.YtmpaogmfceldjaaDoorKP
import Derived.Test.YtmpaogmfceldjaaDoorKC
import Derived.Maps.OwnSet
import Derived.StringKeys
namespace Go.Proofs.YtmpaogmfceldjaaDoor
open Go.RowKit
open Go.Maps (Keyed)

/-! ### the map -/
def Ins.val (x : Ins) : Value := .agg #[.string x.id, .int .i64 x.st, .int .i64 x.since, .int .i64 x.uses]
def Ins.cells (x : Ins) : List Value := [.string x.id, .int .i64 x.st, .int .i64 x.since, .int .i64 x.uses]
def Ins.dat (x : Ins) : DataW Unit := .agg [.lit (.string x.id.data.toList), .lit (.int .i64 x.st), .lit (.int .i64 x.since), .lit (.int .i64 x.uses)]
def zeroI : Ins := ⟨⟨#[]⟩, 0, 0, 0⟩
def insR : Value → Option (DataW Unit × List MemPlace)
  | .agg cs => match cs.toList with
    | [.string a, .int .i64 b, .int .i64 c, .int .i64 d] => some ((⟨a, b, c, d⟩ : Ins).dat, [])
    | _ => none
  | _ => none
theorem insR_val (x : Ins) : insR x.val = some (x.dat, []) := rfl
theorem dat_inj {x y : Ins} (h : x.dat = y.dat) : x = y := by
  obtain ⟨a, b, c, d⟩ := x
  obtain ⟨a', b', c', d'⟩ := y
  unfold Ins.dat at h
  simp only [DataW.agg.injEq, List.cons.injEq, DataW.lit.injEq, Lit.string.injEq, Lit.int.injEq, true_and, and_true] at h
  obtain ⟨h1, rfl, rfl, rfl⟩ := h
  obtain rfl := ba_ext h1
  rfl
theorem insR_inv {v : Value} {x : Ins} {ps : List MemPlace} (h : insR v = some (x.dat, ps)) : v = x.val := by
  unfold insR at h
  split at h
  · rename_i cs
    split at h
    · rename_i a b c d e
      injection h with h
      have h1 := congrArg Prod.fst h
      obtain rfl := dat_inj h1
      have : cs = #[.string a, .int .i64 b, .int .i64 c, .int .i64 d] := Array.toList_inj.1 e
      rw [this]; rfl
    · cases h
  · cases h
theorem keyedS : Keyed Tryd.prog 9 := Maps.string_keyed Tryd.underlying9
theorem zeroIns (w : World) : (zeroValue 56).run Tryd.prog w = .ok zeroI.val w := by kernel_rfl
abbrev klit (s : ByteArray) : Lit := .string s.data.toList
theorem keyL (s : ByteArray) : WideAt.IsKeyLit (klit s) := trivial
theorem klit_ne {s t : ByteArray} (h : s ≠ t) : klit s ≠ klit t := fun e => by injection e with e; exact h (ba_ext e)
theorem keyS {s : ByteArray} (hs : s.size ≤ 9223372036854775807) : keyOf Tryd.prog 9 (.string s) = some (klit s) := WideMaps.keyOf_string_mk Tryd.underlying9 (by unfold maxLen; exact hs)

/-- Block m is a map that holds the instances. -/
structure MapAt (w : World) (m : Nat) (l : List Ins) : Prop where
  own : ∃ D : DataW Unit, w.ownsMap Tryd.prog 9 insR m l.length D ∧ Maps.size D = l.length ∧ (∀ s, Maps.has D (klit s) = (lk l s).isSome) ∧ ∀ s x, lk l s = some x → ∀ z, D.atKey (klit s) z = x.dat
theorem MapAt.lt {w : World} {m : Nat} {l : List Ins} (h : MapAt w m l) : m < w.heap.size := by obtain ⟨D, h, _⟩ := h.own; exact h.lt
theorem tight {w : World} {b n : Nat} {D : DataW Unit} (h : w.ownsMap Tryd.prog 9 insR b n D) : w.ownsMap Tryd.prog 9 insR b (Maps.size D) D := by
  obtain ⟨es, clock, hb, F, hs, rfl⟩ := h
  exact ⟨es, clock, hb, F, by rw [Maps.size_eq, length_sorted]; simp, rfl⟩
theorem MapAt.new (w : World) : MapAt (w.alloc (.map #[] 0)) w.heap.size [] := ⟨.map [], World.ownsMap_made _ _ _ _, rfl, fun _ => rfl, fun _ _ h => by cases h⟩
theorem MapAt.chg {S : Nat → Prop} {w w' : World} {m : Nat} {l : List Ins} (h : MapAt w m l) (hc : Chg S w w') (hn : ¬ S m) : MapAt w' m l := by
  obtain ⟨D, ⟨es, clock, hb, r⟩, r2⟩ := h.own
  exact ⟨D, ⟨es, clock, (hc.block m h.lt hn).trans hb, r⟩, r2⟩
theorem MapAt.ne_blk {w : World} {m g : Nat} {l : List Ins} {t : TypeId} {cs : Array Value} (h : MapAt w m l) (hb : Blk w g t cs) : g ≠ m := by
  rintro rfl
  obtain ⟨D, ⟨es, clock, he, _⟩, _⟩ := h.own
  unfold Blk at hb
  rw [hb] at he
  injection he with he
  cases he
theorem MapAt.off {w : World} {m : Nat} {l : List Ins} (h : MapAt w m l) {base : Nat} {e : TypeId} {sz n : Nat} {v : Value} {xs : List Value} (ho : w.ownsRow base e sz v n xs) {k : Nat} (hk : v.ownBlock = some k) : k ≠ m := by
  obtain ⟨cs, hb⟩ := own_blk ho hk
  exact h.ne_blk hb
/-- m[k]. -/
theorem MapAt.look {w : World} {m : Nat} {l : List Ins} (h : MapAt w m l) {s : ByteArray} (hs : s.size ≤ 9223372036854775807) :
    (Instr.lookup 49 (.map (some m)) (.string s) false).run Tryd.prog w = .ok ((lk l s).getD zeroI).val w := by
  obtain ⟨D, ho, _, hh, ha⟩ := h.own
  obtain ⟨v, ps, hrun, hv⟩ := ho.lookup keyedS Tryd.underlying49 (zeroIns w) (insR_val zeroI) (keyS hs)
  rw [hrun]
  cases e : lk l s with
  | none =>
    have := hh s
    rw [e] at this
    rw [Maps.atKey_of_not_has this] at hv
    rw [insR_inv hv]; rfl
  | some x =>
    rw [ha s x e] at hv
    rw [insR_inv hv]; rfl
/-- v, ok := m[k]. -/
theorem MapAt.look_ok {w : World} {m : Nat} {l : List Ins} (h : MapAt w m l) {s : ByteArray} (hs : s.size ≤ 9223372036854775807) :
    (Instr.lookup 49 (.map (some m)) (.string s) true).run Tryd.prog w = .ok (.tuple #[((lk l s).getD zeroI).val, .bool (lk l s).isSome]) w := by
  obtain ⟨D, ho, _, hh, ha⟩ := h.own
  obtain ⟨v, ps, hrun, hv⟩ := ho.look_ok keyedS Tryd.underlying49 (zeroIns w) (insR_val zeroI) (keyS hs)
  rw [hrun, hh s]
  cases e : lk l s with
  | none =>
    have := hh s
    rw [e] at this
    rw [Maps.atKey_of_not_has this] at hv
    rw [insR_inv hv]; rfl
  | some x =>
    rw [ha s x e] at hv
    rw [insR_inv hv]; rfl
/-- m[k] = v. -/
theorem MapAt.put {w : World} {m : Nat} {l l' : List Ins} (h : MapAt w m l) {s : ByteArray} (hs : s.size ≤ 9223372036854775807) {x : Ins} (hl : ∀ t, lk l' t = if t = s then some x else lk l t) (hn : l'.length = if (lk l s).isSome = true then l.length else l.length + 1) (h32 : l.length ≤ 1000) :
    ∃ w', (Instr.mapUpdate 49 (.map (some m)) (.string s) x.val).run Tryd.prog w = .ok () w' ∧ MapAt w' m l' ∧ w.grownBy w' (some m) := by
  obtain ⟨D, ho, hz, hh, ha⟩ := h.own
  obtain ⟨w', hrun, ho', hg⟩ := ho.update keyedS Tryd.underlying49 (by unfold maxLen; omega) (keyS hs) (insR_val x)
  refine ⟨w', hrun, ⟨D.put (klit s) x.dat, ?_, ?_, fun t => ?_, fun t y ht z => ?_⟩, hg⟩
  · have hsz : Maps.size (D.put (klit s) x.dat) = l'.length := by rw [Maps.size_put (ho.tidy keyedS), hh s, hz, hn]
    rw [← hsz]; exact tight ho'
  · rw [Maps.size_put (ho.tidy keyedS), hh s, hz, hn]
  · rw [hl t]
    split
    · rename_i e; subst e; rw [Maps.has_put_same ho.isMap (keyL _)]; rfl
    · rename_i e; rw [Maps.has_put_other (klit_ne e), hh t]
  · rw [hl t] at ht
    split at ht
    · rename_i e
      subst e
      injection ht with ht
      subst ht
      exact Maps.atKey_put_same ho.isMap (keyL _) _ _
    · rename_i e
      rw [Maps.atKey_put_other (klit_ne e)]
      exact ha t y ht z
/-- delete(m, k). -/
theorem MapAt.drop {w : World} {m : Nat} {l l' : List Ins} (h : MapAt w m l) {s : ByteArray} (hs : s.size ≤ 9223372036854775807) (hl : ∀ t, lk l' t = if t = s then none else lk l t) (hn : l'.length + (if (lk l s).isSome = true then 1 else 0) = l.length) (ty : TypeId) :
    ∃ w', (Builtin.delete_ #[49, 9] ty #[.map (some m), .string s]).run Tryd.prog w = .ok (.tuple #[]) w' ∧ MapAt w' m l' ∧ w.grownBy w' (some m) := by
  obtain ⟨D, ho, hz, hh, ha⟩ := h.own
  obtain ⟨w', hrun, ho', ht⟩ := ho.drop keyedS Tryd.underlying49 (keyS hs) ty
  have hsz : Maps.size (D.del (klit s)) = l'.length := by
    have := Maps.size_del (k := klit s) (ho.tidy keyedS)
    rw [hh s, hz] at this
    omega
  refine ⟨w', hrun, ⟨D.del (klit s), ?_, hsz, fun t => ?_, fun t y hy z => ?_⟩, ht.grown⟩
  · rw [← hsz]; exact tight ho'
  · rw [hl t]
    split
    · rename_i e; subst e; rw [Maps.has_del_same]; rfl
    · rename_i e; rw [Maps.has_del_other (klit_ne e), hh t]
  · rw [hl t] at hy
    split at hy
    · cases hy
    · rename_i e
      rw [Maps.atKey_del_other (klit_ne e)]
      exact ha t y hy z

/-! ### the program's pool -/
def ids (l : List Ins) : List ByteArray := l.map Ins.id
def poolC (s : PS) (m : Nat) (A : Option Addr) (c : Nat) : Array Value :=
  #[.string s.nm, .int .i64 s.p.mx, .int .i64 s.p.idle, .int .i64 s.p.us, .int .i64 s.p.boot, .int .i64 s.now, .int .i64 s.bt, .slice A s.l.length c, .map (some m)]
structure PoolAt (w : World) (B p m : Nat) (A : Option Addr) (c : Nat) (s : PS) : Prop where
  blk : Blk w p 51 (poolC s m A c)
  row : w.ownsRow B 9 1 (.slice A s.l.length c) s.l.length (svals (ids s.l))
  map : MapAt w m s.l
  hp : B ≤ p
  hm : B ≤ m
/-- All that a pool rests on. -/
def pf (p m : Nat) (A : Option Addr) (k : Nat) : Prop := k = p ∨ k = m ∨ A.map (·.block) = some k
theorem PoolAt.row_ne {w : World} {B p m : Nat} {A : Option Addr} {c : Nat} {s : PS} (h : PoolAt w B p m A c s) : A.map (·.block) ≠ some p ∧ A.map (·.block) ≠ some m ∧ p ≠ m := by
  refine ⟨fun e => ?_, fun e => ?_, h.map.ne_blk h.blk⟩
  · exact h.blk.off h.row (by decide) (k := p) (by rw [own_eq]; exact e) rfl
  · exact h.map.off h.row (k := m) (by rw [own_eq]; exact e) rfl
theorem PoolAt.foot_lt {w : World} {B p m : Nat} {A : Option Addr} {c : Nat} {s : PS} (h : PoolAt w B p m A c s) : ∀ k, pf p m A k → B ≤ k ∧ k < w.heap.size := by
  rintro k (rfl | rfl | e)
  · exact ⟨h.hp, h.blk.lt⟩
  · exact ⟨h.hm, h.map.lt⟩
  · exact own_lt h.row (by rw [own_eq]; exact e)
theorem PoolAt.chg {S : Nat → Prop} {w w' : World} {B p m : Nat} {A : Option Addr} {c : Nat} {s : PS} (h : PoolAt w B p m A c s) (hc : Chg S w w') (hn : ∀ k, pf p m A k → ¬ S k) : PoolAt w' B p m A c s :=
  ⟨hc.blk h.blk (hn _ (.inl rfl)), hc.own h.row (fun k hk => hn k (.inr (.inr (by rw [own_eq] at hk; exact hk)))), h.map.chg hc (hn _ (.inr (.inl rfl))), h.hp, h.hm⟩
theorem PoolAt.below {w w' : World} {B p m : Nat} {A : Option Addr} {c : Nat} {s : PS} (h : PoolAt w B p m A c s) (hb : Below w.heap.size w w') : PoolAt w' B p m A c s :=
  h.chg (S := fun _ => False) (Chg.of_below hb) (fun _ _ h => h)

/-! ### the reference's pool -/
def rpoolC (s : PS) (A : Option Addr) (c : Nat) : Array Value :=
  #[.string s.nm, .int .i64 s.p.mx, .int .i64 s.p.idle, .int .i64 s.p.us, .int .i64 s.p.boot, .slice A s.l.length c, .int .i64 s.now, .int .i64 s.bt]
structure RPoolAt (w : World) (B p : Nat) (A : Option Addr) (c : Nat) (s : PS) : Prop where
  blk : Blk w p 61 (rpoolC s A c)
  row : w.ownsRow B 56 4 (.slice A s.l.length c) s.l.length (s.l.flatMap Ins.cells)
  hp : B ≤ p
def rpf (p : Nat) (A : Option Addr) (k : Nat) : Prop := k = p ∨ A.map (·.block) = some k
theorem RPoolAt.row_ne {w : World} {B p : Nat} {A : Option Addr} {c : Nat} {s : PS} (h : RPoolAt w B p A c s) : A.map (·.block) ≠ some p := fun e => h.blk.off h.row (by decide) (k := p) (by rw [own_eq]; exact e) rfl
theorem RPoolAt.foot_lt {w : World} {B p : Nat} {A : Option Addr} {c : Nat} {s : PS} (h : RPoolAt w B p A c s) : ∀ k, rpf p A k → B ≤ k ∧ k < w.heap.size := by
  rintro k (rfl | e)
  · exact ⟨h.hp, h.blk.lt⟩
  · exact own_lt h.row (by rw [own_eq]; exact e)
theorem RPoolAt.chg {S : Nat → Prop} {w w' : World} {B p : Nat} {A : Option Addr} {c : Nat} {s : PS} (h : RPoolAt w B p A c s) (hc : Chg S w w') (hn : ∀ k, rpf p A k → ¬ S k) : RPoolAt w' B p A c s :=
  ⟨hc.blk h.blk (hn _ (.inl rfl)), hc.own h.row (fun k hk => hn k (.inr (by rw [own_eq] at hk; exact hk))), h.hp⟩
theorem RPoolAt.below {w w' : World} {B p : Nat} {A : Option Addr} {c : Nat} {s : PS} (h : RPoolAt w B p A c s) (hb : Below w.heap.size w w') : RPoolAt w' B p A c s :=
  h.chg (S := fun _ => False) (Chg.of_below hb) (fun _ _ h => h)
end Go.Proofs.YtmpaogmfceldjaaDoor
