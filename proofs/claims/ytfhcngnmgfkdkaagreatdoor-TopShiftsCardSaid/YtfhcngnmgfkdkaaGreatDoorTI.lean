/- The symbolic machine: the operations that look at values alone, and loads. -/
import Derived.Test.YtfhcngnmgfkdkaaGreatDoorTH
import Derived.Laws.Strings2
import Derived.Laws.StructEq
namespace Go.Proofs.YtfhcngnmgfkdkaaGreatDoor
namespace Sy
open Go.RowKit

/-! ### states -/
def SB.live : SB → Bool
  | .dead => false
  | _ => true
def EntOk (E : Env) (e : SV × SV × Nat) (m : MapEntry) : Prop := ∃ k v, den E e.1 = some k ∧ den E e.2.1 = some v ∧ m = ⟨k, v, e.2.2⟩
def CellsOk (E : Env) (cs : List SV) (arr : Array Value) : Prop := ∀ (j : Nat) (v : SV), cs[j]? = some v → ∃ x, den E v = some x ∧ x.oneCell' = true ∧ arr[j]? = some x
def BOk (B : Nat) (E : Env) (w : World) (id : Nat) : SB → Prop
  | .c ro cs sp => ∃ r arr ty, E.r id = some r ∧ (ro = false → B ≤ r) ∧ w.heap[r]? = some (.cells arr ty (0, 0)) ∧ CellsOk E cs arr ∧ (sp ≠ 0 → ∃ c, E.c id = some c ∧ arr.size = c * sp)
  | .mp es ck => ∃ r es', E.r id = some r ∧ B ≤ r ∧ w.heap[r]? = some (.map es' ck) ∧ es'.size = es.length ∧ ∀ (j : Nat) (e : SV × SV × Nat), es[j]? = some e → ∃ m, es'[j]? = some m ∧ EntOk E e m
  | .dead => True
structure Inv (B : Nat) (w0 : World) (E : Env) (S : SH) (w : World) : Prop where
  below : Below B w0 w
  base : B ≤ w0.heap.size
  glob : ∀ g, g < 7 → E.r g = some g
  fresh : ∀ id, S.h.get id = none → 16 ≤ id → E.r id = none ∧ E.c id = none
  blk : ∀ id b, S.h.get id = some b → BOk B E w id b
  inj : ∀ i j a b, S.h.get i = some a → S.h.get j = some b → a.live = true → b.live = true → i ≠ j → E.r i ≠ E.r j
def DfOk (E : Env) : List (FuncId × List SV) → List Deferred → Prop
  | [], [] => True
  | p :: l, d :: r => (∃ cap, d.target = .fn (.func p.1) cap ∧ denL E p.2 = some (d.args.toList ++ cap.toList)) ∧ DfOk E l r
  | _, _ => False
structure ARel (E : Env) (A : SA) (a : Act) : Prop where
  glob : ∀ g, g < 7 → E.r g = some g
  size : a.tmps.size = A.n
  tmp : ∀ t v, A.t.get t = some v → ∃ x, den E v = some x ∧ a.tmps[t]? = some x
  df : DfOk E A.df a.defers
theorem DfOk.mono {E F : Env} (h : E.le F) : ∀ {l : List (FuncId × List SV)} {r : List Deferred}, DfOk E l r → DfOk F l r
  | [], [], _ => trivial
  | _ :: _, _ :: _, ⟨⟨cap, h1, h2⟩, h3⟩ => ⟨⟨cap, h1, denL_mono h _ h2⟩, DfOk.mono h h3⟩
  | [], _ :: _, k => k.elim
  | _ :: _, [], k => k.elim
theorem ARel.mono {E F : Env} (h : E.le F) {A : SA} {a : Act} (k : ARel E A a) : ARel F A a :=
  ⟨fun g hg => h.1 _ _ (k.glob g hg), k.size, fun t v hv => let ⟨x, h1, h2⟩ := k.tmp t v hv; ⟨x, den_mono h _ h1, h2⟩, k.df.mono h⟩
theorem ARel.ev {E : Env} {A : SA} {a : Act} (k : ARel E A a) {x : Operand} {v : SV} (h : A.ev x = some v) : den E v = some (a.eval x) := by
  cases x with
  | tmp t =>
    obtain ⟨x, h1, h2⟩ := k.tmp t v h
    rw [h1]
    simp [Act.eval, Array.getD_eq_getD_getElem?, h2]
  | const c => exact ofV_den h
  | global g =>
    simp only [SA.ev] at h
    split at h
    · rename_i hg
      injection h with h
      subst h
      simp [den, Act.eval, k.glob g (ltB hg)]
    · cases h
  | func f =>
    simp only [SA.ev, Option.some.injEq] at h
    subst h
    simp [den, denL, Act.eval]
theorem ARel.put {E : Env} {A A' : SA} {a : Act} (k : ARel E A a) {d : Option Tmp} {v : SV} {x : Value} (h : A.put d v = some A') (hx : den E v = some x) : ARel E A' (a.put d x) := by
  cases d with
  | none =>
    simp only [SA.put, Option.some.injEq] at h
    subst h
    exact k
  | some d =>
    simp only [SA.put] at h
    split at h
    · rename_i hd
      injection h with h
      subst h
      obtain ⟨h1, h2⟩ := and2 hd
      have h1 := ltB h1
      have h2 := ltB h2
      refine ⟨k.glob, by simp [Act.put, k.size], fun t u hu => ?_, k.df⟩
      by_cases ht : t = d
      · subst ht
        rw [Tr.put_same _ _ _ h2] at hu
        injection hu with hu
        subst hu
        exact ⟨x, hx, by simp [Act.put, k.size, h1]⟩
      · rw [Tr.put_other _ _ ht] at hu
        obtain ⟨y, h3, h4⟩ := k.tmp t u hu
        exact ⟨y, h3, by simp [Act.put, h4, Ne.symm ht]⟩
    · cases h
theorem ARel.put_n {A A' : SA} {d : Option Tmp} {v : SV} (h : A.put d v = some A') : A'.df = A.df := by
  cases d with
  | none => simp only [SA.put, Option.some.injEq] at h; subst h; rfl
  | some d =>
    simp only [SA.put] at h
    split at h
    · injection h with h; subst h; rfl
    · cases h

/-! ### running small things -/
section
variable {P : Program} {w : World}
theorem rSz {t : TypeId} {n : Nat} (h : sz P t = some n) : (sizeOf t).run P w = .ok n w := by
  unfold sz at h
  split at h
  · rename_i i hi
    injection h with h
    subst h
    simp [sizeOf, typeInfo, hi]
  · cases h
theorem rAgg {t : TypeId} {b : Bool} (h : aggT P t = some b) : (isAgg t).run P w = .ok b w := by
  unfold aggT at h
  split at h
  · rename_i d hd
    injection h with h
    subst h
    simp [isAgg, run_underlying hd]
  · rename_i d hd
    injection h with h
    subst h
    simp [isAgg, run_underlying hd]
  · rename_i d h1 h2 hd
    injection h with h
    subst h
    cases d <;> first
      | exact absurd rfl (h1 _)
      | exact absurd rfl (h2 _ _)
      | simp [isAgg, run_underlying hd]
  · cases h
theorem rPart {E : Env} {t : TypeId} {cs : List SV} {o : Nat} {v : SV} (h : partS P t cs o = some v) {xs : List Value} (hx : denL E cs = some xs) :
    ∃ x, den E v = some x ∧ (part t xs.toArray o).run P w = .ok x w := by
  obtain ⟨hl, hx⟩ := denL_some hx
  unfold partS at h
  split at h
  · rename_i ha
    split at h
    · rename_i n hn
      split at h
      · rename_i l hs
        injection h with h
        subst h
        obtain ⟨h1, h2, h3⟩ := seg_some hs
        have hd : denL E l = some ((xs.drop o).take n) := by
          refine denL_of (by simp; omega) fun j v hv => ?_
          have hj : j < n := by rw [← h2]; exact (List.getElem?_eq_some_iff.1 hv).1
          rw [h3 j hj] at hv
          obtain ⟨y, e1, e2⟩ := hx _ _ hv
          exact ⟨y, e1, by simp [hj, e2]⟩
        refine ⟨.agg ((xs.drop o).take n).toArray, by simp [den, hd], ?_⟩
        simp only [part, Sem.run_bind, rAgg ha, Result.andThen_ok, if_true, rSz hn, Sem.run_pure]
        congr 2
        apply Array.ext'
        simp
      · cases h
    · cases h
  · rename_i ha
    obtain ⟨y, e1, e2⟩ := hx _ _ h
    refine ⟨y, e1, ?_⟩
    simp [part, rAgg ha, e2]
  · cases h
theorem natOf_some {q : Int} {n : Nat} (h : natOf q = some n) : q = n := by
  cases q with
  | ofNat m => simp only [natOf, Option.some.injEq] at h; subst h; rfl
  | negSucc m => cases h
end

/-! ### operations that look at values alone -/
section
variable {P : Program} {E : Env}
theorem eqGuard_ok (op : BinOp) (t : TypeId) (x y : Operand) (a b : Value) (h1 : a ≠ .nilIface) (h2 : ∀ l, a ≠ .agg l) (w : World) : (eqGuard op t x y a b).run P w = .ok () w := by
  cases op <;> cases a <;> first
    | rfl
    | exact absurd rfl h1
    | exact absurd rfl (h2 _)
theorem eqSl0 {t e : TypeId} (he : P.underlying t = some (.slice e)) (a : Option Addr) (n c m k : Nat) (w : World) : (Op.equal t (.slice a n c) (.slice none m k)).run P w = .ok a.isNone w := by
  show (Op.equalIn (9999 + 1) t _ _).run P w = _
  unfold Op.equalIn
  cases a <;> simp [run_underlying he]
theorem binEql {t : TypeId} {a b : Value} {r : Bool} (h : ∀ w, (Op.equal t a b).run P w = .ok r w) (hs : ∃ o n c, a = .slice o n c) (w : World) : (binOp .eql t a b).run P w = .ok (.bool r) w := by
  obtain ⟨o, n, c, rfl⟩ := hs
  show (do pure (.bool (← Op.equal t _ b)) : Sem Value).run P w = _
  simp [h]
theorem binNeq {t : TypeId} {a b : Value} {r : Bool} (h : ∀ w, (Op.equal t a b).run P w = .ok r w) (hs : ∃ o n c, a = .slice o n c) (w : World) : (binOp .neq t a b).run P w = .ok (.bool (!r)) w := by
  obtain ⟨o, n, c, rfl⟩ := hs
  show (do pure (.bool (!(← Op.equal t _ b))) : Sem Value).run P w = _
  simp [h]
theorem rInt {op : BinOp} {t : TypeId} {k : IntKind} {a b : Int} {v : SV} (h : iBin op k a b = some v) :
    ∃ x, den E v = some x ∧ ∀ w, (binOp op t (.int k a) (.int k b)).run P w = .ok x w := by
  unfold iBin at h
  split at h <;> first
    | (cases h; done)
    | (injection h with h
       subst h
       exact ⟨_, rfl, fun w => by simp [binOp, Op.intArith, Op.intCmp]⟩)
theorem rStr {op : BinOp} {t : TypeId} {a b : List UInt8} {v : SV} (h : sBin op a b = some v) :
    ∃ x, den E v = some x ∧ ∀ w, (binOp op t (.string ⟨a.toArray⟩) (.string ⟨b.toArray⟩)).run P w = .ok x w := by
  unfold sBin at h
  split at h <;> first
    | (cases h; done)
    | (injection h with h
       subst h
       exact ⟨_, rfl, fun w => by simp [binOp, Op.stringOp, ByteArray.toList_mk]⟩)
theorem rBin {op : BinOp} {t : TypeId} {x y : SV} {v : SV} (h : sBinOp P t op x y = some v) {a b : Value} (ha : den E x = some a) (hb : den E y = some b) (ox oy : Operand) :
    ∃ z, den E v = some z ∧ ∀ w, (do eqGuard op t ox oy a b; binOp op t a b : Sem Value).run P w = .ok z w := by
  have fin : ∀ {z : Value}, a ≠ .nilIface → (∀ l, a ≠ .agg l) → (∀ w, (binOp op t a b).run P w = .ok z w) → ∀ w, (do eqGuard op t ox oy a b; binOp op t a b : Sem Value).run P w = .ok z w := by
    intro z h1 h2 h3 w
    rw [Sem.run_bind, eqGuard_ok op t ox oy a b h1 h2 w, Result.andThen_ok, h3]
  have eqs : slT P t = true → ∃ e, P.underlying t = some (.slice e) := by
    intro h
    unfold slT at h
    split at h
    · rename_i e he; exact ⟨e, he⟩
    · cases h
  unfold sBinOp at h
  split at h
  · obtain ⟨h1, h2⟩ := need_some h
    obtain ⟨e, he⟩ := eqs h1
    simp only [den, Option.some.injEq] at ha hb
    subst ha hb
    split at h2 <;> first
      | (cases h2; done)
      | (injection h2 with h2
         subst h2
         first
           | exact ⟨_, rfl, fin (by simp) (by simp) (binEql (eqSl0 he none 0 0 0 0) ⟨_, _, _, rfl⟩)⟩
           | exact ⟨_, rfl, fin (by simp) (by simp) (binNeq (eqSl0 he none 0 0 0 0) ⟨_, _, _, rfl⟩)⟩)
  · obtain ⟨h1, h2⟩ := need_some h
    obtain ⟨e, he⟩ := eqs h1
    simp only [den, Option.some.injEq] at hb
    subst hb
    simp only [den] at ha
    split at ha
    · split at ha
      · split at ha
        · injection ha with ha
          subst ha
          split at h2 <;> first
            | (cases h2; done)
            | (injection h2 with h2
               subst h2
               first
                 | exact ⟨_, rfl, fin (by simp) (by simp) (binEql (eqSl0 he _ _ _ 0 0) ⟨_, _, _, rfl⟩)⟩
                 | exact ⟨_, rfl, fin (by simp) (by simp) (binNeq (eqSl0 he _ _ _ 0 0) ⟨_, _, _, rfl⟩)⟩)
        · cases ha
      · cases ha
    · cases ha
  · obtain ⟨h1, h2⟩ := need_some h
    simp only [den, Option.some.injEq] at ha hb
    subst ha hb
    have hk := eq_of_beq h1
    subst hk
    obtain ⟨z, h3, h4⟩ := rInt (P := P) (E := E) (t := t) h2
    exact ⟨z, h3, fin (by simp) (by simp) h4⟩
  · simp only [den, Option.some.injEq] at ha hb
    subst ha hb
    obtain ⟨z, h3, h4⟩ := rStr (P := P) (E := E) (t := t) h
    exact ⟨z, h3, fin (by simp) (by simp) h4⟩
  · cases h
theorem rUn {op : UnOp} {x v : SV} (h : sUn op x = some v) {a : Value} (ha : den E x = some a) : ∃ z, den E v = some z ∧ ∀ w, (Op.unary op a).run P w = .ok z w := by
  unfold sUn at h
  split at h
  · injection h with h
    subst h
    simp only [den, Option.some.injEq] at ha
    subst ha
    exact ⟨_, rfl, fun w => rfl⟩
  · cases h
theorem rConv {src dst : TypeId} {x v : SV} (h : sConv P src dst x = some v) {a : Value} (ha : den E x = some a) : ∃ z, den E v = some z ∧ ∀ w, (convert src dst a).run P w = .ok z w := by
  unfold sConv at h
  split at h
  · rename_i h1 h2
    injection h with h
    subst h
    simp only [den, Option.some.injEq] at ha
    subst ha
    exact ⟨_, rfl, fun w => by simp [convert, run_underlying h1, run_underlying h2, Conv.intToInt]⟩
  · rename_i h1 h2
    injection h with h
    subst h
    simp only [den, Option.some.injEq] at ha
    subst ha
    exact ⟨_, rfl, fun w => by simp [convert, run_underlying h1, run_underlying h2]⟩
  · cases h
theorem den_pt {id o : Nat} {a : Value} (h : den E (.pt id o) = some a) : ∃ r, E.r id = some r ∧ a = .pointer (some ⟨r, o, none⟩) := by
  simp only [den] at h
  split at h
  · rename_i r hr
    injection h with h
    exact ⟨r, hr, h.symm⟩
  · cases h
theorem den_sl {id o n : Nat} {c : Cp} {a : Value} (h : den E (.sl id o n c) = some a) : ∃ r m, E.r id = some r ∧ c.den E = some m ∧ n ≤ m ∧ a = .slice (some ⟨r, o, none⟩) n m := by
  simp only [den] at h
  split at h
  · rename_i r hr
    split at h
    · rename_i m hm
      split at h
      · rename_i hn
        injection h with h
        exact ⟨r, m, hr, hm, hn, h.symm⟩
      · cases h
    · cases h
  · cases h
theorem den_ag {l : List SV} {a : Value} (h : den E (.ag l) = some a) : ∃ xs, denL E l = some xs ∧ a = .agg xs.toArray := by
  simp only [den] at h
  split at h
  · rename_i xs hx
    injection h with h
    exact ⟨xs, hx, h.symm⟩
  · cases h
theorem den_tu {l : List SV} {a : Value} (h : den E (.tu l) = some a) : ∃ xs, denL E l = some xs ∧ a = .tuple xs.toArray := by
  simp only [den] at h
  split at h
  · rename_i xs hx
    injection h with h
    exact ⟨xs, hx, h.symm⟩
  · cases h
theorem den_pt_of {id o r : Nat} (h : E.r id = some r) : den E (.pt id o) = some (.pointer (some ⟨r, o, none⟩)) := by simp [den, h]
theorem add_lit' (r o n : Nat) : (⟨r, o, none⟩ : Addr).add n = ⟨r, o + n, none⟩ := by
  unfold Addr.add
  split
  · rename_i h; subst h; rfl
  · rfl
theorem rFieldAddr {s : TypeId} {x v : SV} {f : Nat} (h : sFieldAddr P s x f = some v) {a : Value} (ha : den E x = some a) : ∃ z, den E v = some z ∧ ∀ w, (Instr.fieldAt s a f).run P w = .ok z w := by
  unfold sFieldAddr at h
  split at h
  · split at h
    · rename_i fs hu
      split at h
      · rename_i g hg
        split at h
        · rename_i n hn
          injection h with h
          subst h
          obtain ⟨r, hr, rfl⟩ := den_pt ha
          refine ⟨_, den_pt_of hr, fun w => ?_⟩
          simp [Instr.fieldAt, run_underlying hu, hg, Instr.sureAddr, fieldPlace, rSz hn, add_lit']
        · cases h
      · cases h
    · cases h
  · cases h
theorem rField {s : TypeId} {x v : SV} {f : Nat} (h : sField P s x f = some v) {a : Value} (ha : den E x = some a) : ∃ z, den E v = some z ∧ ∀ w, (Instr.field s a f).run P w = .ok z w := by
  unfold sField at h
  split at h
  · split at h
    · rename_i fs hu
      split at h
      · rename_i g hg
        obtain ⟨xs, hx, rfl⟩ := den_ag ha
        have key : ∀ w, ∃ z, den E v = some z ∧ (part g.type xs.toArray g.offset).run P w = .ok z w := fun w => rPart h hx
        obtain ⟨z, hz, -⟩ := key default
        refine ⟨z, hz, fun w => ?_⟩
        obtain ⟨z', hz', hr⟩ := key w
        rw [hz] at hz'
        injection hz' with hz'
        subst hz'
        simp [Instr.field, run_underlying hu, hg, asAgg, hr]
      · cases h
    · cases h
  · cases h
theorem rIndexAddr {t : TypeId} {x ix v : SV} (h : sIndexAddr P t x ix = some v) {a b : Value} (ha : den E x = some a) (hb : den E ix = some b) : ∃ z, den E v = some z ∧ ∀ w, (Instr.indexAt t a b).run P w = .ok z w := by
  unfold sIndexAddr at h
  split at h
  · rename_i k q
    simp only [den, Option.some.injEq] at hb
    subst hb
    split at h
    · rename_i n hn
      have hq := natOf_some hn
      subst hq
      split at h
      · rename_i len e id o hu
        split at h
        · rename_i z hz
          obtain ⟨h1, h2⟩ := need_some h
          have h1 := ltB h1
          injection h2 with h2
          subst h2
          obtain ⟨r, hr, rfl⟩ := den_pt ha
          refine ⟨_, den_pt_of hr, fun w => ?_⟩
          have hi : (0 : Int) ≤ (n : Int) ∧ (n : Int) < (len : Int) := ⟨by omega, by omega⟩
          simp [Instr.indexAt, asIntOf, run_underlying hu, Instr.sureAddr, hi, rSz hz, add_lit', h1]
        · cases h
      · rename_i e id o len c hu
        split at h
        · rename_i z hz
          obtain ⟨h1, h2⟩ := need_some h
          have h1 := ltB h1
          injection h2 with h2
          subst h2
          obtain ⟨r, m, hr, hm, hnm, rfl⟩ := den_sl ha
          refine ⟨_, den_pt_of hr, fun w => ?_⟩
          simp [Instr.indexAt, asIntOf, run_underlying hu, rSz hz, add_lit', h1]
        · cases h
      · cases h
    · cases h
  · cases h
theorem rIndex {t : TypeId} {x ix v : SV} (h : sIndex P t x ix = some v) {a b : Value} (ha : den E x = some a) (hb : den E ix = some b) : ∃ z, den E v = some z ∧ ∀ w, (Instr.index t a b).run P w = .ok z w := by
  unfold sIndex at h
  split at h
  · rename_i k q
    simp only [den, Option.some.injEq] at hb
    subst hb
    split at h
    · rename_i n hn
      have hq := natOf_some hn
      subst hq
      split at h
      · rename_i l hu
        split at h
        · rename_i c hc
          injection h with h
          subst h
          simp only [den, Option.some.injEq] at ha
          subst ha
          refine ⟨_, rfl, fun w => ?_⟩
          have hlt : n < l.length := (List.getElem?_eq_some_iff.1 hc).1
          have hv : l[n] = c := (List.getElem?_eq_some_iff.1 hc).2
          have h0 : (0 : Int) ≤ (n : Int) := by omega
          have hs : (⟨l.toArray⟩ : ByteArray)[n]? = some c := by
            rw [ByteArray.getElem?_lt' _ _ (by simpa [ByteArray.size] using hlt)]
            congr 1
          simp [Instr.index, asIntOf, run_underlying hu, hs]
        · cases h
      · cases h
    · cases h
  · cases h
theorem rExtract {x v : SV} {ix : Nat} (h : sExtract x ix = some v) {a : Value} (ha : den E x = some a) : ∃ z, den E v = some z ∧ ∀ w, (Instr.extract a ix).run P w = .ok z w := by
  unfold sExtract at h
  split at h
  · obtain ⟨xs, hx, rfl⟩ := den_tu ha
    obtain ⟨-, h2⟩ := denL_some hx
    obtain ⟨y, e1, e2⟩ := h2 _ _ h
    exact ⟨y, e1, fun w => by simp [Instr.extract, e2]⟩
  · cases h
theorem rLen {t ty : TypeId} {x v : SV} (h : sLen P t x = some v) {a : Value} (ha : den E x = some a) : ∃ z, den E v = some z ∧ ∀ w, (Builtin.len_ #[t] ty #[a]).run P w = .ok z w := by
  unfold sLen at h
  split at h
  · rename_i l hu
    injection h with h
    subst h
    simp only [den, Option.some.injEq] at ha
    subst ha
    refine ⟨_, rfl, fun w => ?_⟩
    rw [run_len_string w t ty _ hu]
    have e : (⟨l.toArray⟩ : ByteArray).size = l.length := List.size_toArray
    rw [e]
    rfl
  · rename_i e hu
    injection h with h
    subst h
    simp only [den, Option.some.injEq] at ha
    subst ha
    exact ⟨_, rfl, fun w => by simp [Builtin.len_, run_underlying hu, goInt]⟩
  · rename_i e id o n c hu
    injection h with h
    subst h
    obtain ⟨r, m, hr, hm, hnm, rfl⟩ := den_sl ha
    exact ⟨_, rfl, fun w => by simp [Builtin.len_, run_underlying hu, goInt]⟩
  · rename_i n e hu
    injection h with h
    subst h
    exact ⟨_, rfl, fun w => by simp [Builtin.len_, run_underlying hu, goInt]⟩
  · cases h
end

/-! ### slicing -/
section
variable {P : Program} {E : Env} {A : SA} {a : Act}
def OB (a : Act) (x : Option Operand) (d q : Nat) : Prop := (x = none ∧ q = d) ∨ ∃ y k, x = some y ∧ a.eval y = .int k q
theorem bnd_some (hA : ARel E A a) {x : Option Operand} {d q : Nat} (h : bnd A d x = some q) : OB a x d q := by
  unfold bnd at h
  split at h
  · injection h with h
    exact .inl ⟨rfl, h.symm⟩
  · rename_i y
    split at h
    · rename_i k n hy
      have hn := natOf_some h
      subst hn
      have := hA.ev hy
      simp only [den, Option.some.injEq] at this
      exact .inr ⟨y, k, rfl, this.symm⟩
    · cases h
theorem rBnd (k : IntKind) (q y : Nat) (code : BoundsCode) (h : q ≤ y) (w : World) : (Instr.sliceBound (.int k q) y code).run P w = .ok q w := by
  have h1 : (0 : Int) ≤ (q : Int) ∧ (q : Int) ≤ (y : Int) := ⟨by omega, by omega⟩
  simp [Instr.sliceBound, asIntOf, h]
theorem rBounds (isSlice : Bool) {len cap : Nat} {lo hi : Option Operand} {l h : Nat} (h1 : OB a lo 0 l) (h2 : OB a hi len h) (h3 : l ≤ h) (h4 : h ≤ cap) (w : World) :
    (Instr.sliceBounds isSlice len cap (lo.map a.eval) (hi.map a.eval) none).run P w = .ok (l, h, cap) w := by
  rcases h1 with ⟨rfl, rfl⟩ | ⟨y, k, rfl, e1⟩ <;> rcases h2 with ⟨rfl, rfl⟩ | ⟨z, j, rfl, e2⟩
  · simp [Instr.sliceBounds]
  · simp [Instr.sliceBounds, e2, rBnd _ _ _ _ h4]
  · simp [Instr.sliceBounds, e1, rBnd _ _ _ _ h3]
  · simp [Instr.sliceBounds, e1, e2, rBnd _ _ _ _ h3, rBnd _ _ _ _ h4]
theorem rBoundsM {len cap : Nat} {lo : Option Operand} {hi mx : Operand} {l h m : Nat} (h1 : OB a lo 0 l) (h2 : OB a (some hi) len h) (h0 : OB a (some mx) len m) (h3 : l ≤ h) (h4 : h ≤ m) (h5 : m ≤ cap) (w : World) :
    (Instr.sliceBounds true len cap (lo.map a.eval) ((some hi).map a.eval) ((some mx).map a.eval)).run P w = .ok (l, h, m) w := by
  rcases h2 with ⟨h2, _⟩ | ⟨z, j, h2, e2⟩
  · cases h2
  · rcases h0 with ⟨h0, _⟩ | ⟨u, i, h0, e0⟩
    · cases h0
    · injection h2 with h2
      injection h0 with h0
      subst h2 h0
      rcases h1 with ⟨rfl, rfl⟩ | ⟨y, k, rfl, e1⟩
      · simp [Instr.sliceBounds, e2, e0, rBnd _ _ _ _ h5, rBnd _ _ _ _ h4]
      · simp [Instr.sliceBounds, e1, e2, e0, rBnd _ _ _ _ h5, rBnd _ _ _ _ h4, rBnd _ _ _ _ h3]
theorem sliceAt_slice {t e : TypeId} (hu : P.underlying t = some (.slice e)) (x : Value) (lo hi mx : Option Value) (w : World) : (Instr.sliceAt t x lo hi mx).run P w = (Instr.slice t x lo hi mx).run P w := by
  simp [Instr.sliceAt, run_underlying hu]
theorem sliceAt_str {t : TypeId} (hu : P.underlying t = some .string) (x : Value) (lo hi mx : Option Value) (w : World) : (Instr.sliceAt t x lo hi mx).run P w = (Instr.slice t x lo hi mx).run P w := by
  simp [Instr.sliceAt, run_underlying hu]
theorem rSlice (hA : ARel E A a) {t : TypeId} {x v : SV} {lo hi mx : Option Operand} (h : sSlice P A t x lo hi mx = some v) {b : Value} (hb : den E x = some b) :
    ∃ z, den E v = some z ∧ ∀ w, (Instr.sliceAt t b (lo.map a.eval) (hi.map a.eval) (mx.map a.eval)).run P w = .ok z w := by
  unfold sSlice at h
  split at h
  · rename_i l hu
    split at h
    · rename_i p q h1 h2
      obtain ⟨h3, h4⟩ := need_some h
      obtain ⟨h3, h5⟩ := and2 h3
      have h3 := leB h3
      have h5 := leB h5
      injection h4 with h4
      subst h4
      simp only [den, Option.some.injEq] at hb
      subst hb
      refine ⟨_, rfl, fun w => ?_⟩
      have e : (⟨l.toArray⟩ : ByteArray).size = l.length := List.size_toArray
      have hr := rBounds (P := P) false (bnd_some hA h1) (bnd_some hA h2) h3 h5 w
      rw [sliceAt_str hu]
      simp only [Instr.slice, Sem.run_bind, run_underlying hu, Result.andThen_ok, Option.map_none, Option.isSome_none, Bool.false_eq_true, if_false, e, hr, Sem.run_pure, ByteArray.extract_mk]
    · cases h
  · rename_i e hu
    split at h
    · cases h
    · rename_i z hz
      split at h
      · rename_i h1 h2
        injection h with h
        subst h
        simp only [den, Option.some.injEq] at hb
        subst hb
        refine ⟨_, rfl, fun w => ?_⟩
        rw [sliceAt_slice hu]
        have hr := rBounds (P := P) true (bnd_some hA h1) (bnd_some hA h2) (Nat.le_refl _) (Nat.le_refl _) w
        simp only [Option.map_none, Instr.slice, Sem.run_bind, run_underlying hu, Result.andThen_ok, hr, rSz hz, Sem.run_pure]
        simp
      · cases h
  · rename_i e id o n c hu
    obtain ⟨r, m, hr, hm, hnm, rfl⟩ := den_sl hb
    split at h
    · cases h
    · rename_i z hz
      split at h
      · rename_i mo
        split at h
        · rename_i ho p q k h1 h3 h2
          obtain ⟨h4, h5⟩ := need_some h
          obtain ⟨-, g5⟩ := and2 h4
          obtain ⟨g6, g7⟩ := and2 g5
          obtain ⟨g8, g9⟩ := and2 g7
          have k4 := leB g6
          have k5 := leB g8
          have k6 := eqB g9
          clear h4 g5 g6 g7 g8 g9
          subst k6
          injection h5 with h5
          subst h5
          refine ⟨.slice (some ⟨r, o, none⟩) (q - 0) (k - 0), by simp [den, hr, Cp.den, k4], fun w => ?_⟩
          have hbd := rBoundsM (P := P) (bnd_some hA h1) (bnd_some hA h2) (bnd_some hA h3) (Nat.zero_le _) k4 (Nat.le_trans k5 hnm) w
          rw [sliceAt_slice hu]
          simp only [Instr.slice, Sem.run_bind, run_underlying hu, Result.andThen_ok, hbd, rSz hz, Sem.run_pure]
          simp [add_lit']
        · cases h
      · split at h
        · rename_i p q h1 h2
          obtain ⟨h4, h5⟩ := need_some h
          obtain ⟨h4, h6⟩ := and2 h4
          have h4 := leB h4
          have h6 := leB h6
          have hbd := fun w => rBounds (P := P) true (bnd_some hA h1) (bnd_some hA h2) h4 (Nat.le_trans h6 hnm) w
          split at h5
          · rename_i hp
            have hp := eqB hp
            subst hp
            injection h5 with h5
            subst h5
            refine ⟨.slice (some ⟨r, o, none⟩) q m, by simp [den, hr, hm, Nat.le_trans h6 hnm], fun w => ?_⟩
            rw [sliceAt_slice hu]
            simp only [Option.map_none, Instr.slice, Sem.run_bind, run_underlying hu, Result.andThen_ok, hbd w, rSz hz, Sem.run_pure]
            simp [add_lit']
          · obtain ⟨h7, h8⟩ := need_some h5
            have h7 := ltB h7
            have hne : m ≠ p := by omega
            split at h8
            · rename_i m'
              injection h8 with h8
              subst h8
              simp only [Cp.den, Option.some.injEq] at hm
              subst hm
              refine ⟨.slice (some ⟨r, o + p * z, none⟩) (q - p) (m' - p), by simp [den, hr, Cp.den]; omega, fun w => ?_⟩
              rw [sliceAt_slice hu]
              simp only [Option.map_none, Instr.slice, Sem.run_bind, run_underlying hu, Result.andThen_ok, hbd w, rSz hz, Sem.run_pure]
              simp [add_lit', hne]
            · rename_i qi d
              injection h8 with h8
              subst h8
              simp only [Cp.den] at hm
              split at hm
              · rename_i c' hc'
                injection hm with hm
                refine ⟨.slice (some ⟨r, o + p * z, none⟩) (q - p) (m - p), by simp only [den, hr, Cp.den, hc']; rw [if_pos (by omega)]; congr 2; omega, fun w => ?_⟩
                rw [sliceAt_slice hu]
                simp only [Option.map_none, Instr.slice, Sem.run_bind, run_underlying hu, Result.andThen_ok, hbd w, rSz hz, Sem.run_pure]
                simp [add_lit', hne]
              · cases hm
        · cases h
  · cases h
end
end Sy
end Go.Proofs.YtfhcngnmgfkdkaaGreatDoor
