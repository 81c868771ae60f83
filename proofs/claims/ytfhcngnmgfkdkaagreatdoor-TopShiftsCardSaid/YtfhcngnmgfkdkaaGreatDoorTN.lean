/- The symbolic machine: maps, calls; an operation that changes the heap. -/
import Derived.Test.YtfhcngnmgfkdkaaGreatDoorTM
namespace Go.Proofs.YtfhcngnmgfkdkaaGreatDoor
namespace Sy
open Go.RowKit

section
variable {P : Program} {E : Env} {A : SA} {a : Act} {B : Nat} {w0 w : World} {S S' : SH}
theorem str_beq (k x : List UInt8) : ((⟨k.toArray⟩ : ByteArray) == ⟨x.toArray⟩) = (k == x) := by
  rw [beq_toListBytes, ByteArray.toList_mk, ByteArray.toList_mk]
def EntsOk (E : Env) : List (SV × SV × Nat) → List MapEntry → Prop
  | [], [] => True
  | e :: l, m :: r => EntOk E e m ∧ EntsOk E l r
  | _, _ => False
theorem entsOk_of : ∀ {l : List (SV × SV × Nat)} {r : List MapEntry}, r.length = l.length → (∀ (j : Nat) (e : SV × SV × Nat), l[j]? = some e → ∃ m, r[j]? = some m ∧ EntOk E e m) → EntsOk E l r
  | [], [], _, _ => trivial
  | e :: l, m :: r, h, k => by
    obtain ⟨m', h1, h2⟩ := k 0 e rfl
    simp only [List.getElem?_cons_zero, Option.some.injEq] at h1
    subst h1
    exact ⟨h2, entsOk_of (by simpa using h) fun j e he => by simpa using k (j + 1) e (by simpa using he)⟩
  | [], _ :: _, h, _ => by simp at h
  | _ :: _, [], h, _ => by simp at h
theorem find_ok {k : List UInt8} : ∀ {l : List (SV × SV × Nat)} {r : List MapEntry} {i : Nat} {z : Option (Nat × SV)}, findS k l i = some z → EntsOk E l r →
    (z = none ∧ Instr.findNow .string (.string ⟨k.toArray⟩) r i = some none) ∨ ∃ q v x, z = some (q, v) ∧ den E v = some x ∧ Instr.findNow .string (.string ⟨k.toArray⟩) r i = some (some (q, x))
  | [], [], i, z, h, _ => by
    simp only [findS, Option.some.injEq] at h
    exact .inl ⟨h.symm, rfl⟩
  | (e, v, b) :: l, m :: r, i, z, h, ⟨⟨kk, vv, h1, h2, h3⟩, h4⟩ => by
    cases e with
    | st x =>
      simp only [findS] at h
      simp only [den, Option.some.injEq] at h1
      subst h1 h3
      simp only [Instr.findNow, Instr.sameNow, str_beq]
      split at h
      · rename_i he
        simp only [he]
        injection h with h
        exact .inr ⟨i, v, vv, h.symm, h2, rfl⟩
      · rename_i he
        simp only [he]
        exact find_ok h h4
    | _ => cases h
  | [], _ :: _, _, _, _, k => k.elim
  | _ :: _, [], _, _, _, k => k.elim
theorem rCheckKey {kt : TypeId} (hu : P.underlying kt = some .string) (b : Bool) (v : Value) (w : World) : (Instr.checkKey b 10000 kt v).run P w = .ok () w := by
  show (Instr.checkKey b (9999 + 1) kt v).run P w = _
  unfold Instr.checkKey
  simp [run_underlying hu]
theorem rGetMap {r : Nat} {es : Array MapEntry} {ck : Nat} (h : w.heap[r]? = some (.map es ck)) : (getObj r).run P w = .ok (.map es ck) w := by
  simp only [getObj, Sem.run, h]
theorem rLookup (hI : Inv B w0 E S w) {t : TypeId} {x k v : SV} {ok : Bool} (h : sLookup P S t x k ok = some v) {X K : Value} (hX : den E x = some X) (hK : den E k = some K) :
    ∃ z, den E v = some z ∧ (Instr.lookup t X K ok).run P w = .ok z w := by
  unfold sLookup at h
  split at h
  · rename_i kt e hu
    split at h
    · rename_i id kk hku
      simp only [den, Option.some.injEq] at hK
      subst hK
      split at h
      · rename_i es ck hg
        obtain ⟨r, es', hr, hB, hw, hsz, hes⟩ := hI.blk _ _ hg
        have hX' : X = .map (some r) := by
          simp only [den, hr, Option.some.injEq] at hX
          exact hX.symm
        subst hX'
        have hents : EntsOk E es es'.toList := entsOk_of (by simpa using hsz) fun j e he => by simpa using hes j e he
        have hrun1 : ∀ {q : Nat} {u : Value}, Instr.findNow .string (.string ⟨kk.toArray⟩) es'.toList 0 = some (some (q, u)) →
            (Instr.lookup t (.map (some r)) (.string ⟨kk.toArray⟩) ok).run P w = .ok (if ok then .tuple #[u, .bool true] else u) w := by
          intro q u h1
          simp only [Instr.lookup, Sem.run_bind, run_underlying hu, Result.andThen_ok, rGetMap hw, Sem.run_pure, rCheckKey hku, Instr.findKey, run_underlying hku, h1]
        have hrun0 : ∀ {u : Value}, Instr.findNow .string (.string ⟨kk.toArray⟩) es'.toList 0 = some none → (zeroValue e).run P w = .ok u w →
            (Instr.lookup t (.map (some r)) (.string ⟨kk.toArray⟩) ok).run P w = .ok (if ok then .tuple #[u, .bool false] else u) w := by
          intro u h1 h2
          simp only [Instr.lookup, Sem.run_bind, run_underlying hu, Result.andThen_ok, rGetMap hw, Sem.run_pure, rCheckKey hku, Instr.findKey, run_underlying hku, h1, h2]
        split at h
        · rename_i z q u hf
          rcases find_ok hf hents with ⟨h1, _⟩ | ⟨q', v', x', h1, h2, h3⟩
          · cases h1
          · injection h1 with h1
            injection h1 with h1 h4
            subst h1 h4
            have := hrun1 h3
            cases ok with
            | true =>
              simp only [Option.some.injEq] at h
              subst h
              exact ⟨.tuple #[x', .bool true], by simp [den, denL, h2], this⟩
            | false =>
              simp only [Option.some.injEq] at h
              subst h
              exact ⟨x', h2, this⟩
        · rename_i hf
          rcases find_ok hf hents with ⟨_, h3⟩ | ⟨q', v', x', h1, _⟩
          · split at h
            · rename_i i hi
              split at h
              · rename_i z hz
                split at h
                · rename_i u hu2
                  have := hrun0 h3 (u := z) (by simp [zeroValue, typeInfo, hi, hz])
                  have hd := ofV_den (E := E) hu2
                  cases ok with
                  | true =>
                    simp only [Option.some.injEq] at h
                    subst h
                    exact ⟨.tuple #[z, .bool false], by simp [den, denL, hd], this⟩
                  | false =>
                    simp only [Option.some.injEq] at h
                    subst h
                    exact ⟨z, hd, this⟩
                · cases h
              · cases h
            · cases h
          · cases h1
        · cases h
      · cases h
    · cases h
  · cases h
theorem rMapUpdate (hI : Inv B w0 E S w) {t : TypeId} {x k v : SV} (h : sMapUpdate P S t x k v = some S') {X K V : Value} (hX : den E x = some X) (hK : den E k = some K) (hV : den E v = some V) :
    ∃ w', Inv B w0 E S' w' ∧ (Instr.mapUpdate t X K V).run P w = .ok () w' := by
  unfold sMapUpdate at h
  split at h
  · rename_i kt e hu
    split at h
    · rename_i id kk hku
      simp only [den, Option.some.injEq] at hK
      subst hK
      split at h
      · rename_i es ck hg
        obtain ⟨r, es', hr, hB, hw, hsz, hes⟩ := hI.blk _ _ hg
        have hX' : X = .map (some r) := by
          simp only [den, hr, Option.some.injEq] at hX
          exact hX.symm
        subst hX'
        have hents : EntsOk E es es'.toList := entsOk_of (by simpa using hsz) fun j e he => by simpa using hes j e he
        split at h
        · rename_i hf
          replace h := need_some h
          obtain ⟨g, h⟩ := h
          have g := ltB g
          injection h with h
          subst h
          rcases find_ok hf hents with ⟨_, h3⟩ | ⟨q', v', x', h1, _⟩
          · have hlt : r < w.heap.size := (Array.getElem?_eq_some_iff.1 hw).1
            refine ⟨{ w with heap := w.heap.setIfInBounds r (.map (es'.push ⟨.string ⟨kk.toArray⟩, V, ck⟩) (ck + 1)) }, hI.upd hg rfl hr g ⟨rfl, rfl, rfl, by simp, fun j hj => ?_⟩ (fun j hj => ?_) ⟨r, es'.push ⟨.string ⟨kk.toArray⟩, V, ck⟩, hr, hB, by simp [hlt], by simp [hsz], fun j m hm => ?_⟩, ?_⟩
            · show (w.heap.setIfInBounds r _)[j]? = _
              rw [Array.getElem?_setIfInBounds, if_neg (by omega)]
            · show (w.heap.setIfInBounds r _)[j]? = _
              rw [Array.getElem?_setIfInBounds, if_neg (by omega)]
            · by_cases hj : j < es.length
              · rw [List.getElem?_append_left hj] at hm
                obtain ⟨m', h5, h6⟩ := hes j m hm
                refine ⟨m', ?_, h6⟩
                rw [Array.getElem?_push, if_neg (by omega)]
                exact h5
              · rw [List.getElem?_append_right (by omega)] at hm
                have hj2 : j = es.length := by
                  have := (List.getElem?_eq_some_iff.1 hm).1
                  simp at this
                  omega
                subst hj2
                simp only [Nat.sub_self, List.getElem?_cons_zero, Option.some.injEq] at hm
                subst hm
                exact ⟨_, by rw [Array.getElem?_push, if_pos hsz.symm], _, _, rfl, hV, rfl⟩
            · simp only [Instr.mapUpdate, Sem.run_bind, run_underlying hu, Result.andThen_ok, rGetMap hw, Sem.run_pure, rCheckKey hku, Instr.findKey, run_underlying hku, h3]
              simp only [setObj, Sem.run, hw]
          · cases h1
        · cases h
      · cases h
    · cases h
  · cases h
theorem rIndexByte {l : List SV} {v : SV} (h : sIndexByte l = some v) {xs : List Value} (hd : denL E l = some xs) (w : World) :
    ∃ z, den E v = some z ∧ (Extern.BytealgIndexByte.indexByte xs.toArray).run P w = .ok z w := by
  unfold sIndexByte at h
  split at h
  · rename_i l c
    simp only [denL, den, Option.some.injEq] at hd
    subst hd
    have e : (⟨l.toArray⟩ : ByteArray).size = l.length := List.size_toArray
    have e0 : Extern.BytealgIndexByte.indexByte [Value.string ⟨l.toArray⟩, .int .u8 c].toArray = (match (List.range (⟨l.toArray⟩ : ByteArray).size).find? fun i => (⟨l.toArray⟩ : ByteArray)[i]! == c.toNat.toUInt8 with
      | some i => pure (goInt i)
      | none => pure (goInt (-1))) := rfl
    rw [e0, e]
    split at h
    · rename_i i hf
      injection h with h
      subst h
      refine ⟨_, rfl, ?_⟩
      rw [hf]
      rfl
    · rename_i hf
      injection h with h
      subst h
      refine ⟨_, rfl, ?_⟩
      rw [hf]
      rfl
  · cases h
/-- What an operation answers, in the world behind it. -/
def NOk (E : Env) (w : World) (run : Result Next) : SN → Prop
  | .val v => ∃ x, den E v = some x ∧ run = .ok (.value x) w
  | .skip => run = .ok .skip w
  | .call f args => ∃ xs, denL E args = some xs ∧ run = .ok (.enter f xs.toArray) w
  | .defer f args => ∃ d cap, run = .ok (.defer d) w ∧ d.target = .fn (.func f) cap ∧ denL E args = some (d.args.toList ++ cap.toList)
/-- What is asked of the program's calls. -/
structure Cf (P : Program) (ib : FuncId) : Prop where
  ext : ∀ args w, (callFunc ib args).run P w = (do pure (Next.value (← Extern.BytealgIndexByte.indexByte args)) : Sem Next).run P w
  own : ∀ g fn c args w, P.funcs[g]? = some fn → fn.body = some c → (callFunc g args).run P w = .ok (.enter g args) w
theorem den_fu {g : FuncId} {x y : List SV} {f : Value} (h : den E (.fu g x y) = some f) : ∃ xs ys, denL E x = some xs ∧ denL E y = some ys ∧ f = .func (.func g) xs.toArray ys.toArray := by
  simp only [den] at h
  split at h
  · rename_i xs hx
    split at h
    · rename_i ys hy
      injection h with h
      exact ⟨xs, ys, hx, hy, h.symm⟩
    · cases h
  · cases h
theorem opN_ok {ib : FuncId} (hC : Cf P ib) (hI : Inv B w0 E S w) (hA : ARel E A a) {o : Oper} {n : SN} (h : opN P ib A S o = some (n, S')) :
    ∃ F w', E.le F ∧ Inv B w0 F S' w' ∧ NOk F w' ((execOp a.eval o).run P w) n := by
  unfold opN at h
  simp only at h
  -- a value made
  have val : ∀ {x : Option (SV × SH)} {m : Sem Value}, (match x with | some (v, S') => some (SN.val v, S') | none => none) = some (n, S') →
      (∀ {v : SV} {S1 : SH}, x = some (v, S1) → ∃ F w', E.le F ∧ Inv B w0 F S1 w' ∧ ∃ z, den F v = some z ∧ m.run P w = .ok z w') →
      ((execOp a.eval o).run P w = (do pure (.value (← m)) : Sem Next).run P w) → ∃ F w', E.le F ∧ Inv B w0 F S' w' ∧ NOk F w' ((execOp a.eval o).run P w) n := by
    intro x m h1 h2 h3
    split at h1
    · rename_i v S1
      injection h1 with h1
      injection h1 with h1 h4
      subst h1 h4
      obtain ⟨F, w', h5, h6, z, h7, h8⟩ := h2 rfl
      exact ⟨F, w', h5, h6, z, h7, by rw [h3, Sem.run_bind, h8]; rfl⟩
    · cases h1
  have skip : ∀ {x : Option SH} {m : Sem Unit}, (match x with | some S' => some (SN.skip, S') | none => none) = some (n, S') →
      (∀ {S1 : SH}, x = some S1 → ∃ w', Inv B w0 E S1 w' ∧ m.run P w = .ok () w') →
      ((execOp a.eval o).run P w = (do m; pure .skip : Sem Next).run P w) → ∃ F w', E.le F ∧ Inv B w0 F S' w' ∧ NOk F w' ((execOp a.eval o).run P w) n := by
    intro x m h1 h2 h3
    split at h1
    · rename_i S1
      injection h1 with h1
      injection h1 with h1 h4
      subst h1 h4
      obtain ⟨w', h5, h6⟩ := h2 rfl
      exact ⟨E, w', .refl E, h5, show _ = _ by rw [h3, Sem.run_bind, h6]; rfl⟩
    · cases h1
  split at h
  · rename_i e ho
    split at h
    · rename_i cs hz
      obtain ⟨zv, hz1, hz2⟩ := zc_some (E := E) hz
      refine val (m := do pure (.pointer (some (← newVar e zv)))) h (fun {v S1} hx => rRow hI hx hz2 e) ?_
      simp only [execOp, ho, Instr.alloc, Sem.run_bind, hz1 w, Result.andThen_ok]
    · cases h
  · rename_i e x ho
    split at h
    · rename_i v hv
      refine val (m := do pure (.pointer (some (← newVar e (a.eval x))))) h (fun {v S1} hx => rRow hI hx (den_cells (hA.ev hv)) e) ?_
      simp only [execOp, ho, Instr.box]
    · cases h
  · rename_i t x v ho
    split at h
    · rename_i x' v' hx hv
      exact skip h (fun {S1} hs => rStore hI hs (hA.ev hx) (hA.ev hv)) (by simp only [execOp, ho])
    · cases h
  · rename_i t len ps ho
    exact val h (fun {v S1} hs => rBuildSlice hA hI hs) (by simp only [execOp, ho])
  · rename_i t x y ho
    split at h
    · rename_i x' y' hx hy
      exact val h (fun {v S1} hs => rMakeSlice hI hs (hA.ev hx) (hA.ev hy)) (by simp only [execOp, ho])
    · cases h
  · rename_i t ho
    refine val (m := Instr.makeMap t none) h (fun {v S1} hs => ?_) (by simp only [execOp, ho, Option.map_none])
    split at hs
    · rename_i id S2 hn
      injection hs with hs
      injection hs with h1 h2
      subst h1 h2
      obtain ⟨hE, hI'⟩ := hI.alloc hn (.map #[] 0) none fun hE => ⟨w.heap.size, #[], by simp [Env.ext], hI.size, heap_alloc_new w _, rfl, fun j e he => by simp at he⟩
      exact ⟨_, _, hE, hI', .map (some w.heap.size), by simp [den, Env.ext], rfl⟩
    · cases hs
  · rename_i t x k ok ho
    split at h
    · rename_i x' k' hx hk
      split at h
      · rename_i v hv
        injection h with h
        injection h with h1 h2
        subst h1 h2
        obtain ⟨z, h3, h4⟩ := rLookup hI hv (hA.ev hx) (hA.ev hk)
        exact ⟨E, w, .refl E, hI, z, h3, by simp only [execOp, ho, Sem.run_bind, h4, Result.andThen_ok, Sem.run_pure]⟩
      · cases h
    · cases h
  · rename_i t m k v ho
    split at h
    · rename_i m' k' v' hm hk hv
      exact skip h (fun {S1} hs => rMapUpdate hI hs (hA.ev hm) (hA.ev hk) (hA.ev hv)) (by simp only [execOp, ho])
    · cases h
  · rename_i t m k v ho
    split at h
    · rename_i m' k' v' hm hk hv
      exact skip h (fun {S1} hs => rMapUpdate hI hs (hA.ev hm) (hA.ev hk) (hA.ev hv)) (by simp only [execOp, ho])
    · cases h
  · rename_i c ho
    obtain ⟨callee, args, ats⟩ := c
    simp only at h
    split at h
    · rename_i b
      split at h
      · split at h
        · rename_i x y t u h1 h2
          have e1 : args = #[x, y] := Array.ext' h1
          have e2 : ats = #[t, u] := Array.ext' h2
          subst e1 e2
          split at h
          · rename_i x' y' hx hy
            replace h := need_some h
            obtain ⟨g, h⟩ := h
            have g := eqB g
            subst g
            exact val h (fun {v S1} hs => rAppend (ty := o.type) hI hs (hA.ev hx) (hA.ev hy)) (by simp [execOp, ho, resolve, invoke, builtin])
          · cases h
        · cases h
      · cases h
    · rename_i f
      split at h
      · rename_i g x y l hf hl
        obtain ⟨xs, ys, hx, hy, hfe⟩ := den_fu (hA.ev hf)
        have hargs := args_ok hA hl
        have hall : denL E (x ++ l ++ y) = some (xs ++ args.toList.map a.eval ++ ys) := denL_append (denL_append hx hargs) hy
        have hexec : (execOp a.eval o).run P w = (callFunc g (xs ++ args.toList.map a.eval ++ ys).toArray).run P w := by
          have e3 : (args.map a.eval) = (args.toList.map a.eval).toArray := by apply Array.ext'; simp
          simp only [execOp, ho, resolve, hfe, Deferred.ofValue, Sem.run_bind, Sem.run_pure, Result.andThen_ok, invoke, e3]
          simp
        split at h
        · rename_i hg
          have hg := eqB hg
          subst hg
          split at h
          · rename_i v hv
            injection h with h
            injection h with h1 h2
            subst h1 h2
            obtain ⟨z, h3, h4⟩ := rIndexByte (P := P) hv hall w
            exact ⟨E, w, .refl E, hI, z, h3, by rw [hexec, hC.ext, Sem.run_bind, h4]; rfl⟩
          · cases h
        · split at h
          · rename_i fn hfn
            split at h
            · rename_i c hc
              injection h with h
              injection h with h1 h2
              subst h1 h2
              exact ⟨E, w, .refl E, hI, _, hall, by rw [hexec, hC.own g fn c _ _ hfn hc]⟩
            · cases h
          · cases h
      · cases h
    · cases h
  · rename_i c ho
    obtain ⟨callee, args, ats⟩ := c
    simp only at h
    split at h
    · rename_i f
      split at h
      · rename_i g x y l hf hl
        obtain ⟨xs, ys, hx, hy, hfe⟩ := den_fu (hA.ev hf)
        have hargs := args_ok hA hl
        have hall : denL E (x ++ l ++ y) = some (xs ++ args.toList.map a.eval ++ ys) := denL_append (denL_append hx hargs) hy
        injection h with h
        injection h with h1 h2
        subst h1 h2
        refine ⟨E, w, .refl E, hI, { target := .fn (.func g) ys.toArray, args := xs.toArray ++ args.map a.eval }, ys.toArray, ?_, rfl, ?_⟩
        · simp [execOp, ho, resolve, hfe, Deferred.ofValue]
        · rw [hall]
          simp
      · cases h
    · cases h
  · cases h
end
end Sy
end Go.Proofs.YtfhcngnmgfkdkaaGreatDoor
