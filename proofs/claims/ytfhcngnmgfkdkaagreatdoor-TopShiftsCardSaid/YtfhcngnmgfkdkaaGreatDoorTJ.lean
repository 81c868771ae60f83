/- The symbolic machine: structs built, an operation that looks at values alone, a load. -/
import Derived.Test.YtfhcngnmgfkdkaaGreatDoorTI
namespace Go.Proofs.YtfhcngnmgfkdkaaGreatDoor
namespace Sy
open Go.RowKit

/-! ### filling -/
theorem fold_get (off : Nat) : ∀ (l : List Value) (k : Nat) (cs : Array Value), off + k + l.length ≤ cs.size → ∀ j : Nat,
    ((l.zipIdx k).foldl (fun (cs : Array Value) (x : Value × Nat) => cs.setIfInBounds (off + x.2) x.1) cs)[j]? = if off + k ≤ j ∧ j < off + k + l.length then l[j - (off + k)]? else cs[j]?
  | [], k, cs, _, j => by
    simp only [List.zipIdx_nil, List.foldl_nil, List.length_nil]
    rw [if_neg (by omega)]
  | c :: l, k, cs, h, j => by
    simp only [List.zipIdx_cons, List.foldl_cons, List.length_cons] at h ⊢
    rw [fold_get off l (k + 1) _ (by simp; omega) j]
    by_cases h1 : j = off + k
    · subst h1
      rw [if_neg (by omega), if_pos (by omega)]
      have : off + k < cs.size := by omega
      simp [this]
    · by_cases h2 : off + (k + 1) ≤ j ∧ j < off + (k + 1) + l.length
      · rw [if_pos h2, if_pos (by omega)]
        have : j - (off + k) = j - (off + (k + 1)) + 1 := by omega
        rw [this, List.getElem?_cons_succ]
      · rw [if_neg h2, if_neg (by omega), Array.getElem?_setIfInBounds, if_neg (by omega)]
theorem fold_size (off : Nat) : ∀ (l : List (Value × Nat)) (cs : Array Value), (l.foldl (fun (cs : Array Value) (x : Value × Nat) => cs.setIfInBounds (off + x.2) x.1) cs).size = cs.size
  | [], cs => rfl
  | x :: l, cs => by
    simp only [List.foldl_cons]
    rw [fold_size off l]
    simp
def PsOk (E : Env) : List (Nat × SV) → List (Nat × Value) → Prop
  | [], [] => True
  | p :: l, q :: r => p.1 = q.1 ∧ den E p.2 = some q.2 ∧ PsOk E l r
  | _, _ => False
theorem fill_ok {E : Env} {pl ql : Nat → Option (Nat × Nat)} (hp : ∀ i p, pl i = some p → ql i = some p) : ∀ {ps : List (Nat × SV)} {qs : List (Nat × Value)} {cs r : List SV} {arr : Array Value},
    fillS pl cs ps = some r → PsOk E ps qs → denL E cs = some arr.toList → ∃ arr', Instr.fill ql arr qs = some arr' ∧ denL E r = some arr'.toList
  | [], [], cs, r, arr, h, _, hc => by
    simp only [fillS, Option.some.injEq] at h
    subst h
    exact ⟨arr, rfl, hc⟩
  | (i, v) :: ps, (i', x) :: qs, cs, r, arr, h, ⟨e1, e2, e3⟩, hc => by
    simp only at e1
    subst e1
    simp only [fillS] at h
    split at h
    · cases h
    · rename_i off size hpl
      obtain ⟨h1, h2⟩ := need_some h
      obtain ⟨h1, h3⟩ := and2 h1
      have h1 := eqB h1
      have h3 := leB h3
      have hv := den_cells e2
      obtain ⟨hv1, hv2⟩ := denL_some hv
      obtain ⟨hc1, hc2⟩ := denL_some hc
      have hl : x.cells.toList.length = v.cells.length := hv1
      have hs : x.cells.size = v.cells.length := by simpa using hl
      have ha : arr.size = cs.length := by simpa using hc1
      let arr' : Array Value := x.cells.zipIdx.foldl (fun cs (c, j) => cs.setIfInBounds (off + j) c) arr
      have hga : ∀ j : Nat, arr'[j]? = if off ≤ j ∧ j < off + x.cells.toList.length then x.cells.toList[j - off]? else arr[j]? := by
        intro j
        have := fold_get off x.cells.toList 0 arr (by rw [hl, h1, ha]; omega) j
        simp only [Nat.add_zero] at this
        rw [← this]
        show (x.cells.zipIdx.foldl _ arr)[j]? = _
        rw [← Array.foldl_toList, Array.toList_zipIdx]
      have hsz : arr'.size = arr.size := by
        show (x.cells.zipIdx.foldl _ arr).size = _
        rw [← Array.foldl_toList]
        exact fold_size off _ arr
      have hd : denL E (spl cs off v.cells) = some arr'.toList := by
        unfold spl
        refine denL_of ?_ fun j u hu => ?_
        · rw [spl_len _ _ _ (by rw [h1]; exact h3)]
          simp [hsz, ha]
        · rw [spl_get _ _ _ (by rw [h1]; exact h3)] at hu
          rw [Array.getElem?_toList, hga j]
          by_cases h5 : j < off
          · rw [if_pos h5] at hu
            rw [if_neg (by omega)]
            simpa using hc2 j u hu
          · rw [if_neg h5] at hu
            by_cases h6 : j < off + v.cells.length
            · rw [if_pos h6] at hu
              rw [if_pos (by rw [hl]; omega)]
              exact hv2 _ u hu
            · rw [if_neg h6] at hu
              rw [if_neg (by rw [hl]; omega)]
              simpa using hc2 j u hu
      obtain ⟨b, h7, h8⟩ := fill_ok hp h2 e3 hd
      refine ⟨b, ?_, h8⟩
      simp only [Instr.fill, hp _ _ hpl]
      rw [if_neg (by simp only [Bool.or_eq_true, decide_eq_true_eq, not_or, Decidable.not_not]; exact ⟨by rw [hs, h1], by rw [hs, h1, ha]; omega⟩)]
      exact h7
  | [], _ :: _, _, _, _, _, k, _ => k.elim
  | _ :: _, [], _, _, _, _, k, _ => k.elim
section
variable {P : Program} {E : Env} {A : SA} {a : Act}
theorem parts_ok (hA : ARel E A a) : ∀ {l : List (Nat × Operand)} {ps : List (Nat × SV)}, mapO (evP A) l = some ps → PsOk E ps (l.map fun x => (x.1, a.eval x.2))
  | [], ps, h => by simp only [mapO, Option.some.injEq] at h; subst h; trivial
  | x :: l, ps, h => by
    simp only [mapO] at h
    split at h
    · cases h
    · rename_i y hy
      split at h
      · cases h
      · rename_i r hr
        injection h with h
        subst h
        unfold evP at hy
        split at hy
        · rename_i v hv
          injection hy with hy
          subst hy
          exact ⟨rfl, hA.ev hv, parts_ok hA hr⟩
        · cases hy
theorem zc_some {t : TypeId} {l : List SV} (h : zc P t = some l) : ∃ z, (∀ w, (zeroValue t).run P w = .ok z w) ∧ denL E l = some z.cells.toList := by
  unfold zc at h
  split at h
  · rename_i i hi
    split at h
    · rename_i z hz
      split at h
      · rename_i v hv
        injection h with h
        subst h
        exact ⟨z, fun w => by simp [zeroValue, typeInfo, hi, hz], den_cells (ofV_den hv)⟩
      · cases h
    · cases h
  · cases h
theorem places_ok : ∀ (fs : List Field), (fs.all fun f => (sz P f.type).isSome) = true → ∀ w, (fs.mapM fun f => (do pure (f.offset, ← sizeOf f.type) : Sem (Nat × Nat))).run P w = .ok (fs.map fun f => (f.offset, (sz P f.type).getD 0)) w
  | [], _, w => rfl
  | f :: fs, h, w => by
    simp only [List.all_cons, Bool.and_eq_true] at h
    obtain ⟨n, hn⟩ := Option.isSome_iff_exists.1 h.1
    have ih := places_ok fs h.2 w
    simp only [List.mapM_cons, Sem.run_bind, rSz hn, Result.andThen_ok, Sem.run_pure, ih, List.map_cons, hn, Option.getD_some]
theorem rBuild (hA : ARel E A a) {t : TypeId} {parts : Array (Nat × Operand)} {v : SV} (h : sBuild P A t parts = some v) :
    ∃ z, den E v = some z ∧ ∀ w, (Instr.build t (parts.map fun (i, x) => (i, a.eval x))).run P w = .ok z w := by
  unfold sBuild at h
  split at h
  · rename_i fs hu
    split at h
    · rename_i zs ps hz hp
      obtain ⟨h1, h2⟩ := need_some h
      split at h2
      · rename_i l hl
        injection h2 with h2
        subst h2
        obtain ⟨zv, hz1, hz2⟩ := zc_some (E := E) hz
        have hps := parts_ok hA hp
        have hpl := places_ok (P := P) fs.toList h1
        have hpp : ∀ i p, placeS P fs i = some p → (fs.toList.map fun f => (f.offset, (sz P f.type).getD 0)).toArray[i]? = some p := by
          intro i p h
          unfold placeS at h
          split at h
          · rename_i f hf
            split at h
            · rename_i z hz
              injection h with h
              subst h
              simp [hf, hz]
            · cases h
          · cases h
        obtain ⟨arr, h3, h4⟩ := fill_ok (ql := fun i => (fs.toList.map fun f => (f.offset, (sz P f.type).getD 0)).toArray[i]?) hpp hl hps hz2
        refine ⟨.agg arr, by simp [den, h4], fun w => ?_⟩
        have e : (parts.map fun (i, x) => (i, a.eval x)).toList = parts.toList.map fun x => (x.1, a.eval x.2) := by simp
        simp only [Instr.build, Sem.run_bind, hz1 w, Result.andThen_ok, run_underlying hu, Array.mapM_eq_mapM_toList, Sem.run_map, hpl w, e, h3, Sem.run_pure]
      · cases h2
    · cases h
  · cases h
theorem args_ok (hA : ARel E A a) {l : List Operand} {r : List SV} (h : mapO A.ev l = some r) : denL E r = some (l.map a.eval) := by
  obtain ⟨h1, h2⟩ := mapO_some h
  refine denL_of (by simp [h1]) fun j v hv => ?_
  have hj : j < l.length := by rw [← h1]; exact (List.getElem?_eq_some_iff.1 hv).1
  obtain ⟨y, h3, h4⟩ := h2 j l[j] (List.getElem?_eq_getElem hj)
  rw [hv] at h4
  injection h4 with h4
  subst h4
  exact ⟨_, hA.ev h3, by simp [hj]⟩
/-- AN OPERATION THAT LOOKS AT VALUES ALONE YIELDS ITS VALUE IN EVERY WORLD. -/
theorem opD_ok (hA : ARel E A a) {o : Oper} {v : SV} (h : opD P A o = some v) : ∃ x, den E v = some x ∧ ∀ w, (execOp a.eval o).run P w = .ok (.value x) w := by
  have lift : ∀ {m : Sem Value}, (∃ z, den E v = some z ∧ ∀ w, m.run P w = .ok z w) → (∀ w, (execOp a.eval o).run P w = (do pure (.value (← m)) : Sem Next).run P w) → ∃ x, den E v = some x ∧ ∀ w, (execOp a.eval o).run P w = .ok (.value x) w := by
    rintro m ⟨z, h1, h2⟩ h3
    exact ⟨z, h1, fun w => by rw [h3, Sem.run_bind, h2]; rfl⟩
  unfold opD at h
  split at h
  · rename_i x ho
    exact ⟨_, hA.ev h, fun w => by simp [execOp, ho]⟩
  · rename_i x ho
    exact ⟨_, hA.ev h, fun w => by simp [execOp, ho]⟩
  · rename_i c p q ho
    split at h
    · rename_i hc
      have := hA.ev hc
      simp only [den, Option.some.injEq] at this
      exact ⟨_, hA.ev h, fun w => by simp [execOp, ho, ← this, asBool]⟩
    · rename_i hc
      have := hA.ev hc
      simp only [den, Option.some.injEq] at this
      exact ⟨_, hA.ev h, fun w => by simp [execOp, ho, ← this, asBool]⟩
    · cases h
  · rename_i t parts ho
    exact lift (rBuild hA h) fun w => by simp only [execOp, ho]
  · rename_i x ho
    split at h
    · rename_i id q hx
      injection h with h
      subst h
      have hd := hA.ev hx
      obtain ⟨r, -, hr⟩ := den_pt hd
      exact ⟨_, hd, fun w => by simp [execOp, ho, hr]⟩
    · rename_i g x y hx
      injection h with h
      subst h
      have hd := hA.ev hx
      refine ⟨_, hd, fun w => ?_⟩
      simp only [den] at hd
      split at hd
      · split at hd
        · injection hd with hd
          simp [execOp, ho, ← hd]
        · cases hd
      · cases hd
    · cases h
  · rename_i op t x y u ho
    split at h
    · rename_i p q hp hq
      exact lift (rBin h (hA.ev hp) (hA.ev hq) x y) fun w => by simp only [execOp, ho]
    · cases h
  · rename_i op t x ho
    split at h
    · rename_i p hp
      exact lift (rUn h (hA.ev hp)) fun w => by simp only [execOp, ho]
    · cases h
  · rename_i s d x ho
    split at h
    · rename_i p hp
      exact lift (rConv h (hA.ev hp)) fun w => by simp only [execOp, ho]
    · cases h
  · rename_i s x f ho
    split at h
    · rename_i p hp
      exact lift (rFieldAddr h (hA.ev hp)) fun w => by simp only [execOp, ho]
    · cases h
  · rename_i s x f ho
    split at h
    · rename_i p hp
      exact lift (rField h (hA.ev hp)) fun w => by simp only [execOp, ho]
    · cases h
  · rename_i t x ix ho
    split at h
    · rename_i p q hp hq
      exact lift (rIndexAddr h (hA.ev hp) (hA.ev hq)) fun w => by simp only [execOp, ho]
    · cases h
  · rename_i t x ix ho
    split at h
    · rename_i p q hp hq
      exact lift (rIndex h (hA.ev hp) (hA.ev hq)) fun w => by simp only [execOp, ho]
    · cases h
  · rename_i t x lo hi mx ho
    split at h
    · rename_i p hp
      exact lift (rSlice hA h (hA.ev hp)) fun w => by simp only [execOp, ho]
    · cases h
  · rename_i x ix ho
    split at h
    · rename_i p hp
      exact lift (rExtract h (hA.ev hp)) fun w => by simp only [execOp, ho]
    · cases h
  · rename_i g x y ho
    split at h
    · rename_i p q hp hq
      injection h with h
      subst h
      refine ⟨.func (.func g) (x.map a.eval) (y.map a.eval), ?_, fun w => by simp only [execOp, ho, Instr.makeFunc, Sem.run_bind, Sem.run_pure, Result.andThen_ok]⟩
      have e2 : ∀ l : Array Operand, (l.toList.map a.eval).toArray = l.map a.eval := fun l => by apply Array.ext'; simp
      simp only [den, args_ok hA hp, args_ok hA hq, e2]
    · cases h
  · rename_i c ho
    split at h
    · rename_i b hb
      obtain ⟨callee, args, ats⟩ := c
      simp only at hb h
      subst hb
      unfold sPure at h
      split at h
      · split at h
        · rename_i x t h1 h2
          have e1 : args = #[x] := Array.ext' h1
          have e2 : ats = #[t] := Array.ext' h2
          subst e1 e2
          split at h
          · rename_i p hp
            exact lift (rLen (ty := o.type) h (hA.ev hp)) fun w => by simp [execOp, ho, resolve, invoke, builtin]
          · cases h
        · cases h
      · split at h
        · rename_i x y h1
          have e1 : args = #[x, y] := Array.ext' h1
          subst e1
          split at h
          · rename_i k p j q hp hq
            injection h with h
            subst h
            have h1 := hA.ev hp
            have h2 := hA.ev hq
            simp only [den, Option.some.injEq] at h1 h2
            exact ⟨_, rfl, fun w => by simp [execOp, ho, resolve, invoke, builtin, Builtin.max_, Builtin.max2, ← h1, ← h2]⟩
          · cases h
        · cases h
      · split at h
        · rename_i x y h1
          have e1 : args = #[x, y] := Array.ext' h1
          subst e1
          split at h
          · rename_i k p j q hp hq
            injection h with h
            subst h
            have h1 := hA.ev hp
            have h2 := hA.ev hq
            simp only [den, Option.some.injEq] at h1 h2
            exact ⟨_, rfl, fun w => by simp [execOp, ho, resolve, invoke, builtin, Builtin.min_, Builtin.min2, ← h1, ← h2]⟩
          · cases h
        · cases h
      · cases h
    · cases h
  · cases h
end
end Sy
end Go.Proofs.YtfhcngnmgfkdkaaGreatDoor
