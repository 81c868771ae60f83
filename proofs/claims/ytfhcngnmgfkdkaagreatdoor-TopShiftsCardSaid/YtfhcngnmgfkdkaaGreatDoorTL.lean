/- The symbolic machine: operations that change the heap. -/
import Derived.Test.YtfhcngnmgfkdkaaGreatDoorTK
import Derived.IntWalk
namespace Go.Proofs.YtfhcngnmgfkdkaaGreatDoor
namespace Sy
open Go.RowKit

section
variable {P : Program} {E : Env} {A : SA} {a : Act} {B : Nat} {w0 w : World} {S S' : SH}
theorem all_one {cs : List SV} (h : cs.all SV.one = true) {j : Nat} {v : SV} (hv : cs[j]? = some v) : v.one = true := by
  rw [List.all_eq_true] at h
  exact h v (List.mem_of_getElem? hv)
theorem cellsOk_of {cs : List SV} {xs : List Value} (h : denL E cs = some xs) (h1 : cs.all SV.one = true) (rest : List Value) : CellsOk E cs (xs ++ rest).toArray := by
  intro j v hv
  obtain ⟨h2, h3⟩ := denL_some h
  obtain ⟨x, h4, h5⟩ := h3 j v hv
  have hj : j < xs.length := (List.getElem?_eq_some_iff.1 h5).1
  exact ⟨x, h4, den_one h4 (all_one h1 hv), by simp [List.getElem?_append_left hj, h5]⟩
theorem cellsOk_of' {cs : List SV} {xs : List Value} (h : denL E cs = some xs) (h1 : cs.all SV.one = true) : CellsOk E cs xs.toArray := by
  simpa using cellsOk_of h h1 []
theorem row_ok (hI : Inv B w0 E S w) {cs : List SV} {xs : Array Value} (hd : denL E cs = some xs.toList) (h1 : cs.all SV.one = true) {id : Nat} (hn : S.new (.c false cs 0) = some (id, S')) (t : TypeId) :
    ∃ F, E.le F ∧ F.r id = some w.heap.size ∧ Inv B w0 F S' (w.alloc (.cells xs t)) := by
  have hxs : xs.toList.toArray = xs := by simp
  obtain ⟨hE, hI'⟩ := hI.alloc hn (.cells xs t) none fun hE => by
    refine ⟨w.heap.size, xs, t, by simp [Env.ext], fun _ => hI.size, heap_alloc_new w _, ?_, fun h => absurd rfl h⟩
    have := cellsOk_of' (denL_mono hE _ hd) h1
    rwa [hxs] at this
  exact ⟨_, hE, by simp [Env.ext], hI'⟩
theorem rNewRow (t : TypeId) (xs : Array Value) (w : World) : (newRow t xs).run P w = .ok ⟨w.heap.size, 0, none⟩ (w.alloc (.cells xs t)) := rfl
theorem rRow (hI : Inv B w0 E S w) {cs : List SV} {v : SV} (h : sRow S cs = some (v, S')) {x : Value} (hd : denL E cs = some x.cells.toList) (t : TypeId) :
    ∃ F w', E.le F ∧ Inv B w0 F S' w' ∧ ∃ z, den F v = some z ∧ (do pure (.pointer (some (← newVar t x))) : Sem Value).run P w = .ok z w' := by
  unfold sRow at h
  obtain ⟨h1, h2⟩ := need_some h
  split at h2
  · rename_i id S'' hn
    injection h2 with h2
    injection h2 with h2 h3
    subst h2 h3
    obtain ⟨F, h4, h5, h6⟩ := row_ok hI hd h1 hn t
    exact ⟨F, _, h4, h6, _, den_pt_of h5, by simp [newVar, rNewRow]⟩
  · cases h2
theorem rStore (hI : Inv B w0 E S w) {t : TypeId} {x v : SV} (h : sStore P S t x v = some S') {b c : Value} (hb : den E x = some b) (hc : den E v = some c) :
    ∃ w', Inv B w0 E S' w' ∧ (Instr.storeAt t b c).run P w = .ok () w' := by
  unfold sStore at h
  split at h
  · rename_i id q
    obtain ⟨r, hr, rfl⟩ := den_pt hb
    split at h
    · rename_i cs sp hg
      split at h
      · rename_i n hn
        obtain ⟨h1, h2⟩ := need_some h
        obtain ⟨g1, h1⟩ := and2 h1
        obtain ⟨g2, h1⟩ := and2 h1
        obtain ⟨g3, g4⟩ := and2 h1
        have g1 := eqB g1
        have g2 := leB g2
        have g4 := ltB g4
        injection h2 with h2
        subst h2
        obtain ⟨r', arr, ty, hr', hB, hw, hcs, hsp⟩ := hI.blk _ _ hg
        rw [hr] at hr'
        injection hr' with hr'
        subst hr'
        have hB := hB rfl
        have hd := den_cells hc
        obtain ⟨hd1, hd2⟩ := denL_some hd
        have hlen : c.cells.toList.length = n := by rw [hd1, g1]
        have hfit : q + c.cells.toList.length ≤ arr.size := by
          rcases Nat.eq_zero_or_pos n with h0 | h0
          · have hq : q ≤ arr.size := by
              rcases Nat.eq_zero_or_pos q with hq | hq
              · omega
              · have hlt : q - 1 < cs.length := by omega
                obtain ⟨y, _, _, h9⟩ := hcs (q - 1) cs[q - 1] (List.getElem?_eq_getElem hlt)
                have := (Array.getElem?_eq_some_iff.1 h9).1
                omega
            omega
          · have hlt : q + n - 1 < cs.length := by omega
            obtain ⟨y, _, _, h9⟩ := hcs (q + n - 1) cs[q + n - 1] (List.getElem?_eq_getElem hlt)
            have := (Array.getElem?_eq_some_iff.1 h9).1
            omega
        have h1 : ∀ u ∈ c.cells.toList, u.oneCell' = true := by
          intro u hu
          obtain ⟨j, hj⟩ := List.mem_iff_getElem?.1 hu
          have hjn : j < v.cells.length := by
            have := (List.getElem?_eq_some_iff.1 hj).1
            omega
          obtain ⟨y, h7, h8⟩ := hd2 j v.cells[j] (List.getElem?_eq_getElem hjn)
          rw [hj] at h8
          injection h8 with h8
          subst h8
          exact den_one h7 (all_one g3 (List.getElem?_eq_getElem hjn))
        have hst := run_storeCells_at P r q ty c.cells.toList 0 arr w hw (by simpa using hfit) h1
        simp only [Nat.add_zero] at hst
        obtain ⟨arr', harr⟩ : ∃ z, z = (arr.toList.take q ++ c.cells.toList ++ arr.toList.drop (q + c.cells.toList.length)).toArray := ⟨_, rfl⟩
        rw [← harr] at hst
        refine ⟨w.setRow r arr', hI.upd hg rfl hr g4 (below_setRow hB _) (fun k hk => setRow_other w r k _ hk) ⟨r, arr', ty, hr, fun _ => hB, setRow_heap w r arr _ ty _ hw, ?_, fun hs => ?_⟩, ?_⟩
        · intro j u hu
          unfold spl at hu
          rw [spl_get _ _ _ (by rw [g1]; exact g2)] at hu
          rw [harr, List.getElem?_toArray, spl_get _ _ _ (by simpa using hfit), hlen]
          rw [g1] at hu
          by_cases h5 : j < q
          · rw [if_pos h5] at hu ⊢
            simpa using hcs j u hu
          · rw [if_neg h5] at hu ⊢
            by_cases h6 : j < q + n
            · rw [if_pos h6] at hu ⊢
              obtain ⟨y, h7, h8⟩ := hd2 _ u hu
              exact ⟨y, h7, den_one h7 (all_one g3 hu), h8⟩
            · rw [if_neg h6] at hu ⊢
              simpa using hcs j u hu
        · obtain ⟨C, h7, h8⟩ := hsp hs
          refine ⟨C, h7, ?_⟩
          rw [harr, List.size_toArray, spl_len _ _ _ (by simpa using hfit), ← h8]
          simp
        · have hcz : c.cells.size = n := by simpa using hlen
          simp [Instr.storeAt, Instr.sureAddr, storeVar, rSz hn, hcz, hst]
      · cases h
    · cases h
  · cases h
theorem rep_get (z : List SV) (hz : 0 < z.length) : ∀ (n j : Nat), j < n * z.length → (rep z n)[j]? = z[j % z.length]?
  | 0, j, h => by simp at h
  | n + 1, j, h => by
    simp only [rep]
    by_cases h1 : j < z.length
    · rw [List.getElem?_append_left h1, Nat.mod_eq_of_lt h1]
    · rw [List.getElem?_append_right (by omega), rep_get z hz n (j - z.length) (by rw [Nat.add_mul, Nat.one_mul] at h; omega)]
      congr 1
      exact (Nat.mod_eq_sub_mod (by omega)).symm
theorem rep_len (z : List SV) : ∀ n, (rep z n).length = n * z.length
  | 0 => by simp [rep]
  | n + 1 => by simp only [rep, List.length_append, rep_len z n, Nat.succ_mul]; omega
/-- The cells of a row of zeros. -/
theorem zeros_ok {z : List SV} {zv : Array Value} (hz : denL E z = some zv.toList) (h0 : 0 < z.length) (n : Nat) : denL E (rep z n) = some ((Array.range (n * z.length)).map (zv[· % zv.size]!)).toList := by
  obtain ⟨h1, h2⟩ := denL_some hz
  have hs : zv.size = z.length := by simpa using h1
  refine denL_of (by simp [rep_len]) fun j v hv => ?_
  have hj : j < n * z.length := by rw [← rep_len]; exact (List.getElem?_eq_some_iff.1 hv).1
  rw [rep_get z h0 n j hj] at hv
  obtain ⟨y, h3, h4⟩ := h2 _ v hv
  refine ⟨y, h3, ?_⟩
  have hlt : j % z.length < zv.size := by rw [hs]; exact Nat.mod_lt _ h0
  have h5 : zv[j % zv.size]! = y := by
    rw [hs, getElem!_pos zv _ hlt]
    simpa [hlt] using h4
  simp [hj, h5]
theorem rBuildSlice (hA : ARel E A a) (hI : Inv B w0 E S w) {t : TypeId} {len : Nat} {parts : Array (Nat × Operand)} {v : SV} (h : sBuildSlice P A S t len parts = some (v, S')) :
    ∃ F w', E.le F ∧ Inv B w0 F S' w' ∧ ∃ z, den F v = some z ∧ (Instr.buildSlice t len (parts.map fun (i, x) => (i, a.eval x))).run P w = .ok z w' := by
  unfold sBuildSlice at h
  split at h
  · rename_i e hu
    split at h
    · rename_i z zs ps hz hzs hp
      obtain ⟨h1, h2⟩ := need_some h
      obtain ⟨g1, h1⟩ := and2 h1
      obtain ⟨g2, h1⟩ := and2 h1
      obtain ⟨g3, g4⟩ := and2 h1
      have g1 := eqB g1
      have g2 := ltB g2
      have g3 := ltB g3
      have g4 := ltB g4
      split at h2
      · rename_i cs hf
        obtain ⟨h3, h4⟩ := need_some h2
        split at h4
        · rename_i id S'' hn
          injection h4 with h4
          injection h4 with h4 h5
          subst h4 h5
          obtain ⟨zv, hz1, hz2⟩ := zc_some (E := E) hzs
          have hps := parts_ok hA hp
          have hzr := zeros_ok hz2 (by omega) len
          obtain ⟨arr, h6, h7⟩ := fill_ok (ql := fun i => some (i * z, z)) (fun i p hp => hp) hf hps hzr
          obtain ⟨F, h8, h9, h10⟩ := row_ok hI h7 h3 hn e
          refine ⟨F, _, h8, h10, .slice (some ⟨w.heap.size, 0, none⟩) len len, by simp [den, h9, Cp.den], ?_⟩
          have e1 : (parts.map fun (i, x) => (i, a.eval x)).toList = parts.toList.map fun x => (x.1, a.eval x.2) := by simp
          have hbig : ¬ len * z > 2 ^ 24 := by
            have : len * z ≤ 1000 * 1000 := Nat.mul_le_mul (by omega) (by omega)
            omega
          rw [g1] at h6
          rcases Nat.eq_zero_or_pos (len * z) with h0 | h0
          · have hl0 : Array.map (fun x => zv.cells[x % zv.cells.size]!) (Array.range (len * z)) = #[] := by rw [h0]; simp
            have hl1 : Array.map (fun x => (#[] : Array Value)[x % (#[] : Array Value).size]!) (Array.range (len * z)) = #[] := by rw [h0]; simp
            rw [hl0] at h6
            simp only [Instr.buildSlice, Sem.run_bind, run_underlying hu, Result.andThen_ok, rSz hz, Sem.run_ite, if_neg hbig, if_pos h0, Sem.run_pure, e1, hl1, h6, rNewRow]
          · have hne : ¬ len * z = 0 := by omega
            simp only [Instr.buildSlice, Sem.run_bind, run_underlying hu, Result.andThen_ok, rSz hz, Sem.run_ite, if_neg hbig, if_neg hne, hz1 w, Sem.run_pure, e1, h6, rNewRow]
        · cases h4
      · cases h2
    · cases h
  · cases h
theorem rMakeSlice (hI : Inv B w0 E S w) {t : TypeId} {x y v : SV} (h : sMakeSlice P S t x y = some (v, S')) {b c : Value} (hb : den E x = some b) (hc : den E y = some c) :
    ∃ F w', E.le F ∧ Inv B w0 F S' w' ∧ ∃ z, den F v = some z ∧ (Instr.makeSlice t b c).run P w = .ok z w' := by
  unfold sMakeSlice at h
  split at h
  · rename_i e k p j q hu
    simp only [den, Option.some.injEq] at hb hc
    subst hb hc
    split at h
    · rename_i n m i hn hm hi
      have hn := natOf_some hn
      have hm := natOf_some hm
      subst hn hm
      split at h
      · rename_i zs hzs
        obtain ⟨h1, h2⟩ := need_some h
        obtain ⟨g1, h1⟩ := and2 h1
        obtain ⟨g2, h1⟩ := and2 h1
        obtain ⟨g3, g4⟩ := and2 h1
        have g1 := eqB g1
        have g2 := ltB g2
        have g3 := ltB g3
        have g4 := eqB g4
        subst g1
        obtain ⟨h3, h4⟩ := need_some h2
        split at h4
        · rename_i id S'' hn
          injection h4 with h4
          injection h4 with h4 h5
          subst h4 h5
          obtain ⟨zv, hz1, hz2⟩ := zc_some (E := E) hzs
          have hw : IntKind.i64.wrap (n : Int) = (n : Int) := IntWalk.i64_in _ ⟨by omega, by omega⟩
          have hbig : ¬ (281474976710656 : Int) < (i.bytes : Int) * (n : Int) := by
            have h7 : i.bytes * n ≤ 1000000 * 1000 := Nat.mul_le_mul (by omega) (by omega)
            have h8 : ((i.bytes * n : Nat) : Int) = (i.bytes : Int) * (n : Int) := Int.natCast_mul _ _
            omega
          have hnn : ¬ ((n : Int) < 0) := by omega
          have hsz : sz P e = some i.size := by simp [sz, hi]
          rcases Nat.eq_zero_or_pos (n * i.size) with h0 | h0
          · have hl0 : rep zs n = [] := List.eq_nil_of_length_eq_zero (by rw [rep_len, g4, h0])
            rw [hl0] at hn h3
            obtain ⟨F, h8, h9, h10⟩ := row_ok (xs := #[]) hI rfl h3 hn e
            refine ⟨F, _, h8, h10, .slice (some ⟨w.heap.size, 0, none⟩) n n, by simp [den, h9, Cp.den], ?_⟩
            have e0 : ∀ g : Nat → Value, Array.map g (Array.range 0) = #[] := fun g => by simp
            simp [Instr.makeSlice, run_underlying hu, asInt, asIntOf, typeInfo, hi, hw, rSz hsz, hbig, hnn, rNewRow, h0, e0]
          · have hzp : 0 < i.size := Nat.pos_of_ne_zero (by intro e0; rw [e0] at h0; simp at h0)
            have hzr := zeros_ok hz2 (by omega) n
            obtain ⟨F, h8, h9, h10⟩ := row_ok hI hzr h3 hn e
            refine ⟨F, _, h8, h10, .slice (some ⟨w.heap.size, 0, none⟩) n n, by simp [den, h9, Cp.den], ?_⟩
            have hne : ¬ n * i.size = 0 := by omega
            simp only [Instr.makeSlice, Sem.run_bind, run_underlying hu, Result.andThen_ok, asInt, asIntOf, typeInfo, run_program, hi, Sem.run_pure, hw, Sem.run_ite]
            simp [hbig, hnn, rSz hsz, hne, hz1 w, rNewRow, g4]
        · cases h4
      · cases h
    · cases h
  · cases h
end
end Sy
end Go.Proofs.YtfhcngnmgfkdkaaGreatDoor
