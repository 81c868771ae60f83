/- The symbolic machine: append. -/
import Derived.Test.YtfhcngnmgfkdkaaGreatDoorTL
namespace Go.Proofs.YtfhcngnmgfkdkaaGreatDoor
namespace Sy
open Go.RowKit

section
variable {P : Program} {E : Env} {B : Nat} {w0 w : World} {S S' : SH}
/-- What the cells of an argument of append are. -/
theorem src_ok (hI : Inv B w0 E S w) {z m : Nat} {y : SV} {news : List SV} (h : srcCells S z y = some (m, news)) {Y : Value} (hY : den E y = some Y) :
    ∃ A c xs, Y = .slice A m c ∧ m ≤ c ∧ denL E news = some xs ∧ xs.length = m * z ∧ ∀ w' : World, w'.heap = w.heap → (Builtin.firstCells z m Y).run P w' = .ok xs.toArray w' := by
  unfold srcCells at h
  split at h
  · injection h with h
    injection h with h1 h2
    subst h1 h2
    simp only [den, Option.some.injEq] at hY
    subst hY
    exact ⟨none, 0, [], rfl, Nat.le_refl _, rfl, by simp, fun w' _ => by simp [Builtin.firstCells]⟩
  · rename_i id o n c
    obtain ⟨r, k, hr, hk, hnk, rfl⟩ := den_sl hY
    split at h
    · rename_i h0
      have h0 := eqB h0
      subst h0
      injection h with h
      injection h with h1 h2
      subst h1 h2
      exact ⟨_, k, [], rfl, hnk, rfl, by simp, fun w' _ => by simp [Builtin.firstCells, loadCells, loadCellsFrom]⟩
    · split at h
      · rename_i ro cs sp hg
        split at h
        · rename_i l hl
          injection h with h
          injection h with h1 h2
          subst h1 h2
          obtain ⟨r', arr, ty, hr', hB, hw, hc, -⟩ := hI.blk _ _ hg
          rw [hr] at hr'
          injection hr' with hr'
          subst hr'
          obtain ⟨xs, h5, h6, -, h7⟩ := cells_seg hw hc hl
          refine ⟨_, k, xs, rfl, hnk, h5, h6, fun w' hw' => ?_⟩
          have hld := run_loadCells_list (P := P) w' ⟨r, o, none⟩ xs (fun j v hj => by
            rw [add_eq, World.cell?, hw']
            have := h7 j v hj
            rwa [World.cell?] at this)
          rw [h6] at hld
          simp [Builtin.firstCells, hld]
        · cases h
      · cases h
  · cases h
theorem next_le {n c : Nat} (h : c < n) (h2 : n < 200) : Builtin.nextslicecap n c ≤ 400 := by
  unfold Builtin.nextslicecap
  split
  · omega
  · rw [if_pos (by omega)]
    omega
theorem zeroCells_size (z : Array Value) (n : Nat) : (Builtin.zeroCells z n).size = n * z.size := by simp [Builtin.zeroCells]
/-- An append that makes a row anew. -/
theorem app_grow {t e ty : TypeId} {i : TypeInfo} {zv : Value} (hu : P.underlying t = some (.slice e)) (hi : P.info? e = some i) (hz : i.zero = some zv) (hb : i.bytes < 1000000)
    {A A2 : Option Addr} {n c m c2 : Nat} {olds news : Array Value} (h1 : c < n + m) (h2 : n + m < 200)
    (ho : ∀ w' : World, w'.heap = w.heap → (Builtin.firstCells i.size n (.slice A n c)).run P w' = .ok olds w')
    (hn : ∀ w' : World, w'.heap = w.heap → (Builtin.firstCells i.size m (.slice A2 m c2)).run P w' = .ok news w') :
    ∃ C, n + m ≤ C ∧ (Builtin.append_ #[t, t] ty #[.slice A n c, .slice A2 m c2]).run P w = .ok (.slice (some ⟨w.heap.size, 0, none⟩) (n + m) C) (w.drew.alloc (.cells (olds ++ news ++ Builtin.zeroCells zv.cells (C - (n + m))) e)) := by
  refine ⟨Question.cut (.appendCap (n + m) c e) (w.tape w.drawn (.appendCap (n + m) c e)), by simp only [Question.cut]; omega, ?_⟩
  generalize hq : Question.cut (.appendCap (n + m) c e) (w.tape w.drawn (.appendCap (n + m) c e)) = C
  have h3 : ¬ n + m ≤ c := by omega
  have h4 : ¬ 281474976710656 < Builtin.nextslicecap (n + m) c * i.bytes := by
    have := next_le h1 h2
    have h5 : Builtin.nextslicecap (n + m) c * i.bytes ≤ 400 * 1000000 := Nat.mul_le_mul this (by omega)
    omega
  have h7 : (Question.appendCap (n + m) c e).forced = false := rfl
  have hs : sz P e = some i.size := by simp [sz, hi]
  have e1 := ho w.drew rfl
  have e2 := hn w.drew rfl
  simp [Builtin.append_, run_underlying hu, rSz hs, typeInfo, hi, Builtin.lenOf, h3, h4, h7, hq, e1, e2, zeroValue, hz, rNewRow]
  intro hbad
  omega
/-- An append that fits where it stands, of nothing. -/
theorem app_none {t e ty : TypeId} {i : TypeInfo} (hu : P.underlying t = some (.slice e)) (hi : P.info? e = some i) {A A2 : Option Addr} {n c c2 : Nat} (h1 : n ≤ c)
    (hn : (Builtin.firstCells i.size 0 (.slice A2 0 c2)).run P w = .ok #[] w) :
    (Builtin.append_ #[t, t] ty #[.slice A n c, .slice A2 0 c2]).run P w = .ok (.slice A n c) w := by
  have hs : sz P e = some i.size := by simp [sz, hi]
  cases A <;> simp [Builtin.append_, run_underlying hu, rSz hs, Builtin.lenOf, h1, hn, storeCells]
/-- An append that fits where it stands. -/
theorem app_in {t e ty : TypeId} {i : TypeInfo} (hu : P.underlying t = some (.slice e)) (hi : P.info? e = some i) {r n c m c2 : Nat} {A2 : Option Addr} {news : Array Value} (h1 : n + m ≤ c)
    (hn : (Builtin.firstCells i.size m (.slice A2 m c2)).run P w = .ok news w) {w' : World}
    (hst : (storeCells ⟨r, 0 + n * i.size, none⟩ news.toList).run P w = .ok () w') :
    (Builtin.append_ #[t, t] ty #[.slice (some ⟨r, 0, none⟩) n c, .slice A2 m c2]).run P w = .ok (.slice (some ⟨r, 0, none⟩) (n + m) c) w' := by
  have hs : sz P e = some i.size := by simp [sz, hi]
  simp [Builtin.append_, run_underlying hu, rSz hs, Builtin.lenOf, h1, hn, add_lit']
  simp at hst
  simp [hst]
theorem rAppend (hI : Inv B w0 E S w) {t ty : TypeId} {x y v : SV} (h : sAppend P S t x y = some (v, S')) {X Y : Value} (hX : den E x = some X) (hY : den E y = some Y) :
    ∃ F w', E.le F ∧ Inv B w0 F S' w' ∧ ∃ z, den F v = some z ∧ (Builtin.append_ #[t, t] ty #[X, Y]).run P w = .ok z w' := by
  unfold sAppend at h
  split at h
  · rename_i e hu
    split at h
    · rename_i i zs hi hzs
      split at h
      · rename_i m news hsrc
        replace h := need_some h
        obtain ⟨g, h⟩ := h
        obtain ⟨g1, g⟩ := and2 g
        obtain ⟨g2, g⟩ := and2 g
        obtain ⟨g3, g⟩ := and2 g
        obtain ⟨g4, g⟩ := and2 g
        obtain ⟨g5, g6⟩ := and2 g
        have g1 := eqB g1
        have g2 := ltB g2
        have g3 := ltB g3
        have g4 := ltB g4
        obtain ⟨A2, c2, ys, rfl, hmc, hy1, hy2, hy3⟩ := src_ok (P := P) hI hsrc hY
        obtain ⟨zv, hiz, hzd⟩ : ∃ zv, i.zero = some zv ∧ denL E zs = some zv.cells.toList := by
          unfold zc at hzs
          simp only [hi] at hzs
          split at hzs
          · rename_i z hz
            split at hzs
            · rename_i u hu
              injection hzs with hzs
              subst hzs
              exact ⟨z, hz, den_cells (ofV_den hu)⟩
            · cases hzs
          · cases hzs
        have hzsz : zv.cells.size = i.size := by
          have := (denL_some hzd).1
          rw [g1] at this
          simpa using this
        -- a row made anew
        have grow : ∀ {S1 : SH} {A : Option Addr} {n c : Nat} {olds : List SV} {os : List Value} {id : Nat} {S2 : SH}, Inv B w0 E S1 w → c < n + m → n + m < 200 → denL E olds = some os → os.length = n * i.size → olds.all SV.one = true →
            (∀ w' : World, w'.heap = w.heap → (Builtin.firstCells i.size n (.slice A n c)).run P w' = .ok os.toArray w') → S1.new (.c false (olds ++ news) i.size) = some (id, S2) →
            ∃ F w', E.le F ∧ Inv B w0 F S2 w' ∧ ∃ z, den F (.sl id 0 (n + m) (.of id 0)) = some z ∧ (Builtin.append_ #[t, t] ty #[.slice A n c, .slice A2 m c2]).run P w = .ok z w' := by
          intro S1 A n c olds os id S2 hI1 h1 h2 ho hol ho1 hof hnew
          obtain ⟨C, hC, hrun⟩ := app_grow (ty := ty) (olds := os.toArray) (news := ys.toArray) hu hi hiz g3 h1 h2 hof hy3
          obtain ⟨hE, hI2⟩ := (hI1.drew (w' := w.drew) rfl rfl rfl rfl).alloc hnew (.cells (os.toArray ++ ys.toArray ++ Builtin.zeroCells zv.cells (C - (n + m))) e) (some C) fun hE => by
            refine ⟨w.heap.size, _, e, by simp [Env.ext], fun _ => hI1.size, heap_alloc_new w.drew _, ?_, fun _ => ⟨C, by simp [Env.ext], ?_⟩⟩
            · have := cellsOk_of (denL_mono hE _ (denL_append ho hy1)) (by simp [ho1, g6]) (Builtin.zeroCells zv.cells (C - (n + m))).toList
              have e1 : (os ++ ys ++ (Builtin.zeroCells zv.cells (C - (n + m))).toList).toArray = os.toArray ++ ys.toArray ++ Builtin.zeroCells zv.cells (C - (n + m)) := by simp
              rwa [e1] at this
            · simp only [Array.size_append, List.size_toArray, zeroCells_size, hol, hy2, hzsz]
              rw [← Nat.add_mul, ← Nat.add_mul]
              congr 1
              omega
          have hd : (w.drew).heap.size = w.heap.size := rfl
          rw [hd] at hE hI2
          refine ⟨_, _, hE, hI2, _, ?_, hrun⟩
          simp only [den, Env.ext, Cp.den, if_true, Nat.sub_zero]
          rw [if_pos hC]
        split at h
        · rename_i hm
          have hm := eqB hm
          subst hm
          have hy0 : ys = [] := List.eq_nil_of_length_eq_zero (by simpa using hy2)
          subst hy0
          split at h
          · injection h with h
            injection h with h1 h2
            subst h1 h2
            simp only [den, Option.some.injEq] at hX
            subst hX
            exact ⟨E, w, .refl E, hI, _, rfl, app_none hu hi (Nat.le_refl _) (hy3 w rfl)⟩
          · injection h with h
            injection h with h1 h2
            subst h1 h2
            obtain ⟨r, k, hr, hk, hnk, rfl⟩ := den_sl hX
            exact ⟨E, w, .refl E, hI, _, hX, app_none hu hi hnk (hy3 w rfl)⟩
          · cases h
        · rename_i hm
          have hm0 : 0 < m := by
            rcases Nat.eq_zero_or_pos m with h0 | h0
            · subst h0; cases hm
            · exact h0
          split at h
          · split at h
            · rename_i id S2 hnew
              injection h with h
              injection h with h1 h2
              subst h1 h2
              simp only [den, Option.some.injEq] at hX
              subst hX
              have := grow (S1 := S) (A := none) (n := 0) (c := 0) (olds := []) (os := []) hI (by omega) (by omega) rfl (by simp) rfl (fun w' _ => by simp [Builtin.firstCells]) hnew
              simpa using this
            · cases h
          · rename_i id o n c
            split at h
            · rename_i n' olds hso
              replace h := need_some h
              obtain ⟨g7, h⟩ := h
              obtain ⟨g7, g8⟩ := and2 g7
              obtain ⟨g8, g9⟩ := and2 g8
              have g7 := ltB g7
              have g8 := ltB g8
              split at h
              · rename_i id' S2 hnew
                injection h with h
                injection h with h1 h2
                subst h1 h2
                obtain ⟨A, c', os, hXe, hc', ho1, ho2, ho3⟩ := src_ok (P := P) hI hso hX
                obtain ⟨r, k, hr, hk, hnk, hXe2⟩ := den_sl hX
                rw [hXe] at hXe2
                injection hXe2 with e1 e2 e3
                simp only [Cp.den, Option.some.injEq] at hk
                subst e1 e2 e3 hk
                subst hXe
                exact grow hI g7 (by omega) ho1 ho2 g9 ho3 hnew
              · cases h
            · cases h
          · rename_i id o n q d
            split at h
            · rename_i cs sp hg
              split at h
              · rename_i olds hol
                replace h := need_some h
                obtain ⟨g7, h⟩ := h
                obtain ⟨k1, g7⟩ := and2 g7
                obtain ⟨k2, g7⟩ := and2 g7
                obtain ⟨k3, g7⟩ := and2 g7
                obtain ⟨k4, g7⟩ := and2 g7
                obtain ⟨k5, g7⟩ := and2 g7
                obtain ⟨k6, k7⟩ := and2 g7
                have k1 := eqB k1
                have k2 := eqB k2
                have k3 := eqB k3
                have k4 := eqB k4
                have k5 := ltB k5
                have k6 := ltB k6
                clear g7
                subst k1 k2 k3 k4
                split at h
                · rename_i id' S2 hnew
                  injection h with h
                  injection h with h1 h2
                  subst h1 h2
                  obtain ⟨r, k, hr, hk, hnk, rfl⟩ := den_sl hX
                  simp only [Cp.den] at hk
                  split at hk
                  · rename_i C hC
                    injection hk with hk
                    simp only [Nat.sub_zero] at hk
                    subst hk
                    obtain ⟨r', arr, ty', hr', hB, hw, hc, hsp⟩ := hI.blk _ _ hg
                    rw [hr] at hr'
                    injection hr' with hr'
                    subst hr'
                    have hB := hB rfl
                    obtain ⟨C', hC', hsz⟩ := hsp (by omega)
                    rw [hC] at hC'
                    injection hC' with hC'
                    subst hC'
                    obtain ⟨os, ho1, ho2, ho4, ho3⟩ := cells_seg hw hc hol
                    have hdead : Inv B w0 E (S.upd q .dead) w := hI.upd hg rfl hr k6 (Below.refl B w) (fun _ _ => rfl) trivial
                    by_cases hfit : n + m ≤ C
                    · -- in place
                      have hlen : 0 + n * i.size + ys.length ≤ arr.size := by
                        rw [hsz]
                        simp only [hy2, Nat.zero_add]
                        rw [← Nat.add_mul]
                        exact Nat.mul_le_mul_right _ hfit
                      have hst := run_storeCells_at P r (0 + n * i.size) ty' ys 0 arr w hw (by simpa using hlen) (fun u hu => by
                        obtain ⟨j, hj⟩ := List.mem_iff_getElem?.1 hu
                        have hjn : j < news.length := by
                          have := (List.getElem?_eq_some_iff.1 hj).1
                          have h9 := (denL_some hy1).1
                          omega
                        obtain ⟨u', h7, h8⟩ := (denL_some hy1).2 j news[j] (List.getElem?_eq_getElem hjn)
                        rw [hj] at h8
                        injection h8 with h8
                        subst h8
                        exact den_one h7 (all_one g6 (List.getElem?_eq_getElem hjn)))
                      simp only [Nat.add_zero] at hst
                      obtain ⟨arr', harr⟩ : ∃ z, z = (arr.toList.take (0 + n * i.size) ++ ys ++ arr.toList.drop (0 + n * i.size + ys.length)).toArray := ⟨_, rfl⟩
                      rw [← harr] at hst
                      have hrun := app_in (ty := ty) hu hi hfit (hy3 w rfl) hst
                      obtain ⟨-, q1, q2, q3, rfl⟩ := new_some hnew
                      have hI2 := hdead.ext (r := r) (n := id' + 1) (cp := some C) (b := .c false (olds ++ news) i.size) (w' := w.setRow r arr') q1 q2 q3 (below_setRow hB _) (fun j b k hj hl hk => by
                        have hjq : j ≠ q := by
                          intro e0
                          subst e0
                          simp only [SH.upd] at hj
                          rw [Tr.put_same _ _ _ k6] at hj
                          injection hj with hj
                          subst hj
                          cases hl
                        have hj2 : S.h.get j = some b := by
                          simp only [SH.upd] at hj
                          rwa [Tr.put_other _ _ hjq] at hj
                        have hne : k ≠ r := by
                          intro e0
                          subst e0
                          exact hI.inj j q b _ hj2 hg hl rfl hjq (hk.trans hr.symm)
                        exact ⟨setRow_other w r k _ hne, hne⟩) ?_
                      · obtain ⟨f1, f2⟩ := hdead.fresh id' q1 q2
                        refine ⟨_, _, Env.ext_le f1 f2, hI2, _, ?_, hrun⟩
                        simp only [den, Env.ext, Cp.den, if_true, Nat.sub_zero]
                        rw [if_pos hfit]
                      · obtain ⟨f1, f2⟩ := hdead.fresh id' q1 q2
                        have hE := Env.ext_le (r := r) (cp := some C) f1 f2
                        refine ⟨r, arr', ty', by simp [Env.ext], fun _ => hB, setRow_heap w r arr _ ty' _ hw, fun j u hu => ?_, fun _ => ⟨C, by simp [Env.ext], ?_⟩⟩
                        · have hd := denL_mono hE _ (denL_append ho1 hy1)
                          obtain ⟨u', h7, h8⟩ := (denL_some hd).2 j u hu
                          refine ⟨u', h7, den_one h7 (all_one (by simp [k7, g6]) hu), ?_⟩
                          have hjl : j < n * i.size + ys.length := by
                            have := (List.getElem?_eq_some_iff.1 h8).1
                            simp at this
                            omega
                          rw [harr, List.getElem?_toArray, spl_get _ _ _ (by simpa using hlen)]
                          by_cases h9 : j < n * i.size
                          · rw [if_pos (by omega)]
                            rw [List.getElem?_append_left (by omega)] at h8
                            have := ho3 j u' h8
                            rw [cell_of_cells hw] at this
                            simpa using this
                          · rw [if_neg (by omega), if_pos (by omega)]
                            rw [List.getElem?_append_right (by omega), ho2] at h8
                            simpa using h8
                        · rw [harr, List.size_toArray, spl_len _ _ _ (by simpa using hlen), ← hsz]
                          simp
                    · exact grow hdead (by omega) (by omega) ho1 ho2 k7 (fun w' hw' => by
                        have hld := run_loadCells_list (P := P) w' ⟨r, 0, none⟩ os (fun j v hj => by
                          rw [add_eq, World.cell?, hw']
                          have := ho3 j v hj
                          rwa [World.cell?] at this)
                        rw [ho2] at hld
                        simp [Builtin.firstCells, hld]) hnew
                  · cases hk
                · cases h
              · cases h
            · cases h
          · cases h
      · cases h
    · cases h
  · cases h
end
end Sy
end Go.Proofs.YtfhcngnmgfkdkaaGreatDoor
