/- The walks of New and Add. -/
import Derived.Test.YtfgohjoamifpiaaWD
namespace Go.Proofs.Ytfgohjoamifpiaa
open Go.RowKit
open Go.Sort (grow)

set_option maxHeartbeats 400000 in
theorem newC_bad (s c n : Int) (w : World) (h : checkE ⟨s, c, n⟩ = 2) :
    Calls Try.prog 18 #[.agg #[.int .i64 s, .int .i64 c, .int .i64 n]] w fun e w' => e = .returned (.tuple #[.pointer none, .int .i64 2]) ∧ Below w.heap.size w w' := by
  have H := Lib.hid h
  clear h
  go_enter Try.func18, Try.ntmps18
  go_wp2_with fail
  refine (check_any s c n _).mono ?_
  rintro e w1 ⟨rfl, hb1⟩
  rw [H.out]
  have hw : Below w.heap.size w w1 := ((Below.refl _ _).alloc (Nat.le_refl _) _).trans (hb1.mono (by simp))
  clear hb1
  go_wp2_with fail
  go_ret2
  exact ⟨rfl, hw⟩
set_option maxHeartbeats 400000 in
theorem newD_bad (s c n : Int) (w : World) (h : checkE ⟨s, c, n⟩ = 2) :
    Calls Try.prog 19 #[.agg #[.int .i64 s, .int .i64 c, .int .i64 n]] w fun e w' => e = .returned (.tuple #[.pointer none, .int .i64 2]) ∧ Below w.heap.size w w' := by
  have H := Lib.hid h
  clear h
  go_enter Try.func19, Try.ntmps19
  go_wp2_with fail
  refine (rcheck_any s c n _).mono ?_
  rintro e w1 ⟨rfl, hb1⟩
  rw [H.out]
  have hw : Below w.heap.size w w1 := ((Below.refl _ _).alloc (Nat.le_refl _) _).trans (hb1.mono (by simp))
  clear hb1
  go_wp2_with fail
  go_ret2
  exact ⟨rfl, hw⟩
set_option maxHeartbeats 400000 in
theorem newC_ok (s c n : Int) (w : World) (h : checkE ⟨s, c, n⟩ = 0) :
    Calls Try.prog 18 #[.agg #[.int .i64 s, .int .i64 c, .int .i64 n]] w fun e w' => ∃ g, e = .returned (.tuple #[.pointer (some ⟨g, 0, none⟩), .int .i64 0]) ∧ w.heap.size ≤ g ∧ ColC ⟨s, c, n⟩ w' w.heap.size g none 0 [] 0 0 ∧ Below w.heap.size w w' := by
  have H := Lib.hid h
  clear h
  go_enter Try.func18, Try.ntmps18
  go_wp2_with fail
  refine (check_any s c n _).mono ?_
  rintro e w1 ⟨rfl, hb1⟩
  rw [H.out]
  obtain ⟨hc1, hf1⟩ := bcell hb1
  have hz1 := hb1.size
  simp only [World.size_alloc] at hc1 hf1 hz1
  have d0 : w1.cell? ⟨w.heap.size, 0, none⟩ = some (.int .i64 s) := by rw [hc1 _ _ (by omega)]; go_simp
  have d1 : w1.cell? ⟨w.heap.size, 1, none⟩ = some (.int .i64 c) := by rw [hc1 _ _ (by omega)]; go_simp
  have d2 : w1.cell? ⟨w.heap.size, 2, none⟩ = some (.int .i64 n) := by rw [hc1 _ _ (by omega)]; go_simp
  have hw : Below w.heap.size w w1 := ((Below.refl _ _).alloc (Nat.le_refl _) _).trans (hb1.mono (by simp))
  clear hb1 hc1 hf1
  go_wp2_with fail
  go_ret2
  exact ⟨w1.heap.size, rfl, by omega, ⟨heap_alloc_new w1 _, MineInv.nil _ _, by omega, by simp [Value.ownBlock], by simp⟩, hw.alloc (by omega) _⟩
set_option maxHeartbeats 400000 in
theorem newD_ok (s c n : Int) (w : World) (h : checkE ⟨s, c, n⟩ = 0) :
    Calls Try.prog 19 #[.agg #[.int .i64 s, .int .i64 c, .int .i64 n]] w fun e w' => ∃ g, e = .returned (.tuple #[.pointer (some ⟨g, 0, none⟩), .int .i64 0]) ∧ w.heap.size ≤ g ∧ ColD ⟨s, c, n⟩ w' w.heap.size g none 0 [] 0 0 ∧ Below w.heap.size w w' := by
  have H := Lib.hid h
  clear h
  go_enter Try.func19, Try.ntmps19
  go_wp2_with fail
  refine (rcheck_any s c n _).mono ?_
  rintro e w1 ⟨rfl, hb1⟩
  rw [H.out]
  obtain ⟨hc1, hf1⟩ := bcell hb1
  have hz1 := hb1.size
  simp only [World.size_alloc] at hc1 hf1 hz1
  have d0 : w1.cell? ⟨w.heap.size, 0, none⟩ = some (.int .i64 s) := by rw [hc1 _ _ (by omega)]; go_simp
  have d1 : w1.cell? ⟨w.heap.size, 1, none⟩ = some (.int .i64 c) := by rw [hc1 _ _ (by omega)]; go_simp
  have d2 : w1.cell? ⟨w.heap.size, 2, none⟩ = some (.int .i64 n) := by rw [hc1 _ _ (by omega)]; go_simp
  have hw : Below w.heap.size w w1 := ((Below.refl _ _).alloc (Nat.le_refl _) _).trans (hb1.mono (by simp))
  clear hb1 hc1 hf1
  go_wp2_with fail
  go_ret2
  exact ⟨w1.heap.size, rfl, by omega, ⟨heap_alloc_new w1 _, MineInv.nil _ _, by omega, by simp [Value.ownBlock], by simp⟩, hw.alloc (by omega) _⟩

theorem records_out (s c n : Int) (W : World) (d : Nat) (os : Array Obj) :
    Calls Try.prog 31 #[.agg #[.int .i64 s, .int .i64 c, .int .i64 n]] (grow (redrawn W d) os) fun e w' => e = .returned (.agg #[.int .i64 s, .int .i64 c, .func (.func 38) #[] #[]]) ∧ ∃ p : Regrown, w' = grow (redrawn W p.d) p.os :=
  Calls.regrown_of (records_any s c n _)

/-- The collector has taken a record: its row may have moved. -/
theorem Col.push {T : TypeId} {lay : Value → Int → Int → Array Value} {w w2 : World} {base g c c' n i : Nat} {A A' : Option Addr} {xs : List RecX} {x : RecX} {first now : Int} {v' : Value} {o : Obj}
    (h : Col T lay w base g A c xs first now) (hT : T ≠ 39) (hx : BodyAt w w.heap.size x) (hxb : 0 < x.r.body.length → ∀ ad, x.ba = some ad → (Value.slice A xs.length c).ownBlock ≠ some ad.block ∧ ad.block ≠ g) (hn : n = xs.length + 1)
    (hown : w2.ownsRow base 39 10 v' n (xs.flatMap RecX.cells ++ x.cells)) (hg : (w.alloc o).grownBy w2 (Value.slice A xs.length c).ownBlock)
    (hblk : v'.ownBlock = (Value.slice A xs.length c).ownBlock ∨ v'.ownBlock = some (w.alloc o).heap.size) (hv : v' = .slice A' n c')
    (hl : ∀ v'', (lay (.slice A xs.length c) first now).setIfInBounds i v'' = lay v'' first now) :
    Col T lay (w2.setCell ⟨g, i, none⟩ (.slice A' n c')) base g A' c' (xs ++ [x]) first now ∧ Chg (hot g A) w (w2.setCell ⟨g, i, none⟩ (.slice A' n c')) ∧
      (∀ k, foot base g A' (xs ++ [x]) k → foot base g A xs k ∨ w.heap.size ≤ k ∨ (∃ ad, x.ba = some ad ∧ 0 < x.r.body.length ∧ k = ad.block)) := by
  subst hn
  have hm := MineInv.push h.mine hx rfl (fun hp ad ha => (hxb hp ad ha).1) hown hg hblk
  rw [hv] at hm hblk
  have hglt := h.lt
  have hgo : (Value.slice A xs.length c).ownBlock ≠ some g := h.ne
  have hgb : w2.heap[g]? = some (.cells (lay (.slice A xs.length c) first now) T (0, 0)) := by
    rw [hg.block g (by simp; omega) hgo.symm, Below.heap_alloc _ _ _ hglt]
    exact h.blk
  have hne' : (Value.slice A' (xs.length + 1) c').ownBlock ≠ some g := by
    rcases hblk with e | e <;> rw [e]
    · exact hgo
    · simp; omega
  have hbg : ∀ z ∈ xs ++ [x], 0 < z.r.body.length → ∀ ad, z.ba = some ad → ad.block ≠ g := by
    intro z hz hp ad ha
    rcases List.mem_append.1 hz with hz | hz
    · exact h.bg z hz hp ad ha
    · simp only [List.mem_singleton] at hz; subst hz; exact (hxb hp ad ha).2
  have hlen : (xs ++ [x]).length = xs.length + 1 := by simp
  refine ⟨Col.of_store hgb (by rw [hlen]; exact hm) h.hg (by rw [hlen]; exact hne') hbg (by rw [hlen]; exact hl _), ?_, ?_⟩
  · refine ((Chg.refl (hot g A) w).alloc o |>.grown hg (fun k hk _ => .inr (by rw [← own_eq A xs.length c]; exact hk))).setCell (p := ⟨_, _, _⟩) (fun _ => .inl rfl) _
  · have hnew : ∀ k, A'.map (·.block) = some k → A.map (·.block) = some k ∨ w.heap.size ≤ k := by
      intro k hk
      rw [← own_eq A' (xs.length + 1) c'] at hk
      rcases hblk with e | e
      · rw [hk, own_eq] at e; exact .inl e.symm
      · rw [hk] at e; injection e with e; exact .inr (by rw [e]; simp)
    rintro k ((rfl | e) | ⟨hb, ⟨_, ad, ha, rfl⟩ | ⟨z, hz, hp, ad, ha, rfl⟩⟩)
    · exact .inl (.inl (.inl rfl))
    · rcases hnew k e with e | e
      · exact .inl (.inl (.inr e))
      · exact .inr (.inl e)
    · rcases hnew ad.block (by rw [ha]; rfl) with e | e
      · exact .inl (.inl (.inr e))
      · exact .inr (.inl e)
    · rcases List.mem_append.1 hz with hz | hz
      · exact .inl (.inr ⟨hb, .inr ⟨z, hz, hp, ad, ha, rfl⟩⟩)
      · simp only [List.mem_singleton] at hz; subst hz; exact .inr (.inr ⟨ad, ha, hp, rfl⟩)
end Go.Proofs.Ytfgohjoamifpiaa
