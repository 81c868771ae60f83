/- The walks of Add. -/
import Derived.Test.YtfgohjoamifpiaaWE
namespace Go.Proofs.Ytfgohjoamifpiaa
open Go.RowKit
open Go.Sort (grow)

theorem BodyAt.chg {S : Nat → Prop} {w w' : World} {x : RecX} (h : BodyAt w w.heap.size x) (hc : Chg S w w') (hn : 0 < x.r.body.length → ∀ ad, x.ba = some ad → ¬ S ad.block) : BodyAt w' w'.heap.size x :=
  Reads.more (Reads.keepAt' h fun hp ad ha hb _ => hc.cell (p := ⟨_, _, _⟩) hb (hn hp ad ha)) hc.size
theorem Ten0.chg {S : Nat → Prop} {w w' : World} {b : Nat} {x : RecX} (h : Ten0 w b x) (hc : Chg S w w') (hb : b < w.heap.size) (hn : ¬ S b) : Ten0 w' b x :=
  ⟨(hc.cell (p := ⟨_, _, _⟩) hb hn).trans h.c0, (hc.cell (p := ⟨_, _, _⟩) hb hn).trans h.c1, (hc.cell (p := ⟨_, _, _⟩) hb hn).trans h.c2, (hc.cell (p := ⟨_, _, _⟩) hb hn).trans h.c3, (hc.cell (p := ⟨_, _, _⟩) hb hn).trans h.c4,
   (hc.cell (p := ⟨_, _, _⟩) hb hn).trans h.c5, (hc.cell (p := ⟨_, _, _⟩) hb hn).trans h.c6, (hc.cell (p := ⟨_, _, _⟩) hb hn).trans h.c7, (hc.cell (p := ⟨_, _, _⟩) hb hn).trans h.c8, (hc.cell (p := ⟨_, _, _⟩) hb hn).trans h.c9⟩

theorem Col.row_ne {T : TypeId} {lay : Value → Int → Int → Array Value} {w : World} {base g c : Nat} {A : Option Addr} {xs : List RecX} {first now : Int} (h : Col T lay w base g A c xs first now) : ∀ k, rowFoot base A xs k → k ≠ g := by
  rintro k ⟨_, ⟨hn, ad, ha, rfl⟩ | ⟨x, hx, hn, ad, ha, rfl⟩⟩ e
  · exact h.ne (by rw [own_eq, ha]; simp [e])
  · exact h.bg x hx hn ad ha e
/-- Behind the append onto a collector's row, ahead of the store of its value. -/
theorem add_after {T : TypeId} {lay : Value → Int → Int → Array Value} {w w2 : World} {base g c n : Nat} {A : Option Addr} {xs : List RecX} {ys : List Value} {first now : Int} {v' : Value} {o : Obj} (h : Col T lay w base g A c xs first now)
    (hown : w2.ownsRow base 39 10 v' (n + 1) ys) (hg : (w.alloc o).grownBy w2 (Value.slice A xs.length c).ownBlock) :
    (∃ a' c', v' = .slice a' (n + 1) c') ∧ (∀ i, w2.cell? ⟨g, i, none⟩ = w.cell? ⟨g, i, none⟩) ∧ ∀ i, w2.frozen? ⟨g, i, none⟩ = false := by
  have hb : w2.heap[g]? = w.heap[g]? := by
    rw [hg.block g (by have := h.lt; simp; omega) h.ne.symm, Below.heap_alloc _ _ _ h.lt]
  refine ⟨?_, fun i => World.cell?_of_block (w := w) (a := ⟨g, i, none⟩) hb, fun i => ?_⟩
  · rcases hown.2 with ⟨_, h0⟩ | ⟨g', cap', cur, rfl, _⟩
    · omega
    · exact ⟨_, _, rfl⟩
  · rw [World.frozen?_of_block (w := w) (a := ⟨g, i, none⟩) hb]; exact h.frozen i
/-- What Add leaves where the record fits, and where it does not. -/
def AddFit (T : TypeId) (lay : Value → Int → Int → Array Value) (w : World) (base g : Nat) (A : Option Addr) (xs : List RecX) (first n : Int) (x : RecX) (e : Ending) (w' : World) : Prop :=
  ∃ A' c' x', e = .returned (.tuple #[.slice none 0 0, .int .i64 0]) ∧ x'.r = x.r ∧ Col T lay w' base g A' c' (xs ++ [x']) (if xs.isEmpty then n else first) n ∧ Chg (hot g A) w w' ∧ ∀ k, foot base g A' (xs ++ [x']) k → foot base g A xs k ∨ w.heap.size ≤ k ∨ k < base
def AddFull (T : TypeId) (lay : Value → Int → Int → Array Value) (w : World) (base g : Nat) (A : Option Addr) (c : Nat) (xs : List RecX) (n : Int) (x : RecX) (e : Ending) (w' : World) : Prop :=
  ∃ A' c' x', e = .returned (.tuple #[.slice A xs.length c, .int .i64 0]) ∧ x'.r = x.r ∧ Col T lay w' base g A' c' [x'] n n ∧ RecsAt w' w'.heap.size A xs ∧ Chg (fun k => k = g) w w' ∧ ∀ k, foot base g A' [x'] k → k = g ∨ w.heap.size ≤ k ∨ k < base
section
variable {p : Pol} {w : World} {base g c : Nat} {A : Option Addr} {xs : List RecX} {first now : Int}
set_option maxHeartbeats 400000 in
theorem addC_range (n : Int) (x : RecX) (h : ColC p w base g A c xs first now) (hno : n < 0 ∨ 1073741824 < n) : Calls Try.prog 22 #[.pointer (some ⟨g, 0, none⟩), .agg x.cells.toArray, .int .i64 n] w fun e w' => e = .returned (.tuple #[.slice none 0 0, .int .i64 2]) ∧ Below w.heap.size w w' := by
  have k6 : w.cell? ⟨g, 6, none⟩ = some (.bool true) := h.cell 6
  have hg := h.lt
  clear h
  simp only [RecX.cells]
  by_cases h1 : n < 0
  · go_enter Try.func22, Try.ntmps22
    go_wp2
    go_ret2
    exact ⟨rfl, (Below.refl _ _).alloc (Nat.le_refl _) _⟩
  · have h2 : 1073741824 < n := by omega
    clear hno
    go_enter Try.func22, Try.ntmps22
    go_wp2
    go_ret2
    exact ⟨rfl, (Below.refl _ _).alloc (Nat.le_refl _) _⟩
set_option maxHeartbeats 400000 in
theorem addC_order (n : Int) (x : RecX) (h : ColC p w base g A c xs first now) (h1 : 0 ≤ n) (h2 : n ≤ 1073741824) (h3 : n < now) : Calls Try.prog 22 #[.pointer (some ⟨g, 0, none⟩), .agg x.cells.toArray, .int .i64 n] w fun e w' => e = .returned (.tuple #[.slice none 0 0, .int .i64 11]) ∧ Below w.heap.size w w' := by
  have k6 : w.cell? ⟨g, 6, none⟩ = some (.bool true) := h.cell 6
  have k5 : w.cell? ⟨g, 5, none⟩ = some (.int .i64 now) := h.cell 5
  have hg := h.lt
  clear h
  simp only [RecX.cells]
  go_enter Try.func22, Try.ntmps22
  go_wp2
  go_ret2
  exact ⟨rfl, (Below.refl _ _).alloc (Nat.le_refl _) _⟩
set_option maxHeartbeats 1600000 in
theorem addC_full (n : Int) (x : RecX) (h : ColC p w base g A c xs first now) (h1 : 0 ≤ n) (h2 : n ≤ 1073741824) (h3 : now ≤ n) (hF : fitsB p.size p.cells xs x = false) (hb : sumBody xs + x.r.body.length ≤ 1000000) (hn : xs.length ≤ 1000000)
    (hxb : BodyAt w w.heap.size x) (hx0 : 0 < x.r.body.length → ∀ ad, x.ba = some ad → ¬ hot g A ad.block) :
    Calls Try.prog 22 #[.pointer (some ⟨g, 0, none⟩), .agg x.cells.toArray, .int .i64 n] w fun e w' => AddFull 61 (layC p) w base g A c xs n x e w' := by
  have hbk : x.r.body.length ≤ 1000000 := by omega
  have k6 : w.cell? ⟨g, 6, none⟩ = some (.bool true) := h.cell 6
  have k5 : w.cell? ⟨g, 5, none⟩ = some (.int .i64 now) := h.cell 5
  have f5 : w.frozen? ⟨g, 5, none⟩ = false := h.frozen 5
  have hg := h.lt
  have hne : w.heap.size ≠ g := by omega
  obtain ⟨i1, hi1, hy0, hy1, hy2⟩ := info_parts info39
  have HRNE := Lib.hid h.row_ne
  have b1 : decide (n < 0) = false := by simp; omega
  have b2 : decide (1073741824 < n) = false := by simp; omega
  have b3 : decide (n < now) = false := by simp; omega
  have hs0 := h.store 5 (.int .i64 n) (first' := first) (now' := n) rfl
  have hch0 : Chg (fun k => k = g) w (w.setCell ⟨g, 5, none⟩ (.int .i64 n)) := Chg.setCell (S := fun k => k = g) (Chg.refl _ _) (p := ⟨g, 5, none⟩) (fun _ => rfl) _
  have hz0 : (w.setCell ⟨g, 5, none⟩ (.int .i64 n)).heap.size = w.heap.size := by simp [World.setCell]
  have hs1 := hs0.below ((Below.refl _ _).alloc (Nat.le_refl _) (.cells x.cells.toArray 39))
  have hch1 := hch0.alloc (.cells x.cells.toArray 39)
  have hT1 := ten0_new (w.setCell ⟨g, 5, none⟩ (.int .i64 n)) x 39
  rw [hz0] at hT1
  have hz1 : w.heap.size < ((w.setCell ⟨g, 5, none⟩ (.int .i64 n)).alloc (.cells x.cells.toArray 39)).heap.size := by simp [World.setCell]
  clear hs0 hch0 hz0
  have HS1 := Lib.hid hs1
  have HC1 := Lib.hid hch1
  have HT1 := Lib.hid hT1
  have HZ1 := Lib.hid hz1
  clear h hs1 hch1 hT1 hz1
  simp only [RecX.cells]
  simp only [RecX.cells] at HS1 HC1 HT1 HZ1
  go_enter Try.func22, Try.ntmps22
  go_wp2_with fail
  generalize hW : World.alloc (World.setCell w _ _) _ = W at *
  have hs1 := HS1.out
  have hz1 := HZ1.out
  have hch1 := HC1.out
  clear hW HS1 HZ1
  obtain ⟨t0, t1, t2, t3, t4, t5, t6, t7, t8, t9⟩ := HT1.out
  have j0 : W.cell? ⟨g, 0, none⟩ = some (.int .i64 p.size) := hs1.cell 0
  have j1 : W.cell? ⟨g, 1, none⟩ = some (.int .i64 p.cells) := hs1.cell 1
  have j2 : W.cell? ⟨g, 2, none⟩ = some (.int .i64 p.window) := hs1.cell 2
  have j3 : W.cell? ⟨g, 3, none⟩ = some (.slice A xs.length c) := hs1.cell 3
  have hgW : g < W.heap.size := hs1.lt
  have HO := Lib.hid hs1.recs
  have HCH := Lib.hid hch1
  have HS := Lib.hid hs1
  clear hs1 hch1 k5 k6 f5
  refine wp_region_quiet_below (by kernel_rfl) (by kernel_rfl) ?_
  repeat (go_big_quiet_step ((first | (go_at_call 31; go_must (exact records_out p.size p.cells p.window W _ _)) | (go_at_call 36; go_must (exact fits_out p.size p.cells A c xs x W _ _ HO.out hb hn)))))
  refine wpQuiet_nil ?_
  intro _ hw'
  obtain ⟨⟨dq, osq⟩, hw''⟩ := hw'
  subst hw''
  have hbq := below_regrown W dq osq
  generalize grow (redrawn W dq) osq = W2 at *
  have hs2 := HS.out.below hbq
  have hch2 := HCH.out.below hbq
  have hT2 := HT1.out.below hbq hz1
  have hz2 : w.heap.size < W2.heap.size := Nat.lt_of_lt_of_le hz1 hbq.size
  clear t0 t1 t2 t3 t4 t5 t6 t7 t8 t9 j0 j1 j2 j3 HO HCH HS HC1 HT1 hgW hz1
  have HT2 := Lib.hid hT2
  clear hT2
  go_wp2_with fail
  refine (take_any hs2 hn).mono ?_
  rintro e w3 ⟨rfl, rfl⟩
  obtain ⟨hs3, hr3⟩ := hs2.empty 3 rfl
  have hch3 : Chg (fun k => k = g) w (W2.setCell ⟨g, 3, none⟩ (.slice none 0 0)) := hch2.setCell (p := ⟨g, 3, none⟩) (fun _ => rfl) _
  have hT3 : Ten0 (W2.setCell ⟨g, 3, none⟩ (.slice none 0 0)) w.heap.size x := HT2.out.chg (S := fun k => k = g) (Chg.setCell (S := fun k => k = g) (Chg.refl _ _) (p := ⟨g, 3, none⟩) (fun _ => rfl) _) hz2 hne
  have hz3 : w.heap.size < (W2.setCell ⟨g, 3, none⟩ (.slice none 0 0)).heap.size := by simpa [World.setCell] using hz2
  clear hs2 hch2 HT2 hz2 hbq
  generalize W2.setCell ⟨g, 3, none⟩ (.slice none 0 0) = W3 at *
  have j3 : W3.cell? ⟨g, 3, none⟩ = some (.slice none 0 0) := hs3.cell 3
  have j4 : W3.cell? ⟨g, 4, none⟩ = some (.int .i64 first) := hs3.cell 4
  have j5 : W3.frozen? ⟨g, 4, none⟩ = false := hs3.frozen 4
  have hsk := hs3.store 4 (.int .i64 n) (first' := n) (now' := n) rfl
  have chk : Chg (fun k => k = g) w (W3.setCell ⟨g, 4, none⟩ (.int .i64 n)) := hch3.setCell (p := ⟨g, 4, none⟩) (fun _ => rfl) _
  have hTk : Ten0 (W3.setCell ⟨g, 4, none⟩ (.int .i64 n)) w.heap.size x := hT3.chg (S := fun k => k = g) (Chg.setCell (S := fun k => k = g) (Chg.refl _ _) (p := ⟨g, 4, none⟩) (fun _ => rfl) _) hz3 hne
  have hrk : RecsAt (W3.setCell ⟨g, 4, none⟩ (.int .i64 n)) (W3.setCell ⟨g, 4, none⟩ (.int .i64 n)).heap.size A xs := RecsAt.chg (S := fun k => k = g) (base := base) hr3 (Chg.setCell (S := fun k => k = g) (Chg.refl _ _) (p := ⟨g, 4, none⟩) (fun _ => rfl) _) (fun k e => by subst e; exact hs3.hg) (fun k hk e => by subst e; exact HRNE.out _ hk rfl)
  have HK := Lib.hid (And.intro hsk (And.intro chk (And.intro hTk hrk)))
  clear hsk chk hTk hrk hs3 hr3 hch3 hT3
  go_wp2_with fail
  obtain ⟨hsk, chk, hTk, hrk⟩ := HK.out
  have HRK := Lib.hid hrk
  clear HK hrk j3 j4 j5 hz3
  generalize World.setCell W3 _ _ = Wk at *
  have hB := (hxb.chg chk (fun hp ad ha hh => hx0 hp ad ha (.inl hh))).chg (S := fun _ => False) (w' := Wk.drew) (Chg.of_below (Below.refl _ _).drew) (fun _ _ _ h => h)
  have HB := Lib.hid hB
  have HSK := Lib.hid (hsk.below (Below.refl _ _).drew)
  have HCK := Lib.hid (chk.below (Below.refl Wk.heap.size Wk).drew)
  have HTK := Lib.hid hTk
  have k3 : Wk.cell? ⟨g, 3, none⟩ = some (.slice none 0 0) := hsk.cell 3
  have hzk : w.heap.size ≤ Wk.heap.size := chk.size
  obtain ⟨t0, t1, t2, t3, t4, t5, t6, t7, t8, t9⟩ := hTk
  clear hB hsk chk
  go_wp2_with fail
  go_region_law (first
    | (refine step_append_any _ rfl (.tmp 65) (.tmp 68) 24 rfl base 39 i1 _ 10 136 Try.underlying24 hi1 hy0 hy1 hy2 rfl (by decide) (.slice none 0 0) 0 _ (by simp [Act.eval]) (HS5.out.mine.row.alloc _) (w1.heap.size + 1) (some ⟨w1.heap.size, 0, none⟩) 1 1 x'.cells (by simp [Act.eval]) ⟨rfl, fun _ => ⟨_, _, rfl, by omega, fun j u hu => by have := cells_new_at (w := w1) (e := 39) (g := w1.heap.size) rfl j u hu; rwa [Addr.add_lit] at this⟩⟩ (RecX.oneCell _) (by simp [maxLen]) (by omega) (by have := HS5.out.hg; have := HS5.out.lt; simp; omega) ?_; intro v' w2 hown hgr hblk; have HA := Lib.hid (add_after HS5.out hown hgr); obtain ⟨⟨a3, c3, hv3⟩, hc3, hf3⟩ := HA.out; rw [hv3])
    | (go_simp; go_at_call 30; go_must (refine (own_any x _ HB.out hbk).mono ?_); rintro e w1 ⟨x', hxr, rfl, hxb', hxf, hb5⟩; have HS5 := Lib.hid (HSK.out.below hb5); have hgl : g < w1.heap.size := HS5.out.lt; have HC5 := Lib.hid (HCK.out.below hb5); have k3' : w1.cell? ⟨g, 3, none⟩ = some (.slice none 0 0) := HS5.out.cell 3; have hz5 : Wk.heap.size ≤ w1.heap.size := hb5.size; have HX := Lib.hid (And.intro hxr (And.intro hxb' (And.intro hxf hb5))); clear hxr hxb' hxf hb5; simp only [RecX.cells]))
  all_goals
    have HV := Lib.hid hv3
    clear hv3
    go_wp2
    go_ret2
    have hxf := HX.out.2.2.1
    have hP := Col.push HS5.out (by decide) HX.out.2.1 (fun hp ad ha => ⟨fun e => by have h1 := hxf ad ha; have h2 := (HSK.out.mine.row.lt _ e).2; simp at h1 h2; omega, fun e => by have h1 := hxf ad ha; have h2 := HSK.out.lt; simp at h1 h2; omega⟩) rfl hown hgr hblk HV.out (fun _ => rfl) (i := 3)
    have hbig : Below Wk.heap.size Wk w1 := (Below.refl Wk.heap.size Wk).drew.trans HX.out.2.2.2
    refine ⟨a3, c3, x', rfl, HX.out.1, hP.1, ?_, ?_, ?_⟩
    · refine RecsAt.chg (S := hot g none) (base := base) ⟨Reads.more (HRK.out.1.below hbig) hbig.size, fun z hz => Reads.more (Reads.below (HRK.out.2 z hz) hbig) hbig.size⟩ hP.2.1 HS5.out.hot_ge ?_
      rintro k hk (e | e)
      · exact HRNE.out k hk e
      · simp at e
    · exact HC5.out.trans hP.2.1 (fun k _ hk => by rcases hk with e | e; exact e; simp at e)
    · intro k hk
      rcases hP.2.2 k hk with h | h | ⟨ad, ha, _, rfl⟩
      · rcases h with (e | e) | ⟨_, ⟨h0, _⟩ | ⟨z, hz, _⟩⟩
        · exact .inl e
        · simp at e
        · simp at h0
        · simp at hz
      · exact .inr (.inl (by omega))
      · have := hxf ad ha; simp at this; exact .inr (.inl (by omega))
set_option maxHeartbeats 1600000 in
theorem addC_fit (n : Int) (x : RecX) (h : ColC p w base g A c xs first now) (h1 : 0 ≤ n) (h2 : n ≤ 1073741824) (h3 : now ≤ n) (hF : fitsB p.size p.cells xs x = true) (hb : sumBody xs + x.r.body.length ≤ 1000000) (hn : xs.length ≤ 1000000)
    (hxb : BodyAt w w.heap.size x) (hx0 : 0 < x.r.body.length → ∀ ad, x.ba = some ad → ¬ hot g A ad.block) :
    Calls Try.prog 22 #[.pointer (some ⟨g, 0, none⟩), .agg x.cells.toArray, .int .i64 n] w fun e w' => AddFit 61 (layC p) w base g A xs first n x e w' := by
  have hbk : x.r.body.length ≤ 1000000 := by omega
  have k6 : w.cell? ⟨g, 6, none⟩ = some (.bool true) := h.cell 6
  have k5 : w.cell? ⟨g, 5, none⟩ = some (.int .i64 now) := h.cell 5
  have f5 : w.frozen? ⟨g, 5, none⟩ = false := h.frozen 5
  have hg := h.lt
  have hne : w.heap.size ≠ g := by omega
  obtain ⟨i1, hi1, hy0, hy1, hy2⟩ := info_parts info39
  have HRNE := Lib.hid h.row_ne
  have b1 : decide (n < 0) = false := by simp; omega
  have b2 : decide (1073741824 < n) = false := by simp; omega
  have b3 : decide (n < now) = false := by simp; omega
  have hs0 := h.store 5 (.int .i64 n) (first' := first) (now' := n) rfl
  have hch0 : Chg (fun k => k = g) w (w.setCell ⟨g, 5, none⟩ (.int .i64 n)) := Chg.setCell (S := fun k => k = g) (Chg.refl _ _) (p := ⟨g, 5, none⟩) (fun _ => rfl) _
  have hz0 : (w.setCell ⟨g, 5, none⟩ (.int .i64 n)).heap.size = w.heap.size := by simp [World.setCell]
  have hs1 := hs0.below ((Below.refl _ _).alloc (Nat.le_refl _) (.cells x.cells.toArray 39))
  have hch1 := hch0.alloc (.cells x.cells.toArray 39)
  have hT1 := ten0_new (w.setCell ⟨g, 5, none⟩ (.int .i64 n)) x 39
  rw [hz0] at hT1
  have hz1 : w.heap.size < ((w.setCell ⟨g, 5, none⟩ (.int .i64 n)).alloc (.cells x.cells.toArray 39)).heap.size := by simp [World.setCell]
  clear hs0 hch0 hz0
  have HS1 := Lib.hid hs1
  have HC1 := Lib.hid hch1
  have HT1 := Lib.hid hT1
  have HZ1 := Lib.hid hz1
  clear h hs1 hch1 hT1 hz1
  simp only [RecX.cells]
  simp only [RecX.cells] at HS1 HC1 HT1 HZ1
  go_enter Try.func22, Try.ntmps22
  go_wp2_with fail
  generalize hW : World.alloc (World.setCell w _ _) _ = W at *
  have hs1 := HS1.out
  have hz1 := HZ1.out
  have hch1 := HC1.out
  clear hW HS1 HZ1
  obtain ⟨t0, t1, t2, t3, t4, t5, t6, t7, t8, t9⟩ := HT1.out
  have j0 : W.cell? ⟨g, 0, none⟩ = some (.int .i64 p.size) := hs1.cell 0
  have j1 : W.cell? ⟨g, 1, none⟩ = some (.int .i64 p.cells) := hs1.cell 1
  have j2 : W.cell? ⟨g, 2, none⟩ = some (.int .i64 p.window) := hs1.cell 2
  have j3 : W.cell? ⟨g, 3, none⟩ = some (.slice A xs.length c) := hs1.cell 3
  have hgW : g < W.heap.size := hs1.lt
  have HO := Lib.hid hs1.recs
  have HCH := Lib.hid hch1
  have HS := Lib.hid hs1
  clear hs1 hch1 k5 k6 f5
  refine wp_region_quiet_below (by kernel_rfl) (by kernel_rfl) ?_
  repeat (go_big_quiet_step ((first | (go_at_call 31; go_must (exact records_out p.size p.cells p.window W _ _)) | (go_at_call 36; go_must (exact fits_out p.size p.cells A c xs x W _ _ HO.out hb hn)))))
  refine wpQuiet_nil ?_
  intro _ hw'
  obtain ⟨⟨dq, osq⟩, hw''⟩ := hw'
  subst hw''
  have hbq := below_regrown W dq osq
  generalize grow (redrawn W dq) osq = W2 at *
  have hs2 := HS.out.below hbq
  have hch2 := HCH.out.below hbq
  have hT2 := HT1.out.below hbq hz1
  have hz2 : w.heap.size < W2.heap.size := Nat.lt_of_lt_of_le hz1 hbq.size
  clear t0 t1 t2 t3 t4 t5 t6 t7 t8 t9 j0 j1 j2 j3 HO HCH HS HC1 HT1 hgW hz1
  have HT2 := Lib.hid hT2
  clear hT2
  cases xs with
  | nil =>
    have j3 : W2.cell? ⟨g, 3, none⟩ = some (.slice A 0 c) := hs2.cell 3
    have j4 : W2.cell? ⟨g, 4, none⟩ = some (.int .i64 first) := hs2.cell 4
    have j5 : W2.frozen? ⟨g, 4, none⟩ = false := hs2.frozen 4
    have hsk := hs2.store 4 (.int .i64 n) (first' := n) (now' := n) rfl
    have chk : Chg (fun k => k = g) w (W2.setCell ⟨g, 4, none⟩ (.int .i64 n)) := hch2.setCell (p := ⟨g, 4, none⟩) (fun _ => rfl) _
    have hTk : Ten0 (W2.setCell ⟨g, 4, none⟩ (.int .i64 n)) w.heap.size x := HT2.out.chg (S := fun k => k = g) (Chg.setCell (S := fun k => k = g) (Chg.refl _ _) (p := ⟨g, 4, none⟩) (fun _ => rfl) _) hz2 hne
    have HK := Lib.hid (And.intro hsk (And.intro chk hTk))
    clear hsk chk hTk hs2 hch2 HT2 hbq
    go_wp2_with fail
    obtain ⟨hsk, chk, hTk⟩ := HK.out
    clear HK j3 j4 j5 hz2
    generalize World.setCell W2 _ _ = Wk at *
    have hB := (hxb.chg chk (fun hp ad ha hh => hx0 hp ad ha (.inl hh))).chg (S := fun _ => False) (w' := Wk.drew) (Chg.of_below (Below.refl _ _).drew) (fun _ _ _ h => h)
    have HB := Lib.hid hB
    have HSK := Lib.hid (hsk.below (Below.refl _ _).drew)
    have HCK := Lib.hid (chk.below (Below.refl Wk.heap.size Wk).drew)
    have HTK := Lib.hid hTk
    have k3 : Wk.cell? ⟨g, 3, none⟩ = some (.slice A 0 c) := hsk.cell 3
    have hzk : w.heap.size ≤ Wk.heap.size := chk.size
    obtain ⟨t0, t1, t2, t3, t4, t5, t6, t7, t8, t9⟩ := hTk
    clear hB hsk chk
    go_wp2_with fail
    go_region_law (first
      | (refine step_append_any _ rfl (.tmp 65) (.tmp 68) 24 rfl base 39 i1 _ 10 136 Try.underlying24 hi1 hy0 hy1 hy2 rfl (by decide) (.slice A 0 c) 0 _ (by simp [Act.eval]) (HS5.out.mine.row.alloc _) (w1.heap.size + 1) (some ⟨w1.heap.size, 0, none⟩) 1 1 x'.cells (by simp [Act.eval]) ⟨rfl, fun _ => ⟨_, _, rfl, by omega, fun j u hu => by have := cells_new_at (w := w1) (e := 39) (g := w1.heap.size) rfl j u hu; rwa [Addr.add_lit] at this⟩⟩ (RecX.oneCell _) (by simp [maxLen]) (by omega) (by have := HS5.out.hg; have := HS5.out.lt; simp; omega) ?_; intro v' w2 hown hgr hblk; have HA := Lib.hid (add_after HS5.out hown hgr); obtain ⟨⟨a3, c3, hv3⟩, hc3, hf3⟩ := HA.out; rw [hv3])
      | (go_simp; go_at_call 30; go_must (refine (own_any x _ HB.out hbk).mono ?_); rintro e w1 ⟨x', hxr, rfl, hxb', hxf, hb5⟩; have HS5 := Lib.hid (HSK.out.below hb5); have hgl : g < w1.heap.size := HS5.out.lt; have HC5 := Lib.hid (HCK.out.below hb5); have k3' : w1.cell? ⟨g, 3, none⟩ = some (.slice A 0 c) := HS5.out.cell 3; have hz5 : Wk.heap.size ≤ w1.heap.size := hb5.size; have HX := Lib.hid (And.intro hxr (And.intro hxb' (And.intro hxf hb5))); clear hxr hxb' hxf hb5; simp only [RecX.cells]))
    all_goals
      have HV := Lib.hid hv3
      clear hv3
      go_wp2
      go_ret2
      have hxf := HX.out.2.2.1
      have hP := Col.push HS5.out (by decide) HX.out.2.1 (fun hp ad ha => ⟨fun e => by have h1 := hxf ad ha; have h2 := (HSK.out.mine.row.lt _ e).2; simp at h1 h2; omega, fun e => by have h1 := hxf ad ha; have h2 := HSK.out.lt; simp at h1 h2; omega⟩) rfl hown hgr hblk HV.out (fun _ => rfl) (i := 3)
      have hbig : Below Wk.heap.size Wk w1 := (Below.refl Wk.heap.size Wk).drew.trans HX.out.2.2.2
      refine ⟨a3, c3, x', rfl, HX.out.1, hP.1, ?_, ?_⟩
      · exact (HC5.out.mono (fun k (e : k = g) => .inl e)).trans hP.2.1 (fun k _ hk => hk)
      · intro k hk
        rcases hP.2.2 k hk with h | h | ⟨ad, ha, _, rfl⟩
        · exact .inl h
        · exact .inr (.inl (by omega))
        · have := hxf ad ha; simp at this; exact .inr (.inl (by omega))
  | cons z zs =>
    have hl : (z :: zs).length = zs.length + 1 := rfl
    have g0 : ((zs.length : Int) + 1 == 0) = false := beq_eq_false_iff_ne.2 (by omega)
    have HS2 := Lib.hid hs2
    have HCH2 := Lib.hid hch2
    have j3 : W2.cell? ⟨g, 3, none⟩ = some (.slice A (zs.length + 1) c) := hs2.cell 3
    rw [hl] at hn
    clear hl hs2 hch2 hbq
    go_wp2_with fail
    have hsk := HS2.out
    have chk := HCH2.out
    have hTk := HT2.out
    clear j3 hz2 HS2 HCH2
    generalize W2 = Wk at *
    have hB := (hxb.chg chk (fun hp ad ha hh => hx0 hp ad ha (.inl hh))).chg (S := fun _ => False) (w' := Wk.drew) (Chg.of_below (Below.refl _ _).drew) (fun _ _ _ h => h)
    have HB := Lib.hid hB
    have HSK := Lib.hid (hsk.below (Below.refl _ _).drew)
    have HCK := Lib.hid (chk.below (Below.refl Wk.heap.size Wk).drew)
    have HTK := Lib.hid hTk
    have k3 : Wk.cell? ⟨g, 3, none⟩ = some (.slice A (zs.length + 1) c) := hsk.cell 3
    have hzk : w.heap.size ≤ Wk.heap.size := chk.size
    obtain ⟨t0, t1, t2, t3, t4, t5, t6, t7, t8, t9⟩ := hTk
    clear hB hsk chk
    go_wp2_with fail
    go_region_law (first
      | (refine step_append_any _ rfl (.tmp 65) (.tmp 68) 24 rfl base 39 i1 _ 10 136 Try.underlying24 hi1 hy0 hy1 hy2 rfl (by decide) (.slice A (zs.length + 1) c) (zs.length + 1) _ (by simp [Act.eval]) (HS5.out.mine.row.alloc _) (w1.heap.size + 1) (some ⟨w1.heap.size, 0, none⟩) 1 1 x'.cells (by simp [Act.eval]) ⟨rfl, fun _ => ⟨_, _, rfl, by omega, fun j u hu => by have := cells_new_at (w := w1) (e := 39) (g := w1.heap.size) rfl j u hu; rwa [Addr.add_lit] at this⟩⟩ (RecX.oneCell _) (by simp [maxLen]; omega) (by omega) (by have := HS5.out.hg; have := HS5.out.lt; simp; omega) ?_; intro v' w2 hown hgr hblk; have HA := Lib.hid (add_after HS5.out hown hgr); obtain ⟨⟨a3, c3, hv3⟩, hc3, hf3⟩ := HA.out; rw [hv3])
      | (go_simp; go_at_call 30; go_must (refine (own_any x _ HB.out hbk).mono ?_); rintro e w1 ⟨x', hxr, rfl, hxb', hxf, hb5⟩; have HS5 := Lib.hid (HSK.out.below hb5); have hgl : g < w1.heap.size := HS5.out.lt; have HC5 := Lib.hid (HCK.out.below hb5); have k3' : w1.cell? ⟨g, 3, none⟩ = some (.slice A (zs.length + 1) c) := HS5.out.cell 3; have hz5 : Wk.heap.size ≤ w1.heap.size := hb5.size; have HX := Lib.hid (And.intro hxr (And.intro hxb' (And.intro hxf hb5))); clear hxr hxb' hxf hb5; simp only [RecX.cells]))
    all_goals
      have HV := Lib.hid hv3
      clear hv3
      go_wp2
      go_ret2
      have hxf := HX.out.2.2.1
      have hP := Col.push HS5.out (by decide) HX.out.2.1 (fun hp ad ha => ⟨fun e => by have h1 := hxf ad ha; have h2 := (HSK.out.mine.row.lt _ e).2; simp at h1 h2; omega, fun e => by have h1 := hxf ad ha; have h2 := HSK.out.lt; simp at h1 h2; omega⟩) rfl hown hgr hblk HV.out (fun _ => rfl) (i := 3)
      have hbig : Below Wk.heap.size Wk w1 := (Below.refl Wk.heap.size Wk).drew.trans HX.out.2.2.2
      refine ⟨a3, c3, x', rfl, HX.out.1, hP.1, ?_, ?_⟩
      · exact (HC5.out.mono (fun k (e : k = g) => .inl e)).trans hP.2.1 (fun k _ hk => hk)
      · intro k hk
        rcases hP.2.2 k hk with h | h | ⟨ad, ha, _, rfl⟩
        · exact .inl h
        · exact .inr (.inl (by omega))
        · have := hxf ad ha; simp at this; exact .inr (.inl (by omega))
end
end Go.Proofs.Ytfgohjoamifpiaa
