/- The walks of the reference's Add. -/
import Derived.Test.YtfgohjoamifpiaaWL
namespace Go.Proofs.Ytfgohjoamifpiaa
open Go.RowKit
open Go.Sort (grow)

section
variable {p : Pol} {w : World} {base g c : Nat} {A : Option Addr} {xs : List RecX} {first now : Int}
set_option maxHeartbeats 400000 in
theorem addD_range (n : Int) (x : RecX) (h : ColD p w base g A c xs first now) (hno : n < 0 ∨ 1073741824 < n) : Calls Try.prog 23 #[.pointer (some ⟨g, 0, none⟩), .agg x.cells.toArray, .int .i64 n] w fun e w' => e = .returned (.tuple #[.slice none 0 0, .int .i64 2]) ∧ Below w.heap.size w w' := by
  have k6 : w.cell? ⟨g, 0, none⟩ = some (.bool true) := h.cell 0
  have hg := h.lt
  clear h
  simp only [RecX.cells]
  by_cases h1 : n < 0
  · go_enter Try.func23, Try.ntmps23
    go_wp2
    go_ret2
    exact ⟨rfl, (Below.refl _ _).alloc (Nat.le_refl _) _⟩
  · have h2 : 1073741824 < n := by omega
    clear hno
    go_enter Try.func23, Try.ntmps23
    go_wp2
    go_ret2
    exact ⟨rfl, (Below.refl _ _).alloc (Nat.le_refl _) _⟩
set_option maxHeartbeats 400000 in
theorem addD_order (n : Int) (x : RecX) (h : ColD p w base g A c xs first now) (h1 : 0 ≤ n) (h2 : n ≤ 1073741824) (h3 : n < now) : Calls Try.prog 23 #[.pointer (some ⟨g, 0, none⟩), .agg x.cells.toArray, .int .i64 n] w fun e w' => e = .returned (.tuple #[.slice none 0 0, .int .i64 11]) ∧ Below w.heap.size w w' := by
  have k6 : w.cell? ⟨g, 0, none⟩ = some (.bool true) := h.cell 0
  have k5 : w.cell? ⟨g, 4, none⟩ = some (.int .i64 now) := h.cell 4
  have hg := h.lt
  clear h
  simp only [RecX.cells]
  go_enter Try.func23, Try.ntmps23
  go_wp2
  go_ret2
  exact ⟨rfl, (Below.refl _ _).alloc (Nat.le_refl _) _⟩
set_option maxHeartbeats 1600000 in
theorem addD_full (n : Int) (x : RecX) (h : ColD p w base g A c xs first now) (h1 : 0 ≤ n) (h2 : n ≤ 1073741824) (h3 : now ≤ n) (hF : fitsB p.size p.cells xs x = false) (hb : sumBody xs + x.r.body.length ≤ 1000000) (hn : xs.length ≤ 1000000)
    (hxb : BodyAt w w.heap.size x) (hx0 : 0 < x.r.body.length → ∀ ad, x.ba = some ad → ad.block < base) :
    Calls Try.prog 23 #[.pointer (some ⟨g, 0, none⟩), .agg x.cells.toArray, .int .i64 n] w fun e w' => AddFull 73 (layD p) w base g A c xs n x e w' := by
  have k6 : w.cell? ⟨g, 0, none⟩ = some (.bool true) := h.cell 0
  have k5 : w.cell? ⟨g, 4, none⟩ = some (.int .i64 now) := h.cell 4
  have f5 : w.frozen? ⟨g, 4, none⟩ = false := h.frozen 4
  have hg := h.lt
  have hgb := h.hg
  have hne : w.heap.size ≠ g := by omega
  obtain ⟨i1, hi1, hy0, hy1, hy2⟩ := info_parts info39
  have HRNE := Lib.hid h.row_ne
  have b1 : decide (n < 0) = false := by simp; omega
  have b2 : decide (1073741824 < n) = false := by simp; omega
  have b3 : decide (n < now) = false := by simp; omega
  have hs0 := h.store 4 (.int .i64 n) (first' := first) (now' := n) rfl
  have hch0 : Chg (fun k => k = g) w (w.setCell ⟨g, 4, none⟩ (.int .i64 n)) := Chg.setCell (S := fun k => k = g) (Chg.refl _ _) (p := ⟨g, 4, none⟩) (fun _ => rfl) _
  have hz0 : (w.setCell ⟨g, 4, none⟩ (.int .i64 n)).heap.size = w.heap.size := by simp [World.setCell]
  have hs1 := hs0.below ((Below.refl _ _).alloc (Nat.le_refl _) (.cells x.cells.toArray 39))
  have hch1 := hch0.alloc (.cells x.cells.toArray 39)
  have hT1 := ten0_new (w.setCell ⟨g, 4, none⟩ (.int .i64 n)) x 39
  rw [hz0] at hT1
  have hz1 : w.heap.size < ((w.setCell ⟨g, 4, none⟩ (.int .i64 n)).alloc (.cells x.cells.toArray 39)).heap.size := by simp [World.setCell]
  clear hs0 hch0 hz0
  have HS1 := Lib.hid hs1
  have HC1 := Lib.hid hch1
  have HT1 := Lib.hid hT1
  have HZ1 := Lib.hid hz1
  clear h hs1 hch1 hT1 hz1
  simp only [RecX.cells]
  simp only [RecX.cells] at HS1 HC1 HT1 HZ1
  go_enter Try.func23, Try.ntmps23
  go_wp2_with fail
  generalize hW : World.alloc (World.setCell w _ _) _ = W at *
  have hs1 := HS1.out
  have hz1 := HZ1.out
  have hch1 := HC1.out
  clear hW HS1 HZ1
  obtain ⟨t0, t1, t2, t3, t4, t5, t6, t7, t8, t9⟩ := HT1.out
  have j0 : W.cell? ⟨g, 1, none⟩ = some (.int .i64 p.size) := hs1.cell 1
  have j1 : W.cell? ⟨g, 2, none⟩ = some (.int .i64 p.cells) := hs1.cell 2
  have j2 : W.cell? ⟨g, 3, none⟩ = some (.int .i64 p.window) := hs1.cell 3
  have j3 : W.cell? ⟨g, 6, none⟩ = some (.slice A xs.length c) := hs1.cell 6
  have hgW : g < W.heap.size := hs1.lt
  have HO := Lib.hid hs1.recs
  have HCH := Lib.hid hch1
  have HS := Lib.hid hs1
  clear hs1 hch1 k5 k6 f5
  refine wp_region_quiet_below (by kernel_rfl) (by kernel_rfl) ?_
  repeat (go_big_quiet_step ((go_at_call 33; go_must (exact rfits_out p.size p.cells p.window A c xs x W _ _ HO.out hb hn))))
  refine wpQuiet_nil ?_
  intro _ hw'
  obtain ⟨⟨dq, osq⟩, hw''⟩ := hw'
  subst hw''
  have hbq := below_regrown W dq osq
  generalize grow (redrawn W dq) osq = W2 at *
  have hs2 := HS.out.below hbq
  have hch2 := HCH.out.below hbq
  have hT2 := HT1.out.below hbq hz1
  have hz2 : w.heap.size < W2.heap.size := Nat.lt_of_lt_of_le hz1 hbq.size
  clear t0 t1 t2 t3 t4 t5 t6 t7 t8 t9 j0 j1 j2 j3 HO HCH HS HC1 HT1 hgW hz1
  have HT2 := Lib.hid hT2
  clear hT2
  have j3 : W2.cell? ⟨g, 6, none⟩ = some (.slice A xs.length c) := hs2.cell 6
  have j4 : W2.cell? ⟨g, 5, none⟩ = some (.int .i64 first) := hs2.cell 5
  have f3 : W2.frozen? ⟨g, 6, none⟩ = false := hs2.frozen 6
  have f4 : W2.frozen? ⟨g, 5, none⟩ = false := hs2.frozen 5
  obtain ⟨hs3, hr3⟩ := hs2.empty 6 rfl
  have hch3 : Chg (fun k => k = g) w (W2.setCell ⟨g, 6, none⟩ (.slice none 0 0)) := hch2.setCell (p := ⟨g, 6, none⟩) (fun _ => rfl) _
  have hT3 : Ten0 (W2.setCell ⟨g, 6, none⟩ (.slice none 0 0)) w.heap.size x := HT2.out.chg (S := fun k => k = g) (Chg.setCell (S := fun k => k = g) (Chg.refl _ _) (p := ⟨g, 6, none⟩) (fun _ => rfl) _) hz2 hne
  have hz3 : w.heap.size < (W2.setCell ⟨g, 6, none⟩ (.slice none 0 0)).heap.size := by simpa [World.setCell] using hz2
  have hsk := hs3.store 5 (.int .i64 n) (first' := n) (now' := n) rfl
  have chk : Chg (fun k => k = g) w ((W2.setCell ⟨g, 6, none⟩ (.slice none 0 0)).setCell ⟨g, 5, none⟩ (.int .i64 n)) := hch3.setCell (p := ⟨g, 5, none⟩) (fun _ => rfl) _
  have hTk : Ten0 ((W2.setCell ⟨g, 6, none⟩ (.slice none 0 0)).setCell ⟨g, 5, none⟩ (.int .i64 n)) w.heap.size x := hT3.chg (S := fun k => k = g) (Chg.setCell (S := fun k => k = g) (Chg.refl _ _) (p := ⟨g, 5, none⟩) (fun _ => rfl) _) hz3 hne
  have hrk : RecsAt ((W2.setCell ⟨g, 6, none⟩ (.slice none 0 0)).setCell ⟨g, 5, none⟩ (.int .i64 n)) ((W2.setCell ⟨g, 6, none⟩ (.slice none 0 0)).setCell ⟨g, 5, none⟩ (.int .i64 n)).heap.size A xs :=
    RecsAt.chg (S := fun k => k = g) (base := base) hr3 (Chg.setCell (S := fun k => k = g) (Chg.refl _ _) (p := ⟨g, 5, none⟩) (fun _ => rfl) _) (fun k e => by subst e; exact hs3.hg) (fun k hk e => by subst e; exact HRNE.out _ hk rfl)
  have HK := Lib.hid (And.intro hsk (And.intro chk (And.intro hTk hrk)))
  clear hsk chk hTk hrk hs3 hr3 hch3 hT3 hs2 hch2 HT2 hbq hz3
  go_wp2_with fail
  obtain ⟨hsk, chk, hTk, hrk⟩ := HK.out
  have HRK := Lib.hid hrk
  clear HK hrk j3 j4 f3 f4 hz2
  generalize World.setCell (World.setCell W2 _ _) _ _ = Wk at *
  have hB := (hxb.chg chk (fun hp ad ha hh => by have := hx0 hp ad ha; omega)).chg (S := fun _ => False) (w' := Wk.drew) (Chg.of_below (Below.refl _ _).drew) (fun _ _ _ h => h)
  have HB := Lib.hid hB
  have HSK := Lib.hid (hsk.below (Below.refl _ _).drew)
  have HCK := Lib.hid (chk.below (Below.refl Wk.heap.size Wk).drew)
  have HTK := Lib.hid hTk
  have k3 : Wk.cell? ⟨g, 6, none⟩ = some (.slice none 0 0) := hsk.cell 6
  have hzk : w.heap.size ≤ Wk.heap.size := chk.size
  have hgk : g < Wk.heap.size := hsk.lt
  obtain ⟨t0, t1, t2, t3, t4, t5, t6, t7, t8, t9⟩ := hTk
  have HR : Hid (Reads ((Wk.drew).alloc (.cells x.cells.toArray 39)) (Wk.heap.size + 1) 10 (some ⟨Wk.heap.size, 0, none⟩) 1 x.cells) := ⟨rfl, fun _ => ⟨_, _, rfl, by omega, fun j u hu => by have := cells_new_at (w := Wk.drew) (e := 39) (g := Wk.heap.size) rfl j u hu; rwa [Addr.add_lit] at this⟩⟩
  clear hB hsk chk
  go_region_law (refine step_append_any _ rfl (.tmp 66) (.tmp 68) 24 rfl base 39 i1 _ 10 136 Try.underlying24 hi1 hy0 hy1 hy2 rfl (by decide) (.slice none 0 0) 0 _ (by simp [Act.eval]) (HSK.out.mine.row.alloc _) (Wk.heap.size + 1) (some ⟨Wk.heap.size, 0, none⟩) 1 1 x.cells (by simp [Act.eval]) HR.out (RecX.oneCell _) (by simp [maxLen]) (by omega) (by have := HSK.out.hg; have := HSK.out.lt; simp; omega) ?_; intro v' w2 hown hgr hblk; have HA := Lib.hid (add_after HSK.out hown hgr); obtain ⟨⟨a3, c3, hv3⟩, hc3, hf3⟩ := HA.out; rw [hv3])
  all_goals
    have HV := Lib.hid hv3
    clear hv3
    go_wp2
    go_ret2
    have hP := Col.push HSK.out (by decide) HB.out (fun hp ad ha => ⟨fun e => by simp [Value.ownBlock] at e, fun e => by have := hx0 hp ad ha; omega⟩) rfl hown hgr hblk HV.out (fun _ => rfl) (i := 6)
    have hbig : Below Wk.heap.size Wk Wk.drew := (Below.refl Wk.heap.size Wk).drew
    refine ⟨a3, c3, x, rfl, rfl, hP.1, ?_, ?_, ?_⟩
    · refine RecsAt.chg (S := hot g none) (base := base) ⟨Reads.more (HRK.out.1.below hbig) hbig.size, fun z hz => Reads.more (Reads.below (HRK.out.2 z hz) hbig) hbig.size⟩ hP.2.1 HSK.out.hot_ge ?_
      rintro k hk (e | e)
      · exact HRNE.out k hk e
      · simp at e
    · exact HCK.out.trans hP.2.1 (fun k _ hk => by rcases hk with e | e; exact e; simp at e)
    · intro k hk
      rcases hP.2.2 k hk with h | h | ⟨ad, ha, hp, rfl⟩
      · rcases h with (e | e) | ⟨_, ⟨h0, _⟩ | ⟨z, hz, _⟩⟩
        · exact .inl e
        · simp at e
        · simp at h0
        · simp at hz
      · exact .inr (.inl (Nat.le_trans hzk h))
      · exact .inr (.inr (hx0 hp ad ha))
set_option maxHeartbeats 1600000 in
theorem addD_fit (n : Int) (x : RecX) (h : ColD p w base g A c xs first now) (h1 : 0 ≤ n) (h2 : n ≤ 1073741824) (h3 : now ≤ n) (hF : fitsB p.size p.cells xs x = true) (hb : sumBody xs + x.r.body.length ≤ 1000000) (hn : xs.length ≤ 1000000)
    (hxb : BodyAt w w.heap.size x) (hx0 : 0 < x.r.body.length → ∀ ad, x.ba = some ad → ad.block < base) :
    Calls Try.prog 23 #[.pointer (some ⟨g, 0, none⟩), .agg x.cells.toArray, .int .i64 n] w fun e w' => AddFit 73 (layD p) w base g A xs first n x e w' := by
  have k6 : w.cell? ⟨g, 0, none⟩ = some (.bool true) := h.cell 0
  have k5 : w.cell? ⟨g, 4, none⟩ = some (.int .i64 now) := h.cell 4
  have f5 : w.frozen? ⟨g, 4, none⟩ = false := h.frozen 4
  have hg := h.lt
  have hgb := h.hg
  have hne : w.heap.size ≠ g := by omega
  obtain ⟨i1, hi1, hy0, hy1, hy2⟩ := info_parts info39
  have HRNE := Lib.hid h.row_ne
  have b1 : decide (n < 0) = false := by simp; omega
  have b2 : decide (1073741824 < n) = false := by simp; omega
  have b3 : decide (n < now) = false := by simp; omega
  have hs0 := h.store 4 (.int .i64 n) (first' := first) (now' := n) rfl
  have hch0 : Chg (fun k => k = g) w (w.setCell ⟨g, 4, none⟩ (.int .i64 n)) := Chg.setCell (S := fun k => k = g) (Chg.refl _ _) (p := ⟨g, 4, none⟩) (fun _ => rfl) _
  have hz0 : (w.setCell ⟨g, 4, none⟩ (.int .i64 n)).heap.size = w.heap.size := by simp [World.setCell]
  have hs1 := hs0.below ((Below.refl _ _).alloc (Nat.le_refl _) (.cells x.cells.toArray 39))
  have hch1 := hch0.alloc (.cells x.cells.toArray 39)
  have hT1 := ten0_new (w.setCell ⟨g, 4, none⟩ (.int .i64 n)) x 39
  rw [hz0] at hT1
  have hz1 : w.heap.size < ((w.setCell ⟨g, 4, none⟩ (.int .i64 n)).alloc (.cells x.cells.toArray 39)).heap.size := by simp [World.setCell]
  clear hs0 hch0 hz0
  have HS1 := Lib.hid hs1
  have HC1 := Lib.hid hch1
  have HT1 := Lib.hid hT1
  have HZ1 := Lib.hid hz1
  clear h hs1 hch1 hT1 hz1
  simp only [RecX.cells]
  simp only [RecX.cells] at HS1 HC1 HT1 HZ1
  go_enter Try.func23, Try.ntmps23
  go_wp2_with fail
  generalize hW : World.alloc (World.setCell w _ _) _ = W at *
  have hs1 := HS1.out
  have hz1 := HZ1.out
  have hch1 := HC1.out
  clear hW HS1 HZ1
  obtain ⟨t0, t1, t2, t3, t4, t5, t6, t7, t8, t9⟩ := HT1.out
  have j0 : W.cell? ⟨g, 1, none⟩ = some (.int .i64 p.size) := hs1.cell 1
  have j1 : W.cell? ⟨g, 2, none⟩ = some (.int .i64 p.cells) := hs1.cell 2
  have j2 : W.cell? ⟨g, 3, none⟩ = some (.int .i64 p.window) := hs1.cell 3
  have j3 : W.cell? ⟨g, 6, none⟩ = some (.slice A xs.length c) := hs1.cell 6
  have hgW : g < W.heap.size := hs1.lt
  have HO := Lib.hid hs1.recs
  have HCH := Lib.hid hch1
  have HS := Lib.hid hs1
  clear hs1 hch1 k5 k6 f5
  refine wp_region_quiet_below (by kernel_rfl) (by kernel_rfl) ?_
  repeat (go_big_quiet_step ((go_at_call 33; go_must (exact rfits_out p.size p.cells p.window A c xs x W _ _ HO.out hb hn))))
  refine wpQuiet_nil ?_
  intro _ hw'
  obtain ⟨⟨dq, osq⟩, hw''⟩ := hw'
  subst hw''
  have hbq := below_regrown W dq osq
  generalize grow (redrawn W dq) osq = W2 at *
  have hs2 := HS.out.below hbq
  have hch2 := HCH.out.below hbq
  have hT2 := HT1.out.below hbq hz1
  have hz2 : w.heap.size < W2.heap.size := Nat.lt_of_lt_of_le hz1 hbq.size
  clear t0 t1 t2 t3 t4 t5 t6 t7 t8 t9 j0 j1 j2 j3 HO HCH HS HC1 HT1 hgW hz1
  have HT2 := Lib.hid hT2
  clear hT2
  cases xs with
  | nil =>
    have j3 : W2.cell? ⟨g, 6, none⟩ = some (.slice A 0 c) := hs2.cell 6
    have j4 : W2.cell? ⟨g, 5, none⟩ = some (.int .i64 first) := hs2.cell 5
    have j5 : W2.frozen? ⟨g, 5, none⟩ = false := hs2.frozen 5
    have hsk := hs2.store 5 (.int .i64 n) (first' := n) (now' := n) rfl
    have chk : Chg (fun k => k = g) w (W2.setCell ⟨g, 5, none⟩ (.int .i64 n)) := hch2.setCell (p := ⟨g, 5, none⟩) (fun _ => rfl) _
    have hTk : Ten0 (W2.setCell ⟨g, 5, none⟩ (.int .i64 n)) w.heap.size x := HT2.out.chg (S := fun k => k = g) (Chg.setCell (S := fun k => k = g) (Chg.refl _ _) (p := ⟨g, 5, none⟩) (fun _ => rfl) _) hz2 hne
    have HK := Lib.hid (And.intro hsk (And.intro chk hTk))
    clear hsk chk hTk hs2 hch2 HT2 hbq
    go_wp2_with fail
    obtain ⟨hsk, chk, hTk⟩ := HK.out
    clear HK j3 j4 j5 hz2
    generalize World.setCell W2 _ _ = Wk at *
    have hB := (hxb.chg chk (fun hp ad ha hh => by have := hx0 hp ad ha; omega)).chg (S := fun _ => False) (w' := Wk.drew) (Chg.of_below (Below.refl _ _).drew) (fun _ _ _ h => h)
    have HB := Lib.hid hB
    have HSK := Lib.hid (hsk.below (Below.refl _ _).drew)
    have HCK := Lib.hid (chk.below (Below.refl Wk.heap.size Wk).drew)
    have k3 : Wk.cell? ⟨g, 6, none⟩ = some (.slice A 0 c) := hsk.cell 6
    have hzk : w.heap.size ≤ Wk.heap.size := chk.size
    have hgk : g < Wk.heap.size := hsk.lt
    obtain ⟨t0, t1, t2, t3, t4, t5, t6, t7, t8, t9⟩ := hTk
    have HR : Hid (Reads ((Wk.drew).alloc (.cells x.cells.toArray 39)) (Wk.heap.size + 1) 10 (some ⟨Wk.heap.size, 0, none⟩) 1 x.cells) := ⟨rfl, fun _ => ⟨_, _, rfl, by omega, fun j u hu => by have := cells_new_at (w := Wk.drew) (e := 39) (g := Wk.heap.size) rfl j u hu; rwa [Addr.add_lit] at this⟩⟩
    clear hB hsk chk
    go_region_law (refine step_append_any _ rfl (.tmp 66) (.tmp 68) 24 rfl base 39 i1 _ 10 136 Try.underlying24 hi1 hy0 hy1 hy2 rfl (by decide) (.slice A 0 c) 0 _ (by simp [Act.eval]) (HSK.out.mine.row.alloc _) (Wk.heap.size + 1) (some ⟨Wk.heap.size, 0, none⟩) 1 1 x.cells (by simp [Act.eval]) HR.out (RecX.oneCell _) (by simp [maxLen]) (by omega) (by have := HSK.out.hg; have := HSK.out.lt; simp; omega) ?_; intro v' w2 hown hgr hblk; have HA := Lib.hid (add_after HSK.out hown hgr); obtain ⟨⟨a3, c3, hv3⟩, hc3, hf3⟩ := HA.out; rw [hv3])
    all_goals
      have HV := Lib.hid hv3
      clear hv3
      go_wp2
      go_ret2
      have hP := Col.push HSK.out (by decide) HB.out (fun hp ad ha => ⟨fun e => by have h1 := hx0 hp ad ha; have h2 := (HSK.out.mine.row.lt _ e).1; omega, fun e => by have := hx0 hp ad ha; omega⟩) rfl hown hgr hblk HV.out (fun _ => rfl) (i := 6)
      refine ⟨a3, c3, x, rfl, rfl, hP.1, ?_, ?_⟩
      · exact (HCK.out.mono (fun k (e : k = g) => .inl e)).trans hP.2.1 (fun k _ hk => hk)
      · intro k hk
        rcases hP.2.2 k hk with h | h | ⟨ad, ha, hp, rfl⟩
        · exact .inl h
        · exact .inr (.inl (Nat.le_trans hzk h))
        · exact .inr (.inr (hx0 hp ad ha))
  | cons z zs =>
    have hl : (z :: zs).length = zs.length + 1 := rfl
    have g0 : ((zs.length : Int) + 1 == 0) = false := beq_eq_false_iff_ne.2 (by omega)
    have HS2 := Lib.hid hs2
    have HCH2 := Lib.hid hch2
    have j3 : W2.cell? ⟨g, 6, none⟩ = some (.slice A (zs.length + 1) c) := hs2.cell 6
    rw [hl] at hn
    clear hl hs2 hch2 hbq
    go_wp2_with fail
    have hsk := HS2.out
    have chk := HCH2.out
    have hTk := HT2.out
    clear j3 hz2 HS2 HCH2 HT2
    generalize W2 = Wk at *
    have hB := (hxb.chg chk (fun hp ad ha hh => by have := hx0 hp ad ha; omega)).chg (S := fun _ => False) (w' := Wk.drew) (Chg.of_below (Below.refl _ _).drew) (fun _ _ _ h => h)
    have HB := Lib.hid hB
    have HSK := Lib.hid (hsk.below (Below.refl _ _).drew)
    have HCK := Lib.hid (chk.below (Below.refl Wk.heap.size Wk).drew)
    have k3 : Wk.cell? ⟨g, 6, none⟩ = some (.slice A (zs.length + 1) c) := hsk.cell 6
    have hzk : w.heap.size ≤ Wk.heap.size := chk.size
    have hgk : g < Wk.heap.size := hsk.lt
    obtain ⟨t0, t1, t2, t3, t4, t5, t6, t7, t8, t9⟩ := hTk
    have HR : Hid (Reads ((Wk.drew).alloc (.cells x.cells.toArray 39)) (Wk.heap.size + 1) 10 (some ⟨Wk.heap.size, 0, none⟩) 1 x.cells) := ⟨rfl, fun _ => ⟨_, _, rfl, by omega, fun j u hu => by have := cells_new_at (w := Wk.drew) (e := 39) (g := Wk.heap.size) rfl j u hu; rwa [Addr.add_lit] at this⟩⟩
    clear hB hsk chk
    go_region_law (refine step_append_any _ rfl (.tmp 66) (.tmp 68) 24 rfl base 39 i1 _ 10 136 Try.underlying24 hi1 hy0 hy1 hy2 rfl (by decide) (.slice A (zs.length + 1) c) (zs.length + 1) _ (by simp [Act.eval]) (HSK.out.mine.row.alloc _) (Wk.heap.size + 1) (some ⟨Wk.heap.size, 0, none⟩) 1 1 x.cells (by simp [Act.eval]) HR.out (RecX.oneCell _) (by simp [maxLen]; omega) (by omega) (by have := HSK.out.hg; have := HSK.out.lt; simp; omega) ?_; intro v' w2 hown hgr hblk; have HA := Lib.hid (add_after HSK.out hown hgr); obtain ⟨⟨a3, c3, hv3⟩, hc3, hf3⟩ := HA.out; rw [hv3])
    all_goals
      have HV := Lib.hid hv3
      clear hv3
      go_wp2
      go_ret2
      have hP := Col.push HSK.out (by decide) HB.out (fun hp ad ha => ⟨fun e => by have h1 := hx0 hp ad ha; have h2 := (HSK.out.mine.row.lt _ e).1; omega, fun e => by have := hx0 hp ad ha; omega⟩) rfl hown hgr hblk HV.out (fun _ => rfl) (i := 6)
      refine ⟨a3, c3, x, rfl, rfl, hP.1, ?_, ?_⟩
      · exact (HCK.out.mono (fun k (e : k = g) => .inl e)).trans hP.2.1 (fun k _ hk => hk)
      · intro k hk
        rcases hP.2.2 k hk with h | h | ⟨ad, ha, hp, rfl⟩
        · exact .inl h
        · exact .inr (.inl (Nat.le_trans hzk h))
        · exact .inr (.inr (hx0 hp ad ha))
end
end Go.Proofs.Ytfgohjoamifpiaa
