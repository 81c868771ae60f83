/- The example that every statement of this layer checks. -/
import Derived.Test.YtfgohjoamifpiaaWF
import Derived.Deep.RegionHeld3
namespace Go.Proofs.Ytfgohjoamifpiaa
open Go.RowKit
open Go.Sort (grow)

def cell0 : CellV := ⟨0, 0, ⟨#[]⟩, 0⟩
def rec0 (n : Nat) : Rec := ⟨0, 0, 0, ⟨#[]⟩, ⟨#[]⟩, ⟨#[]⟩, ⟨#[]⟩, 0, ⟨#[]⟩, List.replicate n cell0⟩
theorem made_flat (n : Nat) : (madeCells (Value.agg #[.int .i64 0, .int .i64 0, .string ⟨#[]⟩, .int .i64 0]).cells (n * 4)).toList = (List.replicate n cell0).flatMap CellV.cells := by
  apply List.ext_getElem?
  intro j
  by_cases hj : j < n * 4
  · have h1 : j / 4 < n := by omega
    have h2 : j = j / 4 * 4 + j % 4 := by omega
    have h3 : j % 4 < 4 := by omega
    rw [h2, flat_get (k := 4) (fun _ => rfl) _ (j / 4) (j % 4) cell0 (by simp [h1]) h3, ← h2]
    have h4 : j % 4 = 0 ∨ j % 4 = 1 ∨ j % 4 = 2 ∨ j % 4 = 3 := by omega
    rcases h4 with h | h | h | h <;> simp [madeCells, Value.cells, hj, h, cell0, CellV.cells]
  · have h1 : ((List.replicate n cell0).flatMap CellV.cells).length = n * 4 := by rw [flat_length (k := 4) (fun _ => rfl)]; simp
    rw [List.getElem?_eq_none (by rw [Array.length_toList, size_madeCells]; omega), List.getElem?_eq_none (by rw [h1]; omega)]

set_option maxHeartbeats 400000 in
theorem record_any (n : Nat) (hn : n ≤ 1000) (w : World) :
    Calls Try.prog 29 #[.int .i64 n] w fun e w' => ∃ x : RecX, x.r = rec0 n ∧ e = .returned (.agg x.cells.toArray) ∧ BodyAt w' w'.heap.size x ∧ (∀ ad, x.ba = some ad → w.heap.size ≤ ad.block) ∧ Below w.heap.size w w' := by
  obtain ⟨i0, hi0, hz0, hz1, hz2⟩ := info_parts info79
  go_enter Try.func29, Try.ntmps29
  go_wp2_with (at_make; go_must (refine wpList_make_full _ rfl _ _ 35 rfl w.heap.size 79 i0 _ 4 Try.underlying35 hi0 hz0 hz1 .i64 .i64 n n n rfl rfl rfl rfl (by rw [hz2]; omega) (by simp [maxLen]; omega) (by simp) ?_); intro w1 hown hgr; have hc1 := fun i => World.cell?_of_block (a := ⟨w.heap.size, i, none⟩) (hgr.block w.heap.size (by simp) (by simp)); have hf1 := fun i => World.frozen?_of_block (a := ⟨w.heap.size, i, none⟩) (hgr.block w.heap.size (by simp) (by simp)); have z0 : w1.cell? ⟨w.heap.size, 0, none⟩ = some (.int .i64 0) := (hc1 0).trans (cell_of_row _ _ _ _ 39 (0, 0) (heap_alloc_new w _)); have z1 : w1.cell? ⟨w.heap.size, 1, none⟩ = some (.int .i64 0) := (hc1 1).trans (cell_of_row _ _ _ _ 39 (0, 0) (heap_alloc_new w _)); have z2 : w1.cell? ⟨w.heap.size, 2, none⟩ = some (.int .i64 0) := (hc1 2).trans (cell_of_row _ _ _ _ 39 (0, 0) (heap_alloc_new w _)); have z3 : w1.cell? ⟨w.heap.size, 3, none⟩ = some (.string ⟨#[]⟩) := (hc1 3).trans (cell_of_row _ _ _ _ 39 (0, 0) (heap_alloc_new w _)); have z4 : w1.cell? ⟨w.heap.size, 4, none⟩ = some (.string ⟨#[]⟩) := (hc1 4).trans (cell_of_row _ _ _ _ 39 (0, 0) (heap_alloc_new w _)); have z5 : w1.cell? ⟨w.heap.size, 5, none⟩ = some (.string ⟨#[]⟩) := (hc1 5).trans (cell_of_row _ _ _ _ 39 (0, 0) (heap_alloc_new w _)); have z6 : w1.cell? ⟨w.heap.size, 6, none⟩ = some (.string ⟨#[]⟩) := (hc1 6).trans (cell_of_row _ _ _ _ 39 (0, 0) (heap_alloc_new w _)); have z7 : w1.cell? ⟨w.heap.size, 7, none⟩ = some (.int .i64 0) := (hc1 7).trans (cell_of_row _ _ _ _ 39 (0, 0) (heap_alloc_new w _)); have z8 : w1.cell? ⟨w.heap.size, 8, none⟩ = some (.string ⟨#[]⟩) := (hc1 8).trans (cell_of_row _ _ _ _ 39 (0, 0) (heap_alloc_new w _)); have z9 : w1.cell? ⟨w.heap.size, 9, none⟩ = some (.slice none 0 0) := (hc1 9).trans (cell_of_row _ _ _ _ 39 (0, 0) (heap_alloc_new w _)); have hz1 : w.heap.size < w1.heap.size := by have := hgr.size; simp at this; omega)
  have hw1 : Below w.heap.size w w1 := ((Below.refl _ _).alloc (Nat.le_refl _) _).grown hgr (by simp) (by simp)
  have hne : ∀ ad, (some (⟨w.heap.size + 1, 0, none⟩ : Addr)) = some ad → ad.block ≠ w.heap.size := by intro ad ha; injection ha with ha; subst ha; simp
  have hr : Reads w1 w1.heap.size 4 (some ⟨w.heap.size + 1, 0, none⟩) n ((List.replicate n cell0).flatMap CellV.cells) := by
    have h1 := Reads.of_own hown
    rw [made_flat] at h1
    simpa using h1
  have hlen : (List.replicate n cell0).length = n := List.length_replicate
  refine bodyPost_ret (v := .agg (RecX.cells ⟨rec0 n, some ⟨w.heap.size + 1, 0, none⟩, n⟩).toArray) (by simp [results, Try.results29, go_sem, RecX.cells, rec0, z0, z1, z2, z3, z4, z5, z6, z7, z8, z9])  rfl ⟨⟨rec0 n, some ⟨w.heap.size + 1, 0, none⟩, n⟩, rfl, rfl, ?_, ?_, ?_⟩
  · show Reads _ _ 4 (some ⟨w.heap.size + 1, 0, none⟩) (List.replicate n cell0).length ((List.replicate n cell0).flatMap CellV.cells)
    rw [hlen]
    refine Reads.more (B := w1.heap.size) ?_ (by simp [World.setCell])
    iterate 10 (with_reducible refine Reads.set ?_ hne _)
    with_reducible exact hr
  · intro ad ha; injection ha with ha; subst ha; simp
  · iterate 10 (with_reducible refine Below.setCell ?_ (by simp) _)
    with_reducible exact hw1

/-! ### What the division does, by the lengths of the bodies alone -/
def fitsN (m r : Int) (l : List Nat) (x : Nat) : Bool := l.isEmpty || (decide ((l.length : Int) < m) && decide ((l.sum + x : Nat) ≤ r))
def stepN (m r : Int) (bs : List (List Nat)) (x : Nat) : List (List Nat) :=
  match bs.getLast? with
  | none => [[x]]
  | some b => if fitsN m r b x = true then bs.dropLast ++ [b ++ [x]] else bs ++ [[x]]
def cutN (m r : Int) (l : List Nat) : List (List Nat) := l.foldl (stepN m r) []
def wt (x : RecX) : Nat := x.r.body.length
theorem fitsN_eq (m r : Int) (l : List RecX) (x : RecX) : fitsN m r (l.map wt) (wt x) = fitsB m r l x := by
  unfold fitsN fitsB sumBody wt
  simp
theorem stepN_eq (m r : Int) (bs : List (List RecX)) (x : RecX) : (cutStep m r bs x).map (·.map wt) = stepN m r (bs.map (·.map wt)) (wt x) := by
  unfold cutStep stepN
  rw [List.getLast?_map]
  cases h : bs.getLast? with
  | none => simp
  | some b =>
    simp only [Option.map_some, fitsN_eq]
    by_cases hf : fitsB m r b x = true
    · simp [hf]
    · simp [hf]
theorem cutN_eq (m r : Int) (l : List RecX) : (cutS m r l).map (·.map wt) = cutN m r (l.map wt) := by
  unfold cutS cutN
  suffices h : ∀ (l : List RecX) (bs : List (List RecX)), (l.foldl (cutStep m r) bs).map (·.map wt) = (l.map wt).foldl (stepN m r) (bs.map (·.map wt)) by simpa using h l []
  intro l
  induction l with
  | nil => simp
  | cons x l ih => intro bs; rw [List.foldl_cons, List.map_cons, List.foldl_cons, ih, stepN_eq]

theorem record_int (n : Int) (h0 : 0 ≤ n) (hn : n ≤ 1000) (w : World) :
    Calls Try.prog 29 #[.int .i64 n] w fun e w' => ∃ x : RecX, x.r = rec0 n.toNat ∧ e = .returned (.agg x.cells.toArray) ∧ BodyAt w' w'.heap.size x ∧ (∀ ad, x.ba = some ad → w.heap.size ≤ ad.block) ∧ Below w.heap.size w w' := by
  obtain ⟨k, rfl⟩ := Int.eq_ofNat_of_zero_le h0
  exact record_any k (by omega) w
/-- The records made so far. -/
structure Got (W w : World) (l : List RecX) (ns : List Nat) : Prop where
  low : Below W.heap.size W w
  eq : l.map (·.r) = ns.map rec0
  body : ∀ x ∈ l, BodyAt w w.heap.size x
theorem Got.step {W w w' : World} {l : List RecX} {ns : List Nat} {x : RecX} {n : Nat} (h : Got W w l ns) (hb : Below w.heap.size w w') (hx : x.r = rec0 n) (hxb : BodyAt w' w'.heap.size x) : Got W w' (l ++ [x]) (ns ++ [n]) :=
  ⟨h.low.trans (hb.mono h.low.size), by rw [List.map_append, List.map_append, h.eq]; simp [hx], fun z hz => by
    rcases List.mem_append.1 hz with hz | hz
    · exact Reads.more (Reads.below (h.body z hz) hb) hb.size
    · simp only [List.mem_singleton] at hz; subst hz; exact hxb⟩
theorem recs_new {w : World} {l : List RecX} (hl : ∀ x ∈ l, BodyAt w w.heap.size x) : RecsAt (w.alloc (.cells (l.flatMap RecX.cells).toArray 39)) (w.alloc (.cells (l.flatMap RecX.cells).toArray 39)).heap.size (some ⟨w.heap.size, 0, none⟩) l :=
  ⟨⟨flat_length RecX.cells_length l, fun _ => ⟨_, _, rfl, by simp, fun j u hu => by
    have := cells_new_at (w := w) (e := 39) (g := w.heap.size) rfl j u hu
    rwa [Addr.add_lit] at this⟩⟩, fun x hx => Reads.more (Reads.below (hl x hx) ((Below.refl _ _).alloc (Nat.le_refl _) _)) (by simp)⟩
theorem sum_of_map {l : List RecX} {ns : List Nat} (h : l.map (·.r) = ns.map rec0) : l.map wt = ns := by
  have := congrArg (List.map fun r : Rec => r.body.length) h
  rw [List.map_map, List.map_map] at this
  rw [show l.map wt = l.map ((fun r : Rec => r.body.length) ∘ fun x => x.r) from rfl, this]
  conv => rhs; rw [← List.map_id ns]
  apply List.map_congr_left
  intro n _
  simp [rec0]
theorem sumBody_wt (l : List RecX) : sumBody l = (l.map wt).sum := rfl

theorem three_of {bs : List BatchX} (h : bs.map ((fun x : List RecX => x.map wt) ∘ fun b => b.l) = cutN 2 5 ([] ++ [Int.toNat 1] ++ [Int.toNat 1] ++ [Int.toNat 1] ++ [Int.toNat 4] ++ [Int.toNat 6])) :
    ∃ b0 b1 b2 : BatchX, bs = [b0, b1, b2] ∧ b0.l.length = 2 ∧ b1.l.length = 2 ∧ b2.l.length = 1 := by
  rw [show cutN 2 5 ([] ++ [Int.toNat 1] ++ [Int.toNat 1] ++ [Int.toNat 1] ++ [Int.toNat 4] ++ [Int.toNat 6]) = [[1, 1], [1, 4], [6]] from by decide] at h
  have hlen : bs.length = 3 := by have := congrArg List.length h; simpa using this
  match bs, hlen with
  | [b0, b1, b2], _ =>
    simp only [List.map_cons, List.map_nil, List.cons.injEq, Function.comp, and_true] at h
    have l0 := congrArg List.length h.1
    have l1 := congrArg List.length h.2.1
    have l2 := congrArg List.length h.2.2
    rw [List.length_map] at l0 l1 l2
    exact ⟨b0, b1, b2, rfl, l0, l1, l2⟩
theorem out_three {w : World} {base : Nat} {v : Value} {b0 b1 b2 : BatchX} (h : OutInv w base v [b0, b1, b2]) : ∃ g c, v = .slice (some ⟨g, 0, none⟩) 3 c ∧ w.cell? ⟨g, 0, none⟩ = some (.slice b0.a b0.l.length b0.c) ∧
    w.cell? ⟨g, 1, none⟩ = some (.slice b1.a b1.l.length b1.c) ∧ w.cell? ⟨g, 2, none⟩ = some (.slice b2.a b2.l.length b2.c) := by
  have hr := h.row
  rcases hr.2 with ⟨_, h0⟩ | ⟨g, cap, cur, rfl, _⟩
  · simp at h0
  · exact ⟨g, cap, rfl, (hr.cellAt 0 (by simp)).trans rfl, (hr.cellAt 1 (by simp)).trans rfl, (hr.cellAt 2 (by simp)).trans rfl⟩
set_option maxHeartbeats 1600000 in
theorem awake_any (w : World) : Calls Try.prog 9 #[] w fun e w' => e = .returned (.bool true) ∧ Below w.heap.size w w' := by
  go_enter Try.func9, Try.ntmps9
  go_wp2_with fail
  have d0 : (w.alloc (.cells #[.int .i64 2, .int .i64 5, .int .i64 10] 23)).cell? ⟨w.heap.size, 0, none⟩ = some (.int .i64 2) := by go_simp
  have d1 : (w.alloc (.cells #[.int .i64 2, .int .i64 5, .int .i64 10] 23)).cell? ⟨w.heap.size, 1, none⟩ = some (.int .i64 5) := by go_simp
  have d2 : (w.alloc (.cells #[.int .i64 2, .int .i64 5, .int .i64 10] 23)).cell? ⟨w.heap.size, 2, none⟩ = some (.int .i64 10) := by go_simp
  have hlow : Below w.heap.size w (w.alloc (.cells #[.int .i64 2, .int .i64 5, .int .i64 10] 23)) := (Below.refl _ _).alloc (Nat.le_refl _) _
  have hz : w.heap.size < (w.alloc (.cells #[.int .i64 2, .int .i64 5, .int .i64 10] 23)).heap.size := by simp
  generalize hW : World.alloc w _ = W at *
  clear hW
  have HG : Got W W.drew [] [] := ⟨(Below.refl _ _).drew, rfl, by simp⟩
  go_region_held3 (fun w' => w'.cell? ⟨w.heap.size, 0, none⟩ = some (.int .i64 2) ∧ w'.cell? ⟨w.heap.size, 1, none⟩ = some (.int .i64 5) ∧ w'.cell? ⟨w.heap.size, 2, none⟩ = some (.int .i64 10))
    (first | go_keep | exact ⟨(hl6.cell (p := ⟨_, _, _⟩) hz).trans d0, (hl6.cell (p := ⟨_, _, _⟩) hz).trans d1, (hl6.cell (p := ⟨_, _, _⟩) hz).trans d2⟩ | exact ⟨(HG.low.cell (p := ⟨_, _, _⟩) hz).trans d0, (HG.low.cell (p := ⟨_, _, _⟩) hz).trans d1, (HG.low.cell (p := ⟨_, _, _⟩) hz).trans d2⟩)
    (first | (go_at_call 29; refine (record_int _ (by omega) (by omega) _).mono ?_; rintro e wn ⟨x, hxr, rfl, hxb, hxf, hb⟩; have HG := HG.step hb hxr hxb; clear hxr hxb hxf hb; simp only [RecX.cells]) | (go_at_call 10; refine (Cut_ok 2 5 10 _ 5 _ _ rfl (recs_new HG.body) (by rw [sumBody_wt, sum_of_map HG.eq]; decide) (by simp)).mono ?_; rintro e w6 ⟨v, bs, xs, rfl, hout, hbs, hxs, hbody, hb6⟩; have hl6 : Below W.heap.size W w6 := (HG.low.alloc HG.low.size _).trans (hb6.mono (by have := HG.low.size; simp; omega))))
  have hw := sum_of_map (hxs.trans HG.eq)
  have hN := cutN_eq 2 5 xs
  rw [hw, ← hbs, List.map_map] at hN
  have hz6 := hl6.size
  obtain ⟨b0, b1, b2, rfl, y0, y1, y2⟩ := three_of hN
  have hout' := hout
  obtain ⟨g, cap, rfl, q0, q1, q2⟩ := out_three hout
  rw [y0] at q0
  rw [y1] at q1
  rw [y2] at q2
  have e0 : w6.cell? ⟨w.heap.size, 0, none⟩ = some (.int .i64 2) := (hl6.cell (p := ⟨_, _, _⟩) hz).trans d0
  have e1 : w6.cell? ⟨w.heap.size, 1, none⟩ = some (.int .i64 5) := (hl6.cell (p := ⟨_, _, _⟩) hz).trans d1
  have e2 : w6.cell? ⟨w.heap.size, 2, none⟩ = some (.int .i64 10) := (hl6.cell (p := ⟨_, _, _⟩) hz).trans d2
  have HL := Lib.hid (hlow.trans (hl6.mono (by omega)))
  clear hN hw hbs hxs hbody hout hout' HG hb6 d0 d1 d2 y0 y1 y2 hl6
  go_wp2_with fail
  refine (newC_ok 2 5 10 _ rfl).mono ?_
  rintro e w7 ⟨gc, rfl, hgc, hcol, hb7⟩
  have HL7 := Lib.hid (HL.out.trans (hb7.mono (by omega)))
  have HCol := Lib.hid hcol
  have hz7 := hb7.size
  clear e0 e1 e2 q0 q1 q2 hcol hb7
  go_wp2_with fail
  refine (record_int 1 (by omega) (by omega) _).mono ?_
  rintro e w8 ⟨x, hxr, rfl, hxb, hxf, hb8⟩
  have hc8 := HCol.out.below hb8
  have hz8 := hb8.size
  have hlt7 := HCol.out.lt
  have HXL : Hid (x.r.body.length = 1) := by show x.r.body.length = 1; rw [hxr]; rfl
  clear hxr
  have HL8 := Lib.hid (HL7.out.trans (hb8.mono (by omega)))
  simp only [RecX.cells]
  go_wp2_with fail
  have hF : fitsB 2 5 [] x = true := rfl
  have hsb : sumBody [] + x.r.body.length ≤ 1000000 := by rw [HXL.out]; decide
  have hnh : 0 < x.r.body.length → ∀ ad, x.ba = some ad → ¬ hot gc none ad.block := fun _ ad ha hh => by
    rcases hh with e | e
    · have := hxf ad ha; omega
    · simp at e
  have hA := addC_fit (p := ⟨2, 5, 10⟩) 3 x hc8 (by omega) (by omega) (by omega) hF hsb (by decide) hxb hnh
  simp only [RecX.cells] at hA
  have HA := Lib.hid hA
  clear hA hF hsb hnh
  refine HA.out.mono ?_
  rintro e w9 ⟨A9, c9, x9, rfl, hx9, hc9, hch9, _⟩
  have HL9 := Lib.hid (HL8.out.trans ((hch9.toBelow (B := w6.heap.size) hc8.hot_ge (by omega)).mono (by omega)))
  have hz9 := hch9.size
  have HC9 : Hid (ColC ⟨2, 5, 10⟩ w9 w6.heap.size gc A9 c9 [x9] 3 3) := hc9
  clear hc8 hc9 hch9 hxb hxf hb8 HCol HA
  go_wp2_with fail
  refine (dueC_any HC9.out (by simp) (by omega) (by simp)).mono ?_
  rintro e w10 ⟨rfl, hb10⟩
  have HC10 := Lib.hid (HC9.out.below hb10)
  have hz10 := hb10.size
  have HL10 := Lib.hid (HL9.out.trans (hb10.mono (by omega)))
  rw [show dueOf ⟨2, 5, 10⟩ [x9] 3 = 13 from rfl, show (![x9].isEmpty) = true from rfl]
  clear hb10
  go_wp2_with fail
  refine (flushC_yes 12 HC10.out (by simp) (by omega) (by omega) (by omega) (by simp)).mono ?_
  rintro e w11 h11
  rw [if_pos (by right; decide)] at h11
  obtain ⟨rfl, hc11, hch11⟩ := h11
  have HC11 := Lib.hid hc11
  have hz11 := hch11.size
  have HL11 := Lib.hid (HL10.out.trans ((hch11.toBelow (B := w6.heap.size) (fun k e => by subst e; exact hc11.hg) (by omega)).mono (by omega)))
  clear hc11 hch11
  go_wp2_with fail
  refine (flushC_yes 13 HC11.out (by simp) (by omega) (by omega) (by omega) (by simp)).mono ?_
  rintro e w12 h12
  rw [if_neg (by simp)] at h12
  obtain ⟨rfl, hc12, _, hch12⟩ := h12
  have HC12 := Lib.hid hc12
  have HL12 := Lib.hid (HL11.out.trans ((hch12.toBelow (B := w6.heap.size) (fun k e => by subst e; exact hc12.hg) (by omega)).mono (by omega)))
  rw [show [x9].length = 1 from rfl]
  clear hc12 hch12
  go_wp2_with fail
  refine (lenC_any HC12.out (by simp)).mono ?_
  rintro e w13 ⟨rfl, rfl⟩
  rw [show ([] : List RecX).length = 0 from rfl]
  go_wp2
  go_ret
  exact ⟨rfl, HL12.out⟩
end Go.Proofs.Ytfgohjoamifpiaa
