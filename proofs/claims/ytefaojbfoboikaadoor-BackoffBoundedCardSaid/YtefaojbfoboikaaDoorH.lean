/- The walk of the closure that gathers the times. -/
import Derived.Test.YtefaojbfoboikaaDoorD
import Derived.Maps.AppendAt
namespace Go.Proofs.YtefaojbfoboikaaDoor
open Go.RowKit

theorem info3 : (Tryd.prog.info? 3).map (fun i => (i.zero, i.size, i.bytes)) = some (some (.int .i64 0), 1, 8) := by kernel_rfl
theorem cells_new_at {w : World} {cs : List Value} {e : TypeId} {g : Nat} (hg : g = w.heap.size) : ∀ j u, cs[j]? = some u → (w.alloc (.cells cs.toArray e)).cell? ((⟨g, 0, none⟩ : Addr).add j) = some u := by
  intro j u hu
  subst hg
  rw [Addr.add_lit, cell_of_row _ _ _ cs.toArray e (0, 0) (heap_alloc_new w _)]
  simpa using hu
set_option maxHeartbeats 1000000 in
theorem S1_stop (k d s m x : Int) (bn bf H g cap n : Nat) (w : World) (hc : w.cell? ⟨bn, 0, none⟩ = some (.slice (some ⟨g, 0, none⟩) n cap)) (hn : 0 < n) (hn2 : n ≤ 100)
    (hlast : w.cell? ⟨g, n - 1, none⟩ = some (.int .i64 x)) (hs : w.cell? ⟨bf, 0, none⟩ = some (.int .i64 s)) (hm : w.cell? ⟨H, 4, none⟩ = some (.int .i64 m))
    (x1 : 0 ≤ x) (x2 : x ≤ 100000000000) (d1 : 0 ≤ d) (d2 : d ≤ 100000000000) (s1 : 0 ≤ s) (s2 : s ≤ 100000000000) (m1 : 0 ≤ m) (m2 : m ≤ 100000000000) (hstop : s + m < x + d) :
    Calls Tryd.prog 34 #[.int .i64 k, .int .i64 d, .pointer (some ⟨bn, 0, none⟩), .pointer (some ⟨bf, 0, none⟩), .pointer (some ⟨H, 0, none⟩)] w fun e w' => e = .returned (.bool false) ∧ w = w' := by
  go_enter Tryd.func34, Tryd.ntmps34
  go_wp2_with fail
  all_goals try (exfalso; omega)
  go_ret
  exact ⟨rfl, rfl⟩
theorem own_form {w : World} {base : Nat} {e : TypeId} {v : Value} {n : Nat} {xs : List Value} (h : w.ownsRow base e 1 v n xs) (hn : 0 < n) : ∃ g cap, v = .slice (some ⟨g, 0, none⟩) n cap ∧ base ≤ g ∧ g < w.heap.size := by
  rcases h.2 with ⟨_, h0⟩ | ⟨g, cap, cur, hv, hb, hg, _⟩
  · omega
  · exact ⟨g, cap, hv, hb, (Array.getElem?_eq_some_iff.1 hg).1⟩
theorem own_of_heap {w w' : World} {base g : Nat} {e : TypeId} {n cap : Nat} {xs : List Value} (h : w.ownsRow base e 1 (.slice (some ⟨g, 0, none⟩) n cap) n xs) (hn : 0 < n) (hq : w'.heap[g]? = w.heap[g]?) : w'.ownsRow base e 1 (.slice (some ⟨g, 0, none⟩) n cap) n xs := by
  refine ⟨h.1, ?_⟩
  rcases h.2 with ⟨_, h0⟩ | ⟨g2, cap2, cur, hv, hb, hg, hr⟩
  · omega
  · obtain ⟨rfl, rfl⟩ : g = g2 ∧ cap = cap2 := by injection hv with a1 _ a3; injection a1 with a1; injection a1 with a1; exact ⟨a1, a3⟩
    exact .inr ⟨g, cap, cur, rfl, hb, hq.trans hg, hr⟩
/-- What a call of the closure leaves: the slice has grown by y; nothing else that was there has turned. -/
structure Grew (w w' : World) (bn g base : Nat) (l : List Int) (y : Int) (g' cap' : Nat) : Prop where
  cell : w'.cell? ⟨bn, 0, none⟩ = some (.slice (some ⟨g', 0, none⟩) (l ++ [y]).length cap')
  free : w'.frozen? ⟨bn, 0, none⟩ = false
  own : w'.ownsRow base 3 1 (.slice (some ⟨g', 0, none⟩) (l ++ [y]).length cap') (l ++ [y]).length ((l ++ [y]).map (Value.int .i64))
  at_ : g' = g ∨ w.heap.size ≤ g'
  apart : bn ≠ g'
  keep : ∀ b, b < w.heap.size → b ≠ bn → b ≠ g → w'.heap[b]? = w.heap[b]?
  size : w.heap.size ≤ w'.heap.size
  low : ∀ B, B ≤ bn → B ≤ g → B ≤ w.heap.size → Below B w w'
set_option maxHeartbeats 1000000 in
theorem S1_go (k d s m x : Int) (bn bf H g cap base : Nat) (l : List Int) (w : World) (hc : w.cell? ⟨bn, 0, none⟩ = some (.slice (some ⟨g, 0, none⟩) l.length cap)) (hfz : w.frozen? ⟨bn, 0, none⟩ = false) (hn : 0 < l.length) (hn2 : l.length ≤ 100)
    (hown : w.ownsRow base 3 1 (.slice (some ⟨g, 0, none⟩) l.length cap) l.length (l.map (Value.int .i64)))
    (hlast : w.cell? ⟨g, l.length - 1, none⟩ = some (.int .i64 x)) (hs : w.cell? ⟨bf, 0, none⟩ = some (.int .i64 s)) (hm : w.cell? ⟨H, 4, none⟩ = some (.int .i64 m))
    (hbn : bn < w.heap.size) (hne : bn ≠ g) (hbase : base ≤ w.heap.size)
    (x1 : 0 ≤ x) (x2 : x ≤ 100000000000) (d1 : 0 ≤ d) (d2 : d ≤ 100000000000) (s1 : 0 ≤ s) (s2 : s ≤ 100000000000) (m1 : 0 ≤ m) (m2 : m ≤ 100000000000) (hgo : x + d ≤ s + m) :
    Calls Tryd.prog 34 #[.int .i64 k, .int .i64 d, .pointer (some ⟨bn, 0, none⟩), .pointer (some ⟨bf, 0, none⟩), .pointer (some ⟨H, 0, none⟩)] w fun e w' => ∃ g' cap', e = .returned (.bool true) ∧ Grew w w' bn g base l (x + d) g' cap' := by
  obtain ⟨i0, hi, hz0, hz1, hz2⟩ := info_parts info3
  have HO := Lib.hid hown
  have HC := Lib.hid (And.intro hc hfz)
  clear hown
  go_enter Tryd.func34, Tryd.ntmps34
  go_wp2_with (at_builtin; go_loud (refine wpList_append_own_at _ rfl (.tmp 23) (.tmp 25) 32 rfl base 3 i0 (.int .i64 0) 1 8 Tryd.underlying32 hi hz0 hz1 hz2 rfl (by decide) (.slice (some ⟨g, 0, none⟩) l.length cap) l.length (l.map (Value.int .i64)) rfl (HO.out.alloc _) ⟨w.heap.size, 0, none⟩ 1 1 [.int .i64 (x + d)] rfl rfl (cells_new_at rfl) (by intro u hu; simp at hu; subst hu; rfl) (by simp only [maxLen]; omega) (by omega) (by simp; omega) ?_); intro v' w1 hown1 hgr hiff hat; clear hiff; obtain ⟨g', cap', hv, hg1, hg2⟩ := own_form hown1 (by omega); rw [hv]; rw [hv] at hown1 hat; have hcb : w1.cell? ⟨bn, 0, none⟩ = some (.slice (some ⟨g, 0, none⟩) l.length cap) := hgr.cell ((((Below.refl w.heap.size w).alloc (Nat.le_refl _) _).cell (p := ⟨bn, 0, none⟩) hbn).trans HC.out.1) (by intro h; injection h with h; exact hne h); have hfb : w1.frozen? ⟨bn, 0, none⟩ = false := (World.frozen?_of_block (hgr.block bn (by simp; omega) (by intro h; injection h with h; exact hne h))).trans ((((Below.refl w.heap.size w).alloc (Nat.le_refl _) _).frozen (p := ⟨bn, 0, none⟩) hbn).trans HC.out.2); have HG := Lib.hid (And.intro hown1 (And.intro hgr hat)); clear hown1 hgr hat hv hlast hs hm hc hfz)
  go_ret
  obtain ⟨hown1, hgr, hat⟩ := HG.out
  have hlen : (l ++ [x + d]).length = l.length + 1 := by simp
  have hat' : g' = g ∨ w.heap.size ≤ g' := by
    rcases hat with h | h
    · injection h with h; exact .inl h
    · injection h with h; right; simp at h; omega
  have hap : bn ≠ g' := by rcases hat' with h | h; (rw [h]; exact hne); omega
  have hsz : w.heap.size + 1 ≤ w1.heap.size := by have := hgr.size; simpa using this
  refine ⟨g', cap', rfl, ⟨?_, by simp; exact hfb, ?_, hat', hap, ?_, by simp; omega, fun B h1 h2 h3 => (((Below.refl B w).alloc h3 _).grown hgr (by simp; omega) (fun k hk => by have hk' : g = k := (by injection hk); omega)).setCell h1 _⟩⟩
  · rw [hlen]
    exact World.cell?_setCell_same _ _ _ hcb
  · rw [hlen, List.map_append]
    exact own_of_heap hown1 (by omega) (heap_setCell_other _ _ _ _ (by show g' ≠ bn; omega))
  · intro b hb h1 h2
    rw [heap_setCell_other _ _ _ _ (show b ≠ bn from h1), hgr.block b (by simp; omega) (by intro h; injection h with h; exact h2 h)]
    exact ((Below.refl w.heap.size w).alloc (Nat.le_refl _) _).block b hb

theorem Box.of_heap {w w' : World} {H : Nat} {a b f c m : Int} (h : Box w H a b f c m) (hq : w'.heap[H]? = w.heap[H]?) : Box w' H a b f c m :=
  ⟨(World.cell?_of_block (a := ⟨H, 0, none⟩) hq).trans h.c0, (World.cell?_of_block (a := ⟨H, 1, none⟩) hq).trans h.c1, (World.cell?_of_block (a := ⟨H, 2, none⟩) hq).trans h.c2, (World.cell?_of_block (a := ⟨H, 3, none⟩) hq).trans h.c3, (World.cell?_of_block (a := ⟨H, 4, none⟩) hq).trans h.c4⟩
/-! ### the times in plain words -/
def tmS (b f c s m : Int) : Nat → List Int × Int × Bool
  | 0 => ([s], s, true)
  | k + 1 => if (tmS b f c s m k).2.2 = true then
      (if s + m < (tmS b f c s m k).2.1 + dl b f c k then ((tmS b f c s m k).1, (tmS b f c s m k).2.1, false)
       else ((tmS b f c s m k).1 ++ [(tmS b f c s m k).2.1 + dl b f c k], (tmS b f c s m k).2.1 + dl b f c k, true))
    else tmS b f c s m k
theorem tm_stop {b f c s m : Int} {k : Nat} (h : (tmS b f c s m k).2.2 = true) (h2 : s + m < (tmS b f c s m k).2.1 + dl b f c k) : tmS b f c s m (k + 1) = ((tmS b f c s m k).1, (tmS b f c s m k).2.1, false) := by
  show (if _ then _ else _) = _
  rw [if_pos h, if_pos h2]
theorem tm_go {b f c s m : Int} {k : Nat} (h : (tmS b f c s m k).2.2 = true) (h2 : ¬ s + m < (tmS b f c s m k).2.1 + dl b f c k) : tmS b f c s m (k + 1) = ((tmS b f c s m k).1 ++ [(tmS b f c s m k).2.1 + dl b f c k], (tmS b f c s m k).2.1 + dl b f c k, true) := by
  show (if _ then _ else _) = _
  rw [if_pos h, if_neg h2]
theorem tm_done {b f c s m : Int} {k : Nat} (h : (tmS b f c s m k).2.2 = false) : ∀ j, tmS b f c s m (k + j) = tmS b f c s m k := by
  intro j
  induction j with
  | zero => rfl
  | succ j ih =>
    show (if _ then _ else _) = _
    rw [if_neg (by show ¬ (tmS b f c s m (k + j)).2.2 = true; rw [ih, h]; simp)]
    exact ih
theorem tm_facts {b f c s m : Int} (hb : 1 ≤ b) (hf : 1 ≤ f) (hbc : b ≤ c) (hm : 0 ≤ m) (k : Nat) :
    0 < (tmS b f c s m k).1.length ∧ (tmS b f c s m k).1.length ≤ k + 1 ∧ (tmS b f c s m k).1[(tmS b f c s m k).1.length - 1]? = some (tmS b f c s m k).2.1 ∧ s ≤ (tmS b f c s m k).2.1 ∧ (tmS b f c s m k).2.1 ≤ s + m := by
  induction k with
  | zero => exact ⟨by simp [tmS], by simp [tmS], by simp [tmS], Int.le_refl _, by show s ≤ s + m; omega⟩
  | succ k ih =>
    obtain ⟨h1, h2, h3, h4, h5⟩ := ih
    have hd := (dl_bd hb hf hbc k).1
    cases hg : (tmS b f c s m k).2.2
    · have e := tm_done hg 1
      rw [e]
      exact ⟨h1, by omega, h3, h4, h5⟩
    · by_cases hs : s + m < (tmS b f c s m k).2.1 + dl b f c k
      · rw [tm_stop hg hs]
        exact ⟨h1, Nat.le_succ_of_le h2, h3, h4, h5⟩
      · rw [tm_go hg hs]
        refine ⟨by simp, by show (_ ++ [_] : List Int).length ≤ _; rw [List.length_append]; show _ + 1 ≤ _; omega, by simp, by show s ≤ _ + _; omega, by show _ + _ ≤ s + m; omega⟩
/-- What the loop knows of the slice that grows. -/
structure TS (w0 w : World) (bn bf bp base H : Nat) (s m : Int) (l : List Int) (g cap : Nat) : Prop where
  low : Below base w0 w
  cell : w.cell? ⟨bn, 0, none⟩ = some (.slice (some ⟨g, 0, none⟩) l.length cap)
  free : w.frozen? ⟨bn, 0, none⟩ = false
  own : w.ownsRow base 3 1 (.slice (some ⟨g, 0, none⟩) l.length cap) l.length (l.map (Value.int .i64))
  cs : w.cell? ⟨bf, 0, none⟩ = some (.int .i64 s)
  cm : w.cell? ⟨bp, 4, none⟩ = some (.int .i64 m)
  ne : bn ≠ g
  far : g ≠ bf ∧ g ≠ bp ∧ g ≠ H
  sz : bn < w.heap.size ∧ bf < w.heap.size ∧ bp < w.heap.size ∧ H < w.heap.size ∧ base ≤ w.heap.size
theorem TS.base_le {w0 w : World} {bn bf bp base H : Nat} {s m : Int} {l : List Int} {g cap : Nat} (h : TS w0 w bn bf bp base H s m l g cap) (hl : 0 < l.length) : base ≤ g ∧ g < w.heap.size := by
  obtain ⟨g2, cap2, hv, h1, h2⟩ := own_form h.own hl
  have : g = g2 := by injection hv with a1 _ _; injection a1 with a1; injection a1 with a1
  subst this
  exact ⟨h1, h2⟩
theorem TS.step {w0 w w' : World} {bn bf bp base H : Nat} {s m y : Int} {l : List Int} {g cap g' cap' : Nat} (h : TS w0 w bn bf bp base H s m l g cap) (hl : 0 < l.length) (hb : base ≤ bn) (hne : bn ≠ bf ∧ bn ≠ bp ∧ bn ≠ H)
    (hG : Grew w w' bn g base l y g' cap') : TS w0 w' bn bf bp base H s m (l ++ [y]) g' cap' := by
  obtain ⟨b1, b2⟩ := h.base_le hl
  obtain ⟨z1, z2, z3, z4, z5⟩ := h.sz
  obtain ⟨f1, f2, f3⟩ := h.far
  have hs := hG.size
  refine ⟨h.low.trans (hG.low base hb b1 z5), hG.cell, hG.free, hG.own, ?_, ?_, hG.apart, ?_, ⟨by omega, by omega, by omega, by omega, by omega⟩⟩
  · rw [World.cell?_of_block (a := ⟨bf, 0, none⟩) (hG.keep bf z2 (fun e => hne.1 e.symm) (fun e => f1 e.symm))]; exact h.cs
  · rw [World.cell?_of_block (a := ⟨bp, 4, none⟩) (hG.keep bp z3 (fun e => hne.2.1 e.symm) (fun e => f2 e.symm))]; exact h.cm
  · rcases hG.at_ with e | e
    · rw [e]; exact ⟨f1, f2, f3⟩
    · exact ⟨by omega, by omega, by omega⟩
set_option maxHeartbeats 2000000 in
set_option maxRecDepth 100000 in
theorem delays_S (a b f c m s : Int) (bn bf bp base g0 cap0 : Nat) (w0 w : World) (hok : RP.ok ⟨a, b, f, c, m⟩ = true) (h0 : 0 ≤ s) (h1 : s ≤ 1073741824)
    (h : ∀ W, Below w.heap.size w W → w.heap.size < W.heap.size → TS w0 W bn bf bp base w.heap.size s m [s] g0 cap0) (hb : base ≤ bn) (hbw : bn < w.heap.size) (hne : bn ≠ bf ∧ bn ≠ bp) :
    Calls Tryd.prog 24 #[.agg #[.int .i64 a, .int .i64 b, .int .i64 f, .int .i64 c, .int .i64 m], .func (.func 34) #[] #[.pointer (some ⟨bn, 0, none⟩), .pointer (some ⟨bf, 0, none⟩), .pointer (some ⟨bp, 0, none⟩)]] w fun e w' =>
      ∃ g cap H, e = .returned (.tuple #[]) ∧ TS w0 w' bn bf bp base H s m (tmS b f c s m (a.toNat - 1)).1 g cap := by
  have hbd := (RP.ok_iff _).1 hok
  simp only at hbd
  obtain ⟨a1, a2, b1, b2, f1, f2, c1, c2, m1, m2⟩ := hbd
  have HD := Lib.hid (And.intro (dl_bd b1 f1 c1) (tm_facts (s := s) b1 f1 c1 m1))
  have HB0 := Box.new w a b f c m 23
  have hT := h (w.alloc (.cells #[.int .i64 a, .int .i64 b, .int .i64 f, .int .i64 c, .int .i64 m] 23)) ((Below.refl _ _).alloc (Nat.le_refl _) _) (by simp)
  have HH := Lib.hid (And.intro HB0 hT)
  clear HB0 hT h hok
  go_enter Tryd.func24, Tryd.ntmps24
  go_wp2_with fail
  go_loopw [4, 5] (fun d k wr => ∃ (i g cap : Nat), 1 ≤ i ∧ (i : Int) ≤ a ∧ k = .int .i64 i ∧ d = .int .i64 (dl b f c (i - 1)) ∧ (tmS b f c s m (i - 1)).2.2 = true ∧ TS w0 wr bn bf bp base w.heap.size s m (tmS b f c s m (i - 1)).1 g cap ∧ Box wr w.heap.size a b f c m) (fun _ k _ => 20 - (Lib.intOf k).toNat)
  case atStart => exact ⟨1, g0, cap0, Nat.le_refl _, a1, rfl, rfl, rfl, HH.out.2, HH.out.1⟩
  case round =>
    obtain ⟨i, g, cap, hi1, hi2, rfl, rfl, hgo, hts, hbx⟩ := hrel
    obtain ⟨d1, d2, -⟩ := HD.out.1 (i - 1)
    obtain ⟨l1, l2, l3, l4, l5⟩ := HD.out.2 (i - 1)
    have hmin := dl_min (b := b) (f := f) (c := c) (i - 1)
    rw [show i - 1 + 1 = i by omega] at hmin
    obtain ⟨mm1, mm2⟩ := mul_bd d1 d2 c2 f1 f2
    have hstop := fun h => tm_stop (b := b) (f := f) (c := c) (s := s) (m := m) (k := i - 1) hgo h
    have hnext := fun h => tm_go (b := b) (f := f) (c := c) (s := s) (m := m) (k := i - 1) hgo h
    rw [show i - 1 + 1 = i by omega] at hstop hnext
    have HM := Lib.hid (And.intro hmin (And.intro hstop (And.intro hnext (And.intro hts hbx))))
    have HL := Lib.hid l3
    clear hmin hstop hnext hts l3 hgo
    obtain ⟨q0, q1, q2, q3, q4⟩ := hbx
    by_cases hia : (i : Int) < a
    · generalize hdq : dl b f c (i - 1) = d at *
      clear hdq
      generalize hL : (tmS b f c s m (i - 1)).1 = l at *
      generalize hx : (tmS b f c s m (i - 1)).2.1 = x at *
      clear hL hx
      go_wp2_with fail
      rw [Int.min_eq_left d2]
      obtain ⟨hmin, hstop, hnext, hts, hbx⟩ := HM.out
      obtain ⟨tb1, tb2⟩ := hts.base_le l1
      have hlast : wr.cell? ⟨g, l.length - 1, none⟩ = some (.int .i64 x) := by
        rw [hts.own.cellAt (l.length - 1) (by omega), List.getElem?_map, HL.out]; rfl
      have hTS := Lib.hid hts
      have hBX := Lib.hid hbx
      have HN := Lib.hid (And.intro hmin (And.intro hstop hnext))
      clear hmin hstop hnext hts hbx HM q0 q1 q2 q3 q4
      by_cases hs : s + m < x + d
      · have HQ := Lib.hid (HN.out.2.1 hs)
        refine (S1_stop (i : Int) d s m x bn bf bp g cap l.length wr hTS.out.cell l1 (by omega) hlast hTS.out.cs hTS.out.cm (by omega) (by omega) (by omega) (by omega) (by omega) (by omega) (by omega) (by omega) hs).mono ?_
        rintro e w1 ⟨rfl, rfl⟩
        clear hlast
        go_wp2_with fail
        refine bodyPost_ret (results_none (by rfl) _ _ _) rfl ⟨g, cap, w.heap.size, rfl, ?_⟩
        have hd := tm_done (b := b) (f := f) (c := c) (s := s) (m := m) (k := i) (by rw [HQ.out]) (a.toNat - 1 - i)
        rw [show i + (a.toNat - 1 - i) = a.toNat - 1 by omega] at hd
        rw [hd, HQ.out]
        exact hTS.out
      · have HQ := Lib.hid (HN.out.2.2 (by omega))
        refine (S1_go (i : Int) d s m x bn bf bp g cap base l wr hTS.out.cell hTS.out.free l1 (by omega) hTS.out.own hlast hTS.out.cs hTS.out.cm hTS.out.sz.1 hTS.out.ne hTS.out.sz.2.2.2.2 (by omega) (by omega) (by omega) (by omega) (by omega) (by omega) (by omega) (by omega) (by omega)).mono ?_
        rintro e w1 ⟨g', cap', rfl, hG⟩
        clear hlast
        have hts2 := hTS.out.step l1 hb ⟨hne.1, hne.2, by omega⟩ hG
        have hbx2 : Box w1 w.heap.size a b f c m := hBX.out.of_heap (hG.keep _ hTS.out.sz.2.2.2.1 (by omega) (fun e => hTS.out.far.2.2 e.symm))
        have HT2 := Lib.hid (And.intro hts2 hbx2)
        obtain ⟨q0, q1, q2, q3, q4⟩ := hbx2
        clear hts2 hG
        have hmin := HN.out.1
        go_wp2_with fail
        go_roundw
        case rel => exact ⟨i + 1, g', cap', by omega, by omega, by go_num, rfl, by rw [Nat.add_sub_cancel, HQ.out], by rw [Nat.add_sub_cancel, HQ.out]; exact HT2.out.1, HT2.out.2⟩
        case measure => simp [Lib.intOf]; omega
    · have HS := Lib.hid HM.out.2.2.2.1
      clear HM
      go_wp2_with fail
      go_end0
      refine ⟨rfl, g, cap, w.heap.size, ?_⟩
      rw [show a.toNat - 1 = i - 1 by omega]
      exact HS.out
end Go.Proofs.YtefaojbfoboikaaDoor
