/- Both collectors by one contract each for Flush and Add; two collectors side by side. -/
import Derived.Test.YtfgohjoamifpiaaWN
namespace Go.Proofs.Ytfgohjoamifpiaa
open Go.RowKit
open Go.Sort (grow)

def flR (win : Int) (xs : List Rec) (f n m : Int) : List Rec × List Rec × Int :=
  if m < n ∨ 1073741824 < m then ([], xs, n) else if xs.isEmpty = true ∨ m < f + win then ([], xs, m) else (xs, [], m)
def adR (s c : Int) (xs : List Rec) (f n m : Int) (x : Rec) : List Rec × List Rec × Int × Int × Int :=
  if m < 0 ∨ 1073741824 < m then ([], xs, f, n, 2) else if m < n then ([], xs, f, n, 11) else if fitsR s c xs x = true then ([], xs ++ [x], if xs.isEmpty = true then m else f, m, 0) else (xs, [x], m, m, 0)
def sumR (l : List Rec) : Nat := (l.map fun r => r.body.length).sum
theorem sumR_eq (l : List RecX) : sumBody l = sumR (l.map (·.r)) := by
  unfold sumBody sumR
  rw [List.map_map]
  rfl
theorem flR_bound (win : Int) (xs : List Rec) (f n m : Int) (hn : 0 ≤ n ∧ n ≤ 1073741824) : sumR (flR win xs f n m).2.1 ≤ sumR xs ∧ (flR win xs f n m).2.1.length ≤ xs.length ∧ 0 ≤ (flR win xs f n m).2.2 ∧ (flR win xs f n m).2.2 ≤ 1073741824 ∧
    sumR (flR win xs f n m).1 ≤ sumR xs ∧ (flR win xs f n m).1.length ≤ xs.length := by
  unfold flR
  split
  · exact ⟨Nat.le_refl _, Nat.le_refl _, hn.1, hn.2, by simp [sumR], by simp⟩
  · rename_i h
    have h1 : n ≤ m := by omega
    have h2 : m ≤ 1073741824 := by omega
    split
    · exact ⟨Nat.le_refl _, Nat.le_refl _, Int.le_trans hn.1 h1, h2, by simp [sumR], by simp⟩
    · exact ⟨by simp [sumR], by simp, Int.le_trans hn.1 h1, h2, Nat.le_refl _, Nat.le_refl _⟩
theorem adR_bound (s c : Int) (xs : List Rec) (f n m : Int) (x : Rec) (hf : 0 ≤ f ∧ f ≤ 1073741824) (hn : 0 ≤ n ∧ n ≤ 1073741824) :
    sumR (adR s c xs f n m x).2.1 ≤ sumR xs + x.body.length ∧ (adR s c xs f n m x).2.1.length ≤ xs.length + 1 ∧ (0 ≤ (adR s c xs f n m x).2.2.1 ∧ (adR s c xs f n m x).2.2.1 ≤ 1073741824) ∧ (0 ≤ (adR s c xs f n m x).2.2.2.1 ∧ (adR s c xs f n m x).2.2.2.1 ≤ 1073741824) ∧
      sumR (adR s c xs f n m x).1 ≤ sumR xs ∧ (adR s c xs f n m x).1.length ≤ xs.length := by
  unfold adR
  split
  · exact ⟨by simp, by simp, hf, hn, by simp [sumR], by simp⟩
  · rename_i h
    have h1 : 0 ≤ m := by omega
    have h2 : m ≤ 1073741824 := by omega
    split
    · exact ⟨by simp, by simp, hf, hn, by simp [sumR], by simp⟩
    · split
      · refine ⟨by simp [sumR], by simp, ?_, ⟨h1, h2⟩, by simp [sumR], by simp⟩
        show 0 ≤ (if xs.isEmpty = true then m else f) ∧ (if xs.isEmpty = true then m else f) ≤ 1073741824
        split
        · exact ⟨h1, h2⟩
        · exact hf
      · exact ⟨by simp [sumR], by simp, ⟨h1, h2⟩, ⟨h1, h2⟩, Nat.le_refl _, Nat.le_refl _⟩

def FlPost (T : TypeId) (lay : Value → Int → Int → Array Value) (win : Int) (w : World) (B g : Nat) (A : Option Addr) (xs : List RecX) (f n m : Int) (e : Ending) (w' : World) : Prop :=
  ∃ V cV zs A2 c2 xs2 n2, e = .returned (.slice V (List.length zs) cV) ∧ Col T lay w' B g A2 c2 xs2 f n2 ∧ Chg (fun k => k = g) w w' ∧ RecsAt w' w'.heap.size V zs ∧ (∀ k, rowFoot B V zs k → rowFoot B A xs k) ∧
    (∀ k, foot B g A2 xs2 k → foot B g A xs k) ∧ (zs.map (·.r), xs2.map (·.r), n2) = flR win (xs.map (·.r)) f n m
def AdPost (T : TypeId) (lay : Value → Int → Int → Array Value) (p : Pol) (w : World) (B g : Nat) (A : Option Addr) (xs : List RecX) (f n m : Int) (x : Rec) (e : Ending) (w' : World) : Prop :=
  ∃ V cV zs A2 c2 xs2 f2 n2 er, e = .returned (.tuple #[.slice V (List.length zs) cV, .int .i64 er]) ∧ Col T lay w' B g A2 c2 xs2 f2 n2 ∧ Chg (hot g A) w w' ∧ RecsAt w' w'.heap.size V zs ∧ (∀ k, rowFoot B V zs k → rowFoot B A xs k) ∧
    (∀ k, foot B g A2 xs2 k → foot B g A xs k ∨ w.heap.size ≤ k) ∧ (zs.map (·.r), xs2.map (·.r), f2, n2, er) = adR p.size p.cells (xs.map (·.r)) f n m x
theorem recs_nil (w : World) (B : Nat) : RecsAt w B none [] := ⟨Reads.none_, by simp⟩
theorem rowFoot_nil {B k : Nat} {A : Option Addr} : ¬ rowFoot B A [] k := by
  rintro ⟨_, ⟨h, _⟩ | ⟨z, h, _⟩⟩
  · simp at h
  · simp at h
theorem foot_nil {B g k : Nat} (h : foot B g none [] k) : k = g := by
  rcases h with (e | e) | h
  · exact e
  · simp at e
  · exact absurd h rowFoot_nil

section
variable {p : Pol} {w : World} {B g c : Nat} {A : Option Addr} {xs : List RecX} {f n : Int}
theorem fl_of {T : TypeId} {lay : Value → Int → Int → Array Value} {w' : World} {e : Ending} (m : Int) (h1 : n ≤ m) (h2 : m ≤ 1073741824)
    (h : if xs.isEmpty = true ∨ m < f + p.window then e = .returned (.slice none 0 0) ∧ Col T lay w' B g A c xs f m ∧ Chg (fun k => k = g) w w'
      else e = .returned (.slice A xs.length c) ∧ Col T lay w' B g none 0 [] f m ∧ RecsAt w' w'.heap.size A xs ∧ Chg (fun k => k = g) w w') : FlPost T lay p.window w B g A xs f n m e w' := by
  have hno : ¬ (m < n ∨ 1073741824 < m) := by omega
  by_cases hc : xs.isEmpty = true ∨ m < f + p.window
  · rw [if_pos hc] at h
    obtain ⟨rfl, h3, h4⟩ := h
    refine ⟨none, 0, [], A, c, xs, m, rfl, h3, h4, recs_nil _ _, fun k hk => absurd hk rowFoot_nil, fun k hk => hk, ?_⟩
    unfold flR
    rw [if_neg hno, if_pos (by simpa using hc)]
    rfl
  · rw [if_neg hc] at h
    obtain ⟨rfl, h3, h4, h5⟩ := h
    refine ⟨A, c, xs, none, 0, [], m, rfl, h3, h5, h4, fun k hk => hk, fun k hk => .inl (.inl (foot_nil hk)), ?_⟩
    unfold flR
    rw [if_neg hno, if_neg (by simpa using hc)]
    rfl
theorem flushC_all (m : Int) (h : ColC p w B g A c xs f n) (hn : xs.length ≤ 1000000) (hf : 0 ≤ f ∧ f ≤ 1073741824) (hp : 0 ≤ p.window ∧ p.window ≤ 1073741824) :
    Calls Try.prog 20 #[.pointer (some ⟨g, 0, none⟩), .int .i64 m] w fun e w' => FlPost 61 (layC p) p.window w B g A xs f n m e w' := by
  by_cases hno : m < n ∨ 1073741824 < m
  · refine (flushC_no m h hno).mono ?_
    rintro e w' ⟨rfl, rfl⟩
    exact ⟨none, 0, [], A, c, xs, n, rfl, h, Chg.refl _ _, recs_nil _ _, fun k hk => absurd hk rowFoot_nil, fun k hk => hk, by unfold flR; rw [if_pos hno]; rfl⟩
  · exact (flushC_yes m h hn (by omega) (by omega) hf hp).mono fun e w' he => fl_of m (by omega) (by omega) he
theorem flushD_all (m : Int) (h : ColD p w B g A c xs f n) (hn : xs.length ≤ 1000000) (hf : 0 ≤ f ∧ f ≤ 1073741824) (hp : 0 ≤ p.window ∧ p.window ≤ 1073741824) :
    Calls Try.prog 21 #[.pointer (some ⟨g, 0, none⟩), .int .i64 m] w fun e w' => FlPost 73 (layD p) p.window w B g A xs f n m e w' := by
  by_cases hno : m < n ∨ 1073741824 < m
  · refine (flushD_no m h hno).mono ?_
    rintro e w' ⟨rfl, rfl⟩
    exact ⟨none, 0, [], A, c, xs, n, rfl, h, Chg.refl _ _, recs_nil _ _, fun k hk => absurd hk rowFoot_nil, fun k hk => hk, by unfold flR; rw [if_pos hno]; rfl⟩
  · exact (flushD_yes m h hn (by omega) (by omega) hf hp).mono fun e w' he => fl_of m (by omega) (by omega) he

theorem ad_fit {T : TypeId} {lay : Value → Int → Int → Array Value} {w' : World} {e : Ending} (m : Int) (x : RecX) (h1 : 0 ≤ m) (h2 : m ≤ 1073741824) (h3 : n ≤ m) (hF : fitsB p.size p.cells xs x = true) (h : AddFit T lay w B g A xs f m x e w') : AdPost T lay p w B g A xs f n m x.r e w' := by
  obtain ⟨A', c', x', rfl, hx, hcol, hch, hft⟩ := h
  refine ⟨none, 0, [], A', c', xs ++ [x'], _, m, 0, rfl, hcol, hch, recs_nil _ _, fun k hk => absurd hk rowFoot_nil, fun k hk => ?_, ?_⟩
  · rcases hft k hk with e | e | e
    · exact .inl e
    · exact .inr e
    · have := hcol.foot_ge k hk; omega
  · unfold adR
    rw [if_neg (show ¬ (m < 0 ∨ 1073741824 < m) by omega), if_neg (show ¬ m < n by omega), if_pos (show fitsR p.size p.cells (xs.map (·.r)) x.r = true by rw [fitsR_eq]; exact hF)]
    simp [hx]
theorem ad_full {T : TypeId} {lay : Value → Int → Int → Array Value} {w' : World} {e : Ending} (m : Int) (x : RecX) (h1 : 0 ≤ m) (h2 : m ≤ 1073741824) (h3 : n ≤ m) (hF : fitsB p.size p.cells xs x = false) (h : AddFull T lay w B g A c xs m x e w') : AdPost T lay p w B g A xs f n m x.r e w' := by
  obtain ⟨A', c', x', rfl, hx, hcol, hr, hch, hft⟩ := h
  refine ⟨A, c, xs, A', c', [x'], m, m, 0, rfl, hcol, hch.mono (fun k e => .inl e), hr, fun k hk => hk, fun k hk => ?_, ?_⟩
  · rcases hft k hk with e | e | e
    · exact .inl (.inl (.inl e))
    · exact .inr e
    · have := hcol.foot_ge k hk; omega
  · unfold adR
    rw [if_neg (show ¬ (m < 0 ∨ 1073741824 < m) by omega), if_neg (show ¬ m < n by omega), if_neg (show ¬ fitsR p.size p.cells (xs.map (·.r)) x.r = true by rw [fitsR_eq, hF]; simp)]
    simp [hx]
theorem addC_all (m : Int) (x : RecX) (h : ColC p w B g A c xs f n) (hb : sumBody xs + x.r.body.length ≤ 1000000) (hn : xs.length ≤ 1000000) (hxb : BodyAt w w.heap.size x) (hx0 : 0 < x.r.body.length → ∀ ad, x.ba = some ad → ad.block < B) :
    Calls Try.prog 22 #[.pointer (some ⟨g, 0, none⟩), .agg x.cells.toArray, .int .i64 m] w fun e w' => AdPost 61 (layC p) p w B g A xs f n m x.r e w' := by
  have hx1 : 0 < x.r.body.length → ∀ ad, x.ba = some ad → ¬ hot g A ad.block := fun hp ad ha hh => by have := h.hot_ge _ hh; have := hx0 hp ad ha; omega
  by_cases h1 : m < 0 ∨ 1073741824 < m
  · refine (addC_range m x h h1).mono ?_
    rintro e w' ⟨rfl, hb'⟩
    exact ⟨none, 0, [], A, c, xs, f, n, 2, rfl, h.below hb', Chg.of_below hb', recs_nil _ _, fun k hk => absurd hk rowFoot_nil, fun k hk => .inl hk, by unfold adR; rw [if_pos h1]; rfl⟩
  · by_cases h2 : m < n
    · refine (addC_order m x h (by omega) (by omega) h2).mono ?_
      rintro e w' ⟨rfl, hb'⟩
      exact ⟨none, 0, [], A, c, xs, f, n, 11, rfl, h.below hb', Chg.of_below hb', recs_nil _ _, fun k hk => absurd hk rowFoot_nil, fun k hk => .inl hk, by unfold adR; rw [if_neg h1, if_pos h2]; rfl⟩
    · cases hF : fitsB p.size p.cells xs x
      · exact (addC_full m x h (by omega) (by omega) (by omega) hF hb hn hxb hx1).mono fun e w' he => ad_full m x (by omega) (by omega) (by omega) hF he
      · exact (addC_fit m x h (by omega) (by omega) (by omega) hF hb hn hxb hx1).mono fun e w' he => ad_fit m x (by omega) (by omega) (by omega) hF he
theorem addD_all (m : Int) (x : RecX) (h : ColD p w B g A c xs f n) (hb : sumBody xs + x.r.body.length ≤ 1000000) (hn : xs.length ≤ 1000000) (hxb : BodyAt w w.heap.size x) (hx0 : 0 < x.r.body.length → ∀ ad, x.ba = some ad → ad.block < B) :
    Calls Try.prog 23 #[.pointer (some ⟨g, 0, none⟩), .agg x.cells.toArray, .int .i64 m] w fun e w' => AdPost 73 (layD p) p w B g A xs f n m x.r e w' := by
  by_cases h1 : m < 0 ∨ 1073741824 < m
  · refine (addD_range m x h h1).mono ?_
    rintro e w' ⟨rfl, hb'⟩
    exact ⟨none, 0, [], A, c, xs, f, n, 2, rfl, h.below hb', Chg.of_below hb', recs_nil _ _, fun k hk => absurd hk rowFoot_nil, fun k hk => .inl hk, by unfold adR; rw [if_pos h1]; rfl⟩
  · by_cases h2 : m < n
    · refine (addD_order m x h (by omega) (by omega) h2).mono ?_
      rintro e w' ⟨rfl, hb'⟩
      exact ⟨none, 0, [], A, c, xs, f, n, 11, rfl, h.below hb', Chg.of_below hb', recs_nil _ _, fun k hk => absurd hk rowFoot_nil, fun k hk => .inl hk, by unfold adR; rw [if_neg h1, if_pos h2]; rfl⟩
    · cases hF : fitsB p.size p.cells xs x
      · exact (addD_full m x h (by omega) (by omega) (by omega) hF hb hn hxb hx0).mono fun e w' he => ad_full m x (by omega) (by omega) (by omega) hF he
      · exact (addD_fit m x h (by omega) (by omega) (by omega) hF hb hn hxb hx0).mono fun e w' he => ad_fit m x (by omega) (by omega) (by omega) hF he
theorem Col.lower {T : TypeId} {lay : Value → Int → Int → Array Value} {B' : Nat} (h : Col T lay w B g A c xs f n) (hb : B' ≤ B) : Col T lay w B' g A c xs f n :=
  ⟨h.blk, ⟨own_base h.mine.row hb, h.mine.body, h.mine.apart⟩, by have := h.hg; omega, h.ne, h.bg⟩
end

/-- Two collectors side by side. -/
structure Two (p : Pol) (w3 : World) (B g h : Nat) (w : World) (A : Option Addr) (c : Nat) (xs : List RecX) (f n : Int) (A' : Option Addr) (c' : Nat) (ys : List RecX) (f' n' : Int) : Prop where
  cc : ColC p w B g A c xs f n
  dd : ColD p w B h A' c' ys f' n'
  low : Chg (fun k => k = g ∨ k = h) w3 w
  ftc : ∀ k, foot B g A xs k → k = g ∨ w3.heap.size ≤ k
  ftd : ∀ k, foot B h A' ys k → k = h ∨ w3.heap.size ≤ k
  apart : ∀ k, foot B g A xs k → ¬ foot B h A' ys k
section
variable {p : Pol} {w3 w w' : World} {B g h c c' c2 : Nat} {A A' A2 : Option Addr} {xs ys zs : List RecX} {f n f' n' f2 n2 : Int} {S : Nat → Prop}
theorem Two.stepC (t : Two p w3 B g h w A c xs f n A' c' ys f' n') (hcol : ColC p w' B g A2 c2 zs f2 n2) (hch : Chg S w w') (hS : ∀ k, S k → foot B g A xs k) (hft : ∀ k, foot B g A2 zs k → foot B g A xs k ∨ w.heap.size ≤ k) :
    Two p w3 B g h w' A2 c2 zs f2 n2 A' c' ys f' n' := by
  refine ⟨hcol, t.dd.chg hch (fun k hs => t.cc.foot_ge k (hS k hs)) fun k hk hs => t.apart k (hS k hs) hk, t.low.trans hch fun k hk hs => ?_, fun k hk => ?_, t.ftd, fun k hk hd => ?_⟩
  · rcases t.ftc k (hS k hs) with e | e
    · exact .inl e
    · omega
  · rcases hft k hk with e | e
    · exact t.ftc k e
    · exact .inr (Nat.le_trans t.low.size e)
  · rcases hft k hk with e | e
    · exact t.apart k e hd
    · have := t.dd.foot_lt k hd; omega
theorem Two.stepD (t : Two p w3 B g h w A c xs f n A' c' ys f' n') (hcol : ColD p w' B h A2 c2 zs f2 n2) (hch : Chg S w w') (hS : ∀ k, S k → foot B h A' ys k) (hft : ∀ k, foot B h A2 zs k → foot B h A' ys k ∨ w.heap.size ≤ k) :
    Two p w3 B g h w' A c xs f n A2 c2 zs f2 n2 := by
  refine ⟨t.cc.chg hch (fun k hs => t.dd.foot_ge k (hS k hs)) fun k hk hs => t.apart k hk (hS k hs), hcol, t.low.trans hch fun k hk hs => ?_, t.ftc, fun k hk => ?_, fun k hk hd => ?_⟩
  · rcases t.ftd k (hS k hs) with e | e
    · exact .inr e
    · omega
  · rcases hft k hk with e | e
    · exact t.ftd k e
    · exact .inr (Nat.le_trans t.low.size e)
  · rcases hft k hd with e | e
    · exact t.apart k hk e
    · have := t.cc.foot_lt k hk; omega
theorem Two.below (t : Two p w3 B g h w A c xs f n A' c' ys f' n') (hb : Below w.heap.size w w') : Two p w3 B g h w' A c xs f n A' c' ys f' n' :=
  ⟨t.cc.below hb, t.dd.below hb, t.low.below hb, t.ftc, t.ftd, t.apart⟩
/-- What C gave out ahead of D's step reads on behind it. -/
theorem Two.given {V : Option Addr} {zs : List RecX} (t : Two p w3 B g h w A2 c2 xs f2 n2 A' c' ys f' n') (hz : RecsAt w w.heap.size V zs) (hd : ∀ k, rowFoot B V zs k → ¬ foot B h A' ys k) (hch : Chg S w w') (hS : ∀ k, S k → foot B h A' ys k) : RecsAt w' w'.heap.size V zs :=
  RecsAt.chg (base := B) hz hch (fun k hs => t.dd.foot_ge k (hS k hs)) fun k hk hs => hd k hk (hS k hs)
end
end Go.Proofs.Ytfgohjoamifpiaa
