/- What Poll returns: the plain words; memory that stays but for two blocks. -/
import Derived.Test.YtojghgeemdpmpaaMCL
namespace Go.Proofs.Ytojghgeemdpmpaa
open Go.RowKit
open Go.Sort (grow)
open BO (inB)

def headOf (bs : List (List Rec)) : List Rec := match bs with | [] => [] | b :: _ => b
def seqOf (b : List Rec) : Int := match b with | [] => 0 | x :: _ => x.seq
/-- The state behind Poll. -/
def pollT (s : MS) (b : List Rec) (now : Int) : MS := if s.ac = 0 ∨ s.nx < seqOf b then ⟨s.sh, seqOf b, b.length, 1, now, s.wa, s.li⟩ else ⟨s.sh, seqOf b, b.length, s.ac + 1, s.fi, s.wa, s.li⟩
def pollB (s : MS) (p : Pol) (l : List Rec) : List Rec := headOf (cutR p.size p.cells (cand s.nx s.li l))
def pollG (s : MS) (p : Pol) (l : List Rec) (now : Int) : MS × List Rec × Int :=
  if cand s.nx s.li l = [] then (s, [], 0)
  else if (pollT s (pollB s p l) now).e = 0 then (pollT s (pollB s p l) now, pollB s p l, 0) else (MS.z, [], 2)
def pollS (s : MS) (p : Pol) (l : List Rec) (now : Int) : MS × List Rec × Int := if pollE s p l now = 0 then pollG s p l now else (MS.z, [], pollE s p l now)
def PollPost (x : MS × List Rec × Int) (w : World) (e : Ending) (w' : World) : Prop :=
  ∃ (A : Option Addr) (c : Nat) (b : List RecX), e = .returned (.tuple #[.agg x.1.cs, .slice A b.length c, .int .i64 x.2.2]) ∧ RecsAt w' w'.heap.size A b ∧ b.map (·.r) = x.2.1 ∧ Below w.heap.size w w'
section
variable {s : MS} {p : Pol} {l : List Rec} {now : Int}
theorem poll_no {n : Int} (h : pollE s p l now = n) (hn : n ≠ 0) : pollS s p l now = (MS.z, [], n) := by unfold pollS; rw [h, if_neg hn]
theorem poll_go (h : pollE s p l now = 0) : pollS s p l now = pollG s p l now := if_pos h
theorem pollG1 (h : cand s.nx s.li l = []) : pollG s p l now = (s, [], 0) := if_pos h
theorem pollG2 {b : List Rec} {t : MS} (h : cand s.nx s.li l ≠ []) (hb : pollB s p l = b) (ht : pollT s b now = t) (h0 : t.e = 0) : pollG s p l now = (t, b, 0) := by
  unfold pollG; rw [if_neg h, hb, ht, if_pos h0]
theorem pollG3 {b : List Rec} {t : MS} (h : cand s.nx s.li l ≠ []) (hb : pollB s p l = b) (ht : pollT s b now = t) (h0 : t.e ≠ 0) : pollG s p l now = (MS.z, [], 2) := by
  unfold pollG; rw [if_neg h, hb, ht, if_neg h0]
theorem pollT1 {b : List Rec} (h : s.ac = 0 ∨ s.nx < seqOf b) : pollT s b now = ⟨s.sh, seqOf b, b.length, 1, now, s.wa, s.li⟩ := if_pos h
theorem pollT2 {b : List Rec} (h : ¬ s.ac = 0) (h' : ¬ s.nx < seqOf b) : pollT s b now = ⟨s.sh, seqOf b, b.length, s.ac + 1, s.fi, s.wa, s.li⟩ := if_neg (by rintro (h1 | h1) <;> contradiction)
theorem pollE_ok (h : pollE s p l now = 0) : s.e = 0 ∧ checkE p = 0 ∧ ¬ 256 < l.length ∧ ordB s.sh l = true ∧ s.fl = 0 ∧ inB now 0 1073741824 = true := by
  by_cases h0 : s.e = 0
  · by_cases h1 : checkE p = 0
    · cases h2 : inB now 0 1073741824
      · rw [pollE2 h0 h1 h2] at h; cases h
      · by_cases h3 : 256 < l.length
        · rw [pollE3 h0 h1 h2 h3] at h; cases h
        · cases h4 : ordB s.sh l
          · rw [pollE4 h0 h1 h2 h3 h4] at h; cases h
          · cases h5 : (s.fl != 0)
            · exact ⟨h0, h1, h3, rfl, by simpa using h5, rfl⟩
            · rw [pollE5 h0 h1 h2 h3 h4 h5] at h; cases h
    · rw [pollE1 h0 h1] at h; exact absurd h h1
  · rw [pollE0 h0] at h; exact absurd h h0
end
theorem post_no {x : MS × List Rec × Int} {s : MS} {n : Int} {w w' : World} (h : x = (s, [], n)) (hw : Below w.heap.size w w') : PollPost x w (.returned (.tuple #[.agg s.cs, .slice none 0 0, .int .i64 n])) w' := by
  subst h
  exact ⟨none, 0, [], rfl, ⟨Reads.none_, by simp⟩, rfl, hw⟩
theorem post_yes {x : MS × List Rec × Int} {s : MS} {n : Int} {w w' : World} {A : Option Addr} {c : Nat} {b : List RecX} (h : x = (s, b.map (·.r), n)) (hr : RecsAt w' w'.heap.size A b) (hw : Below w.heap.size w w') : PollPost x w (.returned (.tuple #[.agg s.cs, .slice A b.length c, .int .i64 n])) w' := by
  subst h
  exact ⟨A, c, b, rfl, hr, rfl, hw⟩
theorem head_eq {m r : Int} {b0 : BatchX} {bs : List BatchX} {xs : List RecX} {C : List Rec} (h : (b0 :: bs).map (·.l) = cutS m r xs) (hx : xs.map (·.r) = C) : headOf (cutR m r C) = b0.l.map (·.r) := by
  rw [← hx, ← cutR_eq, ← h]
  rfl
theorem cut_some {m r : Int} {bs : List BatchX} {xs : List RecX} (h : bs.map (·.l) = cutS m r xs) (hx : xs ≠ []) : ∃ b0 bs', bs = b0 :: bs' := by
  cases bs with
  | nil =>
    exfalso
    apply hx
    rw [← cutS_flatten m r xs, ← h]
    rfl
  | cons b0 bs' => exact ⟨b0, bs', rfl⟩

/-- All stays but for two blocks. -/
structure Only (g g' : Nat) (w w' : World) : Prop where
  size : w.heap.size ≤ w'.heap.size
  cell : ∀ p : Addr, p.block < w.heap.size → p.block ≠ g → p.block ≠ g' → w'.cell? p = w.cell? p
section
variable {g g' : Nat} {w w1 w2 : World}
theorem Only.refl (g g' : Nat) (w : World) : Only g g' w w := ⟨Nat.le_refl _, fun _ _ _ _ => rfl⟩
theorem Only.below (h : Only g g' w w1) (hb : Below w1.heap.size w1 w2) : Only g g' w w2 :=
  ⟨Nat.le_trans h.size hb.size, fun p hp h1 h2 => (hb.cell (Nat.lt_of_lt_of_le hp h.size)).trans (h.cell p hp h1 h2)⟩
theorem Only.set_ (h : Only g g' w w1) {p : Addr} (hp : p.block = g ∨ p.block = g') (u : Value) : Only g g' w (w1.setCell p u) :=
  ⟨by simpa [World.setCell] using h.size, fun q hq h1 h2 => (World.cell?_setCell_other w1 p _ u (by rintro rfl; rcases hp with hp | hp <;> contradiction)).trans (h.cell q hq h1 h2)⟩
theorem Only.set7 (h : Only g g' w w1) {H : Nat} (hp : H = g ∨ H = g') (x0 x1 x2 x3 x4 x5 x6 : Value) : Only g g' w (((((((w1.setCell ⟨H, 0, none⟩ x0).setCell ⟨H, 1, none⟩ x1).setCell ⟨H, 2, none⟩ x2).setCell ⟨H, 3, none⟩ x3).setCell ⟨H, 4, none⟩ x4).setCell ⟨H, 5, none⟩ x5).setCell ⟨H, 6, none⟩ x6) :=
  ((((((h.set_ (p := ⟨H, 0, none⟩) hp x0).set_ (p := ⟨H, 1, none⟩) hp x1).set_ (p := ⟨H, 2, none⟩) hp x2).set_ (p := ⟨H, 3, none⟩) hp x3).set_ (p := ⟨H, 4, none⟩) hp x4).set_ (p := ⟨H, 5, none⟩) hp x5).set_ (p := ⟨H, 6, none⟩) hp x6
theorem Only.drewN (h : Only g g' w w1) (n : Nat) : Only g g' w (w1.drewN n) := ⟨h.size, fun p hp h1 h2 => h.cell p hp h1 h2⟩
theorem Only.drew (h : Only g g' w w1) : Only g g' w w1.drew := ⟨h.size, fun p hp h1 h2 => h.cell p hp h1 h2⟩
end
/-- A block of integers alone. -/
def Ints (w : World) (g : Nat) : Prop := ∀ o v, w.cell? ⟨g, o, none⟩ = some v → ∃ n, v = .int .i64 n
theorem Ints.of {w : World} {g : Nat} {t : TypeId} {y0 y1 y2 y3 y4 y5 y6 : Int} (h : Blk w g t #[.int .i64 y0, .int .i64 y1, .int .i64 y2, .int .i64 y3, .int .i64 y4, .int .i64 y5, .int .i64 y6]) : Ints w g := by
  intro o v hv
  rw [h.cell o] at hv
  match o, hv with
  | 0, hv => exact ⟨_, by simpa using hv.symm⟩
  | 1, hv => exact ⟨_, by simpa using hv.symm⟩
  | 2, hv => exact ⟨_, by simpa using hv.symm⟩
  | 3, hv => exact ⟨_, by simpa using hv.symm⟩
  | 4, hv => exact ⟨_, by simpa using hv.symm⟩
  | 5, hv => exact ⟨_, by simpa using hv.symm⟩
  | 6, hv => exact ⟨_, by simpa using hv.symm⟩
  | n + 7, hv => simp at hv
theorem Reads.only {w w' : World} {B size n g g' : Nat} {A : Option Addr} {xs : List Value} (h : Reads w B size A n xs) (hB : B ≤ w.heap.size) (ho : Only g g' w w') (hne : 0 < n → ∀ ad, A = some ad → ad.block ≠ g ∧ ad.block ≠ g') : Reads w' w'.heap.size size A n xs :=
  (h.keepAt' fun hn ad ha hb _ => ho.cell _ (Nat.lt_of_lt_of_le hb hB) (hne hn ad ha).1 (hne hn ad ha).2).more (Nat.le_trans hB ho.size)
theorem body_ne {w : World} {B g : Nat} {x : RecX} (h : BodyAt w B x) (hi : Ints w g) (hn : 0 < x.r.body.length) (ad : Addr) (ha : x.ba = some ad) : ad.block ≠ g := by
  obtain ⟨b, o, e, _, hc⟩ := h.2 hn
  rw [ha] at e
  injection e with e
  subst e
  rintro rfl
  cases hbd : x.r.body with
  | nil => rw [hbd] at hn; simp at hn
  | cons y ys =>
    rw [hbd] at hc
    obtain ⟨n, hv⟩ := hi _ _ (hc 2 (.string y.str) (by simp [CellV.cells]))
    cases hv
theorem row_ne {w : World} {B g : Nat} {A : Option Addr} {l : List RecX} (h : RecsAt w B A l) (hi : Ints w g) (hn : 0 < l.length) (ad : Addr) (ha : A = some ad) : ad.block ≠ g := by
  obtain ⟨b, o, e, _, hc⟩ := h.get hn
  rw [ha] at e
  injection e with e
  subst e
  rintro rfl
  obtain ⟨n, hv⟩ := hi _ _ (hc 3 (.string l[0].r.id) (by simp [RecX.cells]))
  cases hv
theorem RecsAt.only {w w' : World} {B g g' : Nat} {A : Option Addr} {l : List RecX} (h : RecsAt w B A l) (hB : B ≤ w.heap.size) (ho : Only g g' w w') (hi : Ints w g) (hi' : Ints w g') : RecsAt w' w'.heap.size A l :=
  ⟨h.1.only hB ho fun hn ad ha => ⟨row_ne h hi hn ad ha, row_ne h hi' hn ad ha⟩, fun x hx => Reads.only (h.2 x hx) hB ho fun hn ad ha => ⟨body_ne (h.2 x hx) hi hn ad ha, body_ne (h.2 x hx) hi' hn ad ha⟩⟩
theorem Blk.p5 {w : World} {g : Nat} {t : TypeId} {y0 y1 y2 y3 y4 y5 y6 : Value} (h : Blk w g t #[y0, y1, y2, y3, y4, y5, y6]) (a b c q n : Value) : Blk (((((w.setCell ⟨g, 3, none⟩ a).setCell ⟨g, 4, none⟩ b).setCell ⟨g, 3, none⟩ c).setCell ⟨g, 1, none⟩ q).setCell ⟨g, 2, none⟩ n) g t #[y0, q, n, c, b, y5, y6] := by
  simpa using (((((h.set_ 3 a).set_ 4 b).set_ 3 c).set_ 1 q).set_ 2 n)
theorem Blk.p3 {w : World} {g : Nat} {t : TypeId} {y0 y1 y2 y3 y4 y5 y6 : Value} (h : Blk w g t #[y0, y1, y2, y3, y4, y5, y6]) (c q n : Value) : Blk (((w.setCell ⟨g, 3, none⟩ c).setCell ⟨g, 1, none⟩ q).setCell ⟨g, 2, none⟩ n) g t #[y0, q, n, c, y4, y5, y6] := by
  simpa using (((h.set_ 3 c).set_ 1 q).set_ 2 n)
/-- The first batch of a list of them. -/
theorem OutInv.head {w : World} {base : Nat} {v : Value} {b0 : BatchX} {bs : List BatchX} (h : OutInv w base v (b0 :: bs)) : ∃ g c, v = .slice (some ⟨g, 0, none⟩) (bs.length + 1) c ∧ g < w.heap.size ∧ w.cell? ⟨g, 0, none⟩ = some (.slice b0.a b0.l.length b0.c) := by
  rcases h.row.2 with ⟨_, h0⟩ | ⟨g, cap, cur, rfl, hg, hgg, _⟩
  · simp at h0
  · refine ⟨g, cap, rfl, (Array.getElem?_eq_some_iff.1 hgg).1, ?_⟩
    rw [h.row.cellAt 0 (by simp)]
    rfl
theorem BatchX.Own.first {w : World} {base : Nat} {b : BatchX} (h : b.Own w base) : ∃ g x r, b.a = some ⟨g, 0, none⟩ ∧ g < w.heap.size ∧ b.l = x :: r ∧ w.cell? ⟨g, 1, none⟩ = some (.int .i64 x.r.seq) := by
  obtain ⟨g, ha, _, _, hlt, _⟩ := h.block
  cases hl : b.l with
  | nil => have := h.1; rw [hl] at this; simp at this
  | cons x r =>
    refine ⟨g, x, r, ha, hlt, rfl, ?_⟩
    have hr := Reads.of_own h.2
    obtain ⟨b', o, e, _, hc⟩ := hr.2 h.1
    rw [ha] at e
    injection e with e
    injection e with e1 e2
    subst e1 e2
    have := hc 1 (.int .i64 x.r.seq) (by simp [BatchX.flat, hl, RecX.cells])
    simpa using this
end Go.Proofs.Ytojghgeemdpmpaa
