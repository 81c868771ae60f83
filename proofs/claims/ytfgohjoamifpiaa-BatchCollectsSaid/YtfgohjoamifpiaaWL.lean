/- The state of a loop that adds records to a collector and keeps the batches that it returns. -/
import Derived.Test.YtfgohjoamifpiaaWJ
namespace Go.Proofs.Ytfgohjoamifpiaa
open Go.RowKit
open Go.Sort (grow)

theorem same_len {l xs : List RecX} (h : xs.map (·.r) = l.map (·.r)) : sumBody xs = sumBody l ∧ xs.length = l.length := by
  refine ⟨?_, by have := congrArg List.length h; simpa using this⟩
  have := congrArg (List.map fun r : Rec => r.body.length) h
  rw [List.map_map, List.map_map] at this
  exact congrArg List.sum this

/-- After k records: the batches given out and the one under way are those of the division. -/
def GRel (s c : Int) (l : List RecX) (k : Nat) (out : List BatchX) (xs : List RecX) : Prop :=
  (k = 0 ∧ out = [] ∧ xs = []) ∨ ∃ ini last, ini ++ [last] = cutS s c (l.take k) ∧ out.map (fun b => b.l.map (·.r)) = ini.map (·.map (·.r)) ∧ xs.map (·.r) = last.map (·.r)
section
variable {s c : Int} {l : List RecX} {k : Nat} {out : List BatchX} {xs : List RecX} {x' : RecX}
theorem GRel.fit (h : GRel s c l k out xs) (hk : k < l.length) (hF : fitsB s c xs l[k] = true) (hx : x'.r = l[k].r) : GRel s c l (k + 1) out (xs ++ [x']) := by
  rcases h with ⟨rfl, rfl, rfl⟩ | ⟨ini, last, h1, h2, h3⟩
  · exact .inr ⟨[], [l[0]], by rw [cutS_snoc s c l 0 hk]; rfl, rfl, by simp [hx]⟩
  · refine .inr ⟨ini, last ++ [l[k]], ?_, h2, by simp [h3, hx]⟩
    rw [cutS_snoc s c l k hk, ← h1, cutStep_yes _ _ _ _ _ (by rw [← fitsR_eq, ← h3, fitsR_eq]; exact hF)]
theorem GRel.full (h : GRel s c l k out xs) (hk : k < l.length) (hF : fitsB s c xs l[k] = false) (hx : x'.r = l[k].r) (A : Option Addr) (cc : Nat) : GRel s c l (k + 1) (out ++ [⟨A, cc, xs⟩]) [x'] := by
  rcases h with ⟨rfl, rfl, rfl⟩ | ⟨ini, last, h1, h2, h3⟩
  · exact absurd hF (by simp [fitsB])
  · refine .inr ⟨ini ++ [last], [l[k]], ?_, by simp [h2, h3], by simp [hx]⟩
    rw [cutS_snoc s c l k hk, ← h1, cutStep_no _ _ _ _ _ (by rw [← fitsR_eq, ← h3, fitsR_eq]; exact hF)]
theorem GRel.bound (h : GRel s c l k out xs) (hk : k < l.length) : sumBody xs + l[k].r.body.length ≤ sumBody l ∧ xs.length ≤ l.length := by
  rcases h with ⟨rfl, rfl, rfl⟩ | ⟨ini, last, h1, h2, h3⟩
  · have h1 := sumBody_snoc l 0 hk
    have h2 := sumBody_le l (0 + 1)
    refine ⟨?_, by simp⟩
    show sumBody [] + _ ≤ _
    rw [show sumBody [] = 0 from rfl]
    omega
  · obtain ⟨_, p2, p3⟩ := cut_part hk h1
    obtain ⟨q1, q2⟩ := same_len h3
    exact ⟨by omega, by omega⟩
theorem GRel.final (h : GRel s c l l.length out xs) (hl : 0 < l.length) {bs : List BatchX} (hbs : bs.map (fun b => b.l.map (·.r)) = cutR s c (l.map (·.r))) :
    bs.length = out.length + 1 ∧ out.map (fun b => b.l.map (·.r)) = (bs.take out.length).map (fun b => b.l.map (·.r)) ∧ ∃ hb : out.length < bs.length, xs.length = bs[out.length].l.length := by
  rcases h with ⟨h0, _, _⟩ | ⟨ini, last, h1, h2, h3⟩
  · omega
  · rw [List.take_length] at h1
    rw [← cutR_eq, ← h1, List.map_append, List.map_singleton] at hbs
    have hol : out.length = ini.length := by have := congrArg List.length h2; simpa using this
    have hbl : bs.length = out.length + 1 := by have := congrArg List.length hbs; simp at this; omega
    have hlt : out.length < bs.length := by omega
    refine ⟨hbl, ?_, hlt, ?_⟩
    · rw [h2, List.map_take, hbs, List.take_left' (by simp [hol])]
    · have h4 : (bs.map (fun b => b.l.map (·.r)))[out.length]? = some (last.map (·.r)) := by
        rw [hbs, List.getElem?_append_right (by simp [hol])]
        simp [hol]
      rw [List.getElem?_map, List.getElem?_eq_getElem hlt] at h4
      simp only [Option.map_some, Option.some.injEq] at h4
      have h5 := congrArg List.length (h4.trans h3.symm)
      simpa using h5.symm
end

theorem own_chg {S : Nat → Prop} {w w' : World} {base size n : Nat} {e : TypeId} {v : Value} {ys : List Value} (h : w.ownsRow base e size v n ys) (hc : Chg S w w') (hd : ∀ k, v.ownBlock = some k → ¬ S k) : w'.ownsRow base e size v n ys := by
  refine ⟨h.1, ?_⟩
  rcases h.2 with h0 | ⟨gg, cap, cur, hv, hb, hgg, r⟩
  · exact .inl h0
  · refine .inr ⟨gg, cap, cur, hv, hb, ?_, r⟩
    rw [hc.block gg (Array.getElem?_eq_some_iff.1 hgg).1 (hd gg (by rw [hv]; rfl))]
    exact hgg

structure Gat (T : TypeId) (lay : Value → Int → Int → Array Value) (w3 : World) (base g : Nat) (w : World) (v : Value) (out : List BatchX) (A : Option Addr) (c : Nat) (xs : List RecX) (first now : Int) : Prop where
  col : Col T lay w base g A c xs first now
  row : w.ownsRow w3.heap.size 24 1 v out.length (out.map BatchX.val)
  low : Chg (fun k => k = g) w3 w
  ft : ∀ k, foot base g A xs k → k = g ∨ w3.heap.size ≤ k
  vne : ∀ k, v.ownBlock = some k → ¬ foot base g A xs k
  recs : ∀ b ∈ out, RecsAt w w.heap.size b.a b.l
  apart : ∀ b ∈ out, ∀ k, rowFoot base b.a b.l k → ¬ foot base g A xs k ∧ v.ownBlock ≠ some k
  ble : base ≤ w3.heap.size

section
variable {T : TypeId} {lay : Value → Int → Int → Array Value} {w3 w w' w5 : World} {base g c c' : Nat} {v v' : Value} {out : List BatchX} {A A' : Option Addr} {xs ys : List RecX} {first now n : Int} {x : RecX} {e : Ending} {o : Obj}
/-- The collector has changed, and may now rest on new blocks. -/
theorem Gat.step {S : Nat → Prop} {first' now' : Int} (h : Gat T lay w3 base g w v out A c xs first now) (hcol : Col T lay w' base g A' c' ys first' now') (hch : Chg S w w') (hS : ∀ k, S k → foot base g A xs k)
    (hft : ∀ k, foot base g A' ys k → foot base g A xs k ∨ w.heap.size ≤ k) : Gat T lay w3 base g w' v out A' c' ys first' now' := by
  refine ⟨hcol, own_chg h.row hch fun k hk hs => h.vne k hk (hS k hs), h.low.trans hch fun k hk hs => ?_, fun k hk => ?_, fun k hk hf => ?_, fun b hb => ?_, fun b hb k hk => ⟨fun hf => ?_, (h.apart b hb k hk).2⟩, h.ble⟩
  · rcases h.ft k (hS k hs) with e | e
    · exact e
    · omega
  · rcases hft k hk with e | e
    · exact h.ft k e
    · exact .inr (Nat.le_trans h.low.size e)
  · rcases hft k hf with e | e
    · exact h.vne k hk e
    · have := (h.row.lt k hk).2; omega
  · exact RecsAt.chg (base := base) (h.recs b hb) hch (fun k hs => h.col.foot_ge k (hS k hs)) fun k hk hs => (h.apart b hb k hk).1 (hS k hs)
  · rcases hft k hf with e | e
    · exact (h.apart b hb k hk).1 e
    · have := rowFoot.lt (h.recs b hb) hk; omega
theorem Gat.fit (h : Gat T lay w3 base g w v out A c xs first now) (ha : AddFit T lay w base g A xs first n x e w') :
    ∃ A' c' x', e = .returned (.tuple #[.slice none 0 0, .int .i64 0]) ∧ x'.r = x.r ∧ Gat T lay w3 base g w' v out A' c' (xs ++ [x']) (if xs.isEmpty then n else first) n := by
  obtain ⟨A', c', x', rfl, hx, hcol, hch, hft⟩ := ha
  refine ⟨A', c', x', rfl, hx, h.step hcol hch (fun k hk => .inl hk) fun k hk => ?_⟩
  rcases hft k hk with e | e | e
  · exact .inl e
  · exact .inr e
  · have := hcol.foot_ge k hk; omega
theorem Gat.full (h : Gat T lay w3 base g w v out A c xs first now) (ha : AddFull T lay w base g A c xs n x e w') :
    ∃ A' c' x', e = .returned (.tuple #[.slice A xs.length c, .int .i64 0]) ∧ x'.r = x.r ∧ Gat T lay w3 base g w' v out A' c' [x'] n n ∧ RecsAt w' w'.heap.size A xs ∧
      ∀ k, rowFoot base A xs k → ¬ foot base g A' [x'] k ∧ v.ownBlock ≠ some k := by
  obtain ⟨A', c', x', rfl, hx, hcol, hr, hch, hft⟩ := ha
  have hft' : ∀ k, foot base g A' [x'] k → k = g ∨ w.heap.size ≤ k := by
    intro k hk
    rcases hft k hk with e | e | e
    · exact .inl e
    · exact .inr e
    · have := hcol.foot_ge k hk; omega
  refine ⟨A', c', x', rfl, hx, h.step hcol hch (fun k e => .inl (.inl e)) fun k hk => ?_, hr, fun k hk => ⟨fun hf => ?_, fun e => h.vne k e (.inr hk)⟩⟩
  · rcases hft' k hk with e | e
    · exact .inl (.inl (.inl e))
    · exact .inr e
  · rcases hft' k hf with e | e
    · exact h.col.row_ne k hk e
    · have := rowFoot.lt h.col.recs hk; omega
theorem Gat.push (h : Gat T lay w3 base g w v out A c xs first now) (b : BatchX) (hr : RecsAt w w.heap.size b.a b.l) (hap : ∀ k, rowFoot base b.a b.l k → ¬ foot base g A xs k ∧ v.ownBlock ≠ some k)
    (hown : w5.ownsRow w3.heap.size 24 1 v' (out.length + 1) (out.map BatchX.val ++ [b.val])) (hgr : (w.alloc o).grownBy w5 v.ownBlock) (hblk : v'.ownBlock = v.ownBlock ∨ v'.ownBlock = some (w.alloc o).heap.size) :
    Gat T lay w3 base g w5 v' (out ++ [b]) A c xs first now := by
  have hc : Chg (fun k => v.ownBlock = some k) w w5 := ((Chg.refl _ w).alloc o).grown hgr fun k hk _ => hk
  have hge : ∀ k, v.ownBlock = some k → base ≤ k := fun k hk => Nat.le_trans h.ble (h.row.lt k hk).1
  have hsz : (w.alloc o).heap.size = w.heap.size + 1 := by simp
  refine ⟨h.col.chg hc hge fun k hk hs => h.vne k hs hk, by simpa using hown, h.low.trans hc fun k hk hs => ?_, h.ft, fun k hk hf => ?_, fun z hz => ?_, fun z hz k hk => ?_, h.ble⟩
  · have := (h.row.lt k hs).1; omega
  · rcases hblk with e | e
    · exact h.vne k (e ▸ hk) hf
    · rw [hk] at e; injection e with e; have := h.col.foot_lt k hf; omega
  · rcases List.mem_append.1 hz with hz | hz
    · exact RecsAt.chg (base := base) (h.recs z hz) hc hge fun k hk hs => (h.apart z hz k hk).2 hs
    · simp only [List.mem_singleton] at hz; subst hz
      exact RecsAt.chg (base := base) hr hc hge fun k hk hs => (hap k hk).2 hs
  · have key : RecsAt w w.heap.size z.a z.l ∧ ¬ foot base g A xs k ∧ v.ownBlock ≠ some k := by
      rcases List.mem_append.1 hz with hz | hz
      · exact ⟨h.recs z hz, h.apart z hz k hk⟩
      · simp only [List.mem_singleton] at hz; subst hz; exact ⟨hr, hap k hk⟩
    refine ⟨key.2.1, fun e => ?_⟩
    rcases hblk with e' | e'
    · exact key.2.2 (e' ▸ e)
    · rw [e] at e'; injection e' with e'; have := rowFoot.lt key.1 hk; omega
end

/-- No list of records lies in a collector's own block. -/
theorem reads_ne {p : Pol} {w : World} {base g c B : Nat} {A : Option Addr} {xs : List RecX} {first now : Int} {z : RecX} (h : ColC p w base g A c xs first now) (hz : BodyAt w B z) (hp : 0 < z.r.body.length) : ∀ ad, z.ba = some ad → ad.block ≠ g := by
  intro ad ha e
  obtain ⟨b, o, e2, hb, hc⟩ := hz.2 hp
  rw [ha] at e2
  injection e2 with e2
  subst e2
  simp only at e
  subst e
  obtain ⟨c0, rest, hbody⟩ : ∃ c0 rest, z.r.body = c0 :: rest := by
    cases hh : z.r.body with
    | nil => rw [hh] at hp; simp at hp
    | cons a l => exact ⟨a, l, rfl⟩
  have h2 := hc 2 (.string c0.str) (by rw [hbody]; rfl)
  have h3 := h.cell (o + 2)
  rw [h2] at h3
  simp only [layC] at h3
  have : o + 2 < 7 := by
    rcases Nat.lt_or_ge (o + 2) 7 with h | h
    · exact h
    · rw [Array.getElem?_eq_none (by simpa using h)] at h3; cases h3
  have ho : o = 0 ∨ o = 1 ∨ o = 2 ∨ o = 3 ∨ o = 4 := by omega
  rcases ho with rfl | rfl | rfl | rfl | rfl <;> simp at h3
end Go.Proofs.Ytfgohjoamifpiaa
