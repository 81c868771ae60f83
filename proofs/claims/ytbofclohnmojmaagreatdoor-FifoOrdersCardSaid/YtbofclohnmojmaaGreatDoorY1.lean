/- Small laws of rows, blocks and texts. -/
import Derived.Test.YtbofclohnmojmaaGreatDoorProg
import Derived.WalkKit
import Derived.WalkSpells
import Derived.WalkLawsBesides
import Derived.BigQuiet
import Derived.BigGuardPart
import Derived.Deep.Draws
import Derived.Deep.QuietTactic
import Derived.Deep.RegionHeld3
import Derived.Lib.Hide
import Derived.Lib.QuietBelow
import Derived.Laws.StructEq
import Derived.Outline
import Derived.Deep.AppendLies
import Derived.Maps.AppendAt
import Derived.Lib.SplitLaws
import Derived.Lib.SmallJoins
import Derived.Test.YtbofclohnmojmaaGreatDoorShelf
import Derived.Laws.RangeAny
import Derived.Laws.RangeString
import Derived.Lib.ItoaLen
import Derived.Lib.AppendIntMem
import Derived.Lib.AtoiAll
import Derived.Lib.ItoaNum
namespace Go.Proofs.YtbofclohnmojmaaGreatDoor
open Go.RowKit
open Go.Sort (grow)

theorem ret_bool {a b : Bool} (h : a = b) : Ending.returned (.bool a) = .returned (.bool b) := by rw [h]
theorem ret_int {k : IntKind} {a b : Int} (h : a = b) : Ending.returned (.int k a) = .returned (.int k b) := by rw [h]
theorem below_drewN' (B : Nat) (w : World) (n : Nat) : Below B w (w.drewN n) := ⟨rfl, rfl, rfl, Nat.le_refl _, fun _ _ => rfl⟩
theorem bcell {W w1 : World} (hb : Below W.heap.size W w1) : (∀ b o, b < W.heap.size → w1.cell? ⟨b, o, none⟩ = W.cell? ⟨b, o, none⟩) ∧ (∀ b o, b < W.heap.size → w1.frozen? ⟨b, o, none⟩ = W.frozen? ⟨b, o, none⟩) :=
  ⟨fun b o h => hb.cell (p := ⟨b, o, none⟩) h, fun b o h => hb.frozen (p := ⟨b, o, none⟩) h⟩
/-- The cells of a block hold a row of values. -/
def CellsAt (w : World) (H : Nat) (l : List Value) : Prop := ∀ j v, l[j]? = some v → w.cell? ⟨H, j, none⟩ = some v
theorem CellsAt.below {w w' : World} {H : Nat} {l : List Value} (h : CellsAt w H l) (hb : Below w.heap.size w w') (hH : H < w.heap.size) : CellsAt w' H l :=
  fun j v hj => (hb.cell (p := ⟨H, j, none⟩) hH).trans (h j v hj)
theorem CellsAt.new (w : World) (l : Array Value) (T : TypeId) : CellsAt (w.alloc (.cells l T)) w.heap.size l.toList := by
  intro j v hj
  rw [cell_of_row _ _ _ _ T (0, 0) (heap_alloc_new w _)]
  simpa using hj
theorem CellsAt.alloc {w : World} {H : Nat} {l : List Value} (h : CellsAt w H l) (hH : H < w.heap.size) (o : Obj) : CellsAt (w.alloc o) H l :=
  h.below ((Below.refl _ _).alloc (Nat.le_refl _) _) hH
/-- A block that is known whole. -/
def Blk (w : World) (g : Nat) (t : TypeId) (cs : Array Value) : Prop := w.heap[g]? = some (.cells cs t (0, 0))
section
variable {w w' : World} {g : Nat} {t : TypeId} {cs : Array Value}
theorem Blk.lt (h : Blk w g t cs) : g < w.heap.size := by
  rcases Nat.lt_or_ge g w.heap.size with hlt | hge
  · exact hlt
  · unfold Blk at h; rw [Array.getElem?_eq_none hge] at h; cases h
theorem Blk.cell (h : Blk w g t cs) (i : Nat) : w.cell? ⟨g, i, none⟩ = cs[i]? := cell_of_row w g i cs t (0, 0) h
theorem Blk.frozen (h : Blk w g t cs) (i : Nat) : w.frozen? ⟨g, i, none⟩ = false := by
  unfold Blk at h
  simp [World.frozen?, h]
theorem Blk.new (w : World) (t : TypeId) (cs : Array Value) : Blk (w.alloc (.cells cs t)) w.heap.size t cs := heap_alloc_new w _
theorem Blk.new1 (w : World) (o : Obj) (t : TypeId) (cs : Array Value) : Blk ((w.alloc o).alloc (.cells cs t)) (w.heap.size + 1) t cs := by simpa using Blk.new (w.alloc o) t cs
theorem Blk.new2 (w : World) (o o' : Obj) (t : TypeId) (cs : Array Value) : Blk (((w.alloc o).alloc o').alloc (.cells cs t)) (w.heap.size + 2) t cs := by simpa using Blk.new ((w.alloc o).alloc o') t cs
theorem Blk.new3 (w : World) (o o' o2 : Obj) (t : TypeId) (cs : Array Value) : Blk ((((w.alloc o).alloc o').alloc o2).alloc (.cells cs t)) (w.heap.size + 3) t cs := by simpa using Blk.new (((w.alloc o).alloc o').alloc o2) t cs
theorem Blk.new4 (w : World) (o o' o2 o3 : Obj) (t : TypeId) (cs : Array Value) : Blk (((((w.alloc o).alloc o').alloc o2).alloc o3).alloc (.cells cs t)) (w.heap.size + 4) t cs := by simpa using Blk.new ((((w.alloc o).alloc o').alloc o2).alloc o3) t cs
theorem Blk.drew (h : Blk w g t cs) : Blk w.drew g t cs := h
theorem Blk.drewN (h : Blk w g t cs) (n : Nat) : Blk (w.drewN n) g t cs := h
theorem Blk.alloc (h : Blk w g t cs) (o : Obj) : Blk (w.alloc o) g t cs := (Below.heap_alloc w o g h.lt).trans h
theorem Blk.below {B : Nat} (h : Blk w g t cs) (hb : Below B w w') (hg : g < B) : Blk w' g t cs := (hb.block g hg).trans h
theorem Blk.on (h : Blk w g t cs) (hb : Below w.heap.size w w') : Blk w' g t cs := (hb.block g h.lt).trans h
theorem Blk.far (h : Blk w g t cs) {p : Addr} (hp : g ≠ p.block) (u : Value) : Blk (w.setCell p u) g t cs := (Below.heap_setCell w p u g hp).trans h
theorem Blk.set_ (h : Blk w g t cs) (i : Nat) (u : Value) : Blk (w.setCell ⟨g, i, none⟩ u) g t (cs.setIfInBounds i u) := by
  unfold Blk at h ⊢
  simp [World.setCell, Array.getElem?_modify, h]
end
/-- Two stores into a block at or above the bound. -/
theorem below_set2 {B : Nat} {w w1 : World} (h : Below B w w1) {H : Nat} (hH : B ≤ H) (x y : Value) : Below B w ((w1.setCell ⟨H, 0, none⟩ x).setCell ⟨H, 1, none⟩ y) :=
  (h.setCell (p := ⟨H, 0, none⟩) hH x).setCell (p := ⟨H, 1, none⟩) hH y
def tup2 (x : Int × Int) : Value := .tuple #[.int .i64 x.1, .int .i64 x.2]
theorem ret_tup2 {x : Int × Int} {a b : Int} (h : x = (a, b)) : Ending.returned (.tuple #[.int .i64 a, .int .i64 b]) = .returned (tup2 x) := by subst h; rfl
theorem ret_tup2' {x : Int × Int} {a b : Int} (h1 : x.1 = a) (h2 : x.2 = b) : Ending.returned (.tuple #[.int .i64 a, .int .i64 b]) = .returned (tup2 x) := by subst h1 h2; rfl
/-- A test between two integers, in the walk's own spelling. -/
def inB (n lo hi : Int) : Bool := decide (lo ≤ n) && decide (n ≤ hi)
theorem inB_iff {n lo hi : Int} : inB n lo hi = true ↔ lo ≤ n ∧ n ≤ hi := by simp [inB]
theorem inB_yes {n lo hi : Int} (h : lo ≤ n ∧ n ≤ hi) : inB n lo hi = true := inB_iff.2 h
theorem inB_no {n lo hi : Int} (h : ¬ (lo ≤ n ∧ n ≤ hi)) : inB n lo hi = false := by
  cases e : inB n lo hi with
  | false => rfl
  | true => exact absurd (inB_iff.1 e) h
end Go.Proofs.YtbofclohnmojmaaGreatDoor
namespace Go.Proofs.YtbofclohnmojmaaGreatDoor
open Go.RowKit
theorem Blk.set2 {w : World} {g : Nat} {t : TypeId} {a b : Value} (h : Blk w g t #[a, b]) (x y : Value) : Blk ((w.setCell ⟨g, 0, none⟩ x).setCell ⟨g, 1, none⟩ y) g t #[x, y] := by
  simpa using (h.set_ 0 x).set_ 1 y
theorem Blk.far2 {w : World} {g g' : Nat} {t : TypeId} {cs : Array Value} (h : Blk w g t cs) (hne : g ≠ g') (x y : Value) : Blk ((w.setCell ⟨g', 0, none⟩ x).setCell ⟨g', 1, none⟩ y) g t cs :=
  (h.far (p := ⟨g', 0, none⟩) hne x).far (p := ⟨g', 1, none⟩) hne y
end Go.Proofs.YtbofclohnmojmaaGreatDoor
namespace Go.Proofs.YtbofclohnmojmaaGreatDoor
open Go.RowKit

theorem block_of_add (a : Addr) (n : Nat) : (a.add n).block = a.block := by unfold Addr.add; split <;> rfl
theorem add_of_add (a : Addr) (i j : Nat) : (a.add i).add j = a.add (i + j) := by
  unfold Addr.add
  by_cases hi : i = 0 <;> by_cases hj : j = 0 <;> simp [hi, hj, Nat.add_assoc]

theorem cell_at {w : World} {b o o' : Nat} {v : Value} (h : w.cell? ⟨b, o, none⟩ = some v) (e : o = o') : w.cell? ⟨b, o', none⟩ = some v := e ▸ h

/-- The slice value '.slice A n c' reads as the cells xs, all below block B. -/
def Reads (w : World) (B size : Nat) (A : Option Addr) (n : Nat) (xs : List Value) : Prop :=
  xs.length = n * size ∧ (0 < n → ∃ b o, A = some ⟨b, o, none⟩ ∧ b < B ∧ ∀ j u, xs[j]? = some u → w.cell? ⟨b, o + j, none⟩ = some u)

section
variable {w w' : World} {B B' size n : Nat} {A : Option Addr} {xs : List Value}
theorem Reads.none_ : Reads w B size A 0 [] := ⟨by simp, fun h => absurd h (by omega)⟩
theorem Reads.keep (h : Reads w B size A n xs) (hk : ∀ p : Addr, p.block < B → w'.cell? p = w.cell? p) : Reads w' B size A n xs :=
  ⟨h.1, fun hn => by
    obtain ⟨b, o, e, hb, hc⟩ := h.2 hn
    exact ⟨b, o, e, hb, fun j u hu => (hk _ (by exact hb)).trans (hc j u hu)⟩⟩
theorem Reads.more (h : Reads w B size A n xs) (hB : B ≤ B') : Reads w B' size A n xs :=
  ⟨h.1, fun hn => by
    obtain ⟨b, o, e, hb, hc⟩ := h.2 hn
    exact ⟨b, o, e, by omega, hc⟩⟩
theorem Reads.below (h : Reads w B size A n xs) (hb : Below B w w') : Reads w' B size A n xs := h.keep fun _ hp => hb.cell hp
theorem Reads.keepAt (h : Reads w B size A n xs) (hk : ∀ ad, A = some ad → ∀ o, w'.cell? ⟨ad.block, o, none⟩ = w.cell? ⟨ad.block, o, none⟩) : Reads w' B size A n xs :=
  ⟨h.1, fun hn => by
    obtain ⟨b, o, e, hb, hc⟩ := h.2 hn
    exact ⟨b, o, e, hb, fun j u hu => (hk _ e _).trans (hc j u hu)⟩⟩
theorem Reads.set (h : Reads w B size A n xs) {p : Addr} (hne : ∀ ad, A = some ad → ad.block ≠ p.block) (u : Value) : Reads (w.setCell p u) B size A n xs :=
  h.keepAt fun ad ha o => World.cell?_setCell_other w p _ u (fun e => hne ad ha (by rw [e]))
theorem Reads.of_own {base : Nat} {e : TypeId} {c : Nat} (h : w.ownsRow base e size (.slice A n c) n xs) : Reads w w.heap.size size A n xs := by
  refine ⟨h.1, fun hn => ?_⟩
  rcases h.2 with ⟨_, h0⟩ | ⟨g, cap, cur, hv, hb, hg, _⟩
  · omega
  · have hA : A = some ⟨g, 0, none⟩ := by injection hv
    subst hA
    refine ⟨g, 0, rfl, (Array.getElem?_eq_some_iff.1 hg).1, fun j u hu => ?_⟩
    have := h.cells (g := g) rfl j u hu
    rw [Addr.add_lit] at this
    exact this
end

/-! ### append onto a row of the call's own, the source nil, empty or not -/
section
variable {P : Program} (w : World)
theorem run_append_of_nil (base : Nat) (t ty e : TypeId) (i : TypeInfo) (size : Nat) (ht : P.underlying t = some (.slice e)) (hi : P.info? e = some i)
    (v : Value) (n : Nat) (xs : List Value) (hown : w.ownsRow base e size v n xs) (c : Nat) : (Builtin.append_ #[t, t] ty #[v, .slice none 0 c]).run P w = .ok v w := by
  rcases hown.2 with ⟨rfl, rfl⟩ | ⟨g, cap, cur, rfl, _, _, hnc, _⟩
  · simp [Builtin.append_, run_underlying ht, sizeOf, typeInfo, hi, Builtin.lenOf, Builtin.firstCells]
  · simp [Builtin.append_, run_underlying ht, sizeOf, typeInfo, hi, Builtin.lenOf, Builtin.firstCells, hnc, storeCells]

theorem run_append_any (base : Nat) (t ty e : TypeId) (i : TypeInfo) (z : Value) (size bytes : Nat) (ht : P.underlying t = some (.slice e)) (hi : P.info? e = some i) (hz : i.zero = some z)
    (hsize : i.size = size) (hby : i.bytes = bytes) (hzs : z.cells.size = size) (hsz : 0 < size)
    (v : Value) (n : Nat) (xs : List Value) (hown : w.ownsRow base e size v n xs)
    (B : Nat) (A : Option Addr) (m c : Nat) (news : List Value) (hr : Reads w B size A m news) (h1 : ∀ u ∈ news, u.oneCell' = true)
    (h63 : n + m ≤ maxLen) (hbytes : (n + m) * bytes ≤ 140737488355328) (hbase : base ≤ w.heap.size) :
    ∃ v' w', (Builtin.append_ #[t, t] ty #[v, .slice A m c]).run P w = .ok v' w' ∧ w'.ownsRow base e size v' (n + m) (xs ++ news) ∧ w.grownBy w' v.ownBlock ∧
      (v'.ownBlock = v.ownBlock ∨ v'.ownBlock = some w.heap.size) := by
  rcases A with _ | ad
  · have hm : m = 0 := by
      rcases Nat.eq_zero_or_pos m with h0 | h0
      · exact h0
      · obtain ⟨b, o, h, _⟩ := hr.2 h0
        cases h
    subst hm
    have hn : news = [] := List.eq_nil_of_length_eq_zero (by simpa using hr.1)
    subst hn
    exact ⟨v, w, run_append_of_nil w base t ty e i size ht hi v n xs hown c, by simpa using hown, World.grownBy.refl w _, .inl rfl⟩
  · have hcells : ∀ j u, news[j]? = some u → w.cell? (ad.add j) = some u := by
      intro j u hu
      rcases Nat.eq_zero_or_pos m with h0 | h0
      · subst h0
        have hn : news = [] := List.eq_nil_of_length_eq_zero (by simpa using hr.1)
        subst hn
        simp at hu
      · obtain ⟨b, o, h, _, hc⟩ := hr.2 h0
        injection h with h
        subst h
        rw [Addr.add_lit]
        exact hc j u hu
    obtain ⟨v', w', hrun, h2, h3, _, h5⟩ := run_append_own_at (P := P) w base t ty e i z size bytes ht hi hz hsize hby hzs hsz v n xs hown ad m c news hr.1 hcells h1 h63 hbytes hbase
    exact ⟨v', w', hrun, h2, h3, h5⟩

theorem wp_append_any {o : Oper} {a : Act} {K : Act → World → Prop} {Q : Exit → Act → World → Prop} (s x : Operand) (t : TypeId)
    (ho : o.op = .call { callee := .builtin .append, args := #[s, x], argTypes := #[t, t] })
    (base : Nat) (e : TypeId) (i : TypeInfo) (z : Value) (size bytes : Nat) (ht : P.underlying t = some (.slice e)) (hi : P.info? e = some i) (hz : i.zero = some z)
    (hsize : i.size = size) (hby : i.bytes = bytes) (hzs : z.cells.size = size) (hsz : 0 < size)
    (v : Value) (n : Nat) (xs : List Value) (hs : a.eval s = v) (hown : w.ownsRow base e size v n xs)
    (B : Nat) (A : Option Addr) (m c : Nat) (news : List Value) (hx : a.eval x = .slice A m c) (hr : Reads w B size A m news) (h1 : ∀ u ∈ news, u.oneCell' = true)
    (h63 : n + m ≤ maxLen) (hbytes : (n + m) * bytes ≤ 140737488355328) (hbase : base ≤ w.heap.size)
    (h : ∀ v' w', w'.ownsRow base e size v' (n + m) (xs ++ news) → w.grownBy w' v.ownBlock → (v'.ownBlock = v.ownBlock ∨ v'.ownBlock = some w.heap.size) → K (a.put o.dst v') w') : o.wp P a w K Q := by
  obtain ⟨v', w', hrun, h2, h3, h4⟩ := run_append_any (P := P) w base t o.type e i z size bytes ht hi hz hsize hby hzs hsz v n xs hown B A m c news hr h1 h63 hbytes hbase
  unfold Oper.wp execOp
  simp only [ho, resolve, invoke, builtin, Sem.run_bind, Sem.run_pure, Result.andThen_ok, List.map_toArray, List.map_cons, List.map_nil, hs, hx, hrun]
  exact h v' w' h2 h3 h4

theorem wpList_append_any {ops : Array Oper} {rest : List Oper} {o : Oper} {a : Act} {Q : Exit → Act → World → Prop} (hgd : o.guard = none) (s x : Operand) (t : TypeId)
    (ho : o.op = .call { callee := .builtin .append, args := #[s, x], argTypes := #[t, t] })
    (base : Nat) (e : TypeId) (i : TypeInfo) (z : Value) (size bytes : Nat) (ht : P.underlying t = some (.slice e)) (hi : P.info? e = some i) (hz : i.zero = some z)
    (hsize : i.size = size) (hby : i.bytes = bytes) (hzs : z.cells.size = size) (hsz : 0 < size)
    (v : Value) (n : Nat) (xs : List Value) (hs : a.eval s = v) (hown : w.ownsRow base e size v n xs)
    (B : Nat) (A : Option Addr) (m c : Nat) (news : List Value) (hx : a.eval x = .slice A m c) (hr : Reads w B size A m news) (h1 : ∀ u ∈ news, u.oneCell' = true)
    (h63 : n + m ≤ maxLen) (hbytes : (n + m) * bytes ≤ 140737488355328) (hbase : base ≤ w.heap.size)
    (h : ∀ v' w', w'.ownsRow base e size v' (n + m) (xs ++ news) → w.grownBy w' v.ownBlock → (v'.ownBlock = v.ownBlock ∨ v'.ownBlock = some w.heap.size) → wpList P ops Q rest (a.put o.dst v') w') : wpList P ops Q (o :: rest) a w :=
  wpList_plain hgd fun _ hK => wp_append_any w s x t ho base e i z size bytes ht hi hz hsize hby hzs hsz v n xs hs hown B A m c news hx hr h1 h63 hbytes hbase fun v' w' h2 h3 h4 => hK _ _ (h v' w' h2 h3 h4)

theorem step_append_any {ops : Array Oper} {o : Oper} {a : Act} {K : Act → World → Prop} {Q : Exit → Act → World → Prop} {E : Prop} (hgd : o.guard = none) (s x : Operand) (t : TypeId)
    (ho : o.op = .call { callee := .builtin .append, args := #[s, x], argTypes := #[t, t] })
    (base : Nat) (e : TypeId) (i : TypeInfo) (z : Value) (size bytes : Nat) (ht : P.underlying t = some (.slice e)) (hi : P.info? e = some i) (hz : i.zero = some z)
    (hsize : i.size = size) (hby : i.bytes = bytes) (hzs : z.cells.size = size) (hsz : 0 < size)
    (v : Value) (n : Nat) (xs : List Value) (hs : a.eval s = v) (hown : w.ownsRow base e size v n xs)
    (B : Nat) (A : Option Addr) (m c : Nat) (news : List Value) (hx : a.eval x = .slice A m c) (hr : Reads w B size A m news) (h1 : ∀ u ∈ news, u.oneCell' = true)
    (h63 : n + m ≤ maxLen) (hbytes : (n + m) * bytes ≤ 140737488355328) (hbase : base ≤ w.heap.size)
    (h : ∀ v' w', w'.ownsRow base e size v' (n + m) (xs ++ news) → w.grownBy w' v.ownBlock → (v'.ownBlock = v.ownBlock ∨ v'.ownBlock = some w.heap.size) → K (a.put o.dst v') w') :
    if Region.wanted o (yielded ops a.tmps) = true then Oper.wp P o a w K Q else E := by
  have hw : Region.wanted o (yielded ops a.tmps) = true := by simp [Region.wanted, hgd]
  rw [if_pos hw]
  exact wp_append_any w s x t ho base e i z size bytes ht hi hz hsize hby hzs hsz v n xs hs hown B A m c news hx hr h1 h63 hbytes hbase h
end

/-- The cells of a new block. -/
theorem cells_new_at {w : World} {cs : List Value} {e : TypeId} {g : Nat} (hg : g = w.heap.size) : ∀ j u, cs[j]? = some u → (w.alloc (.cells cs.toArray e)).cell? ((⟨g, 0, none⟩ : Addr).add j) = some u := by
  intro j u hu
  subst hg
  rw [Addr.add_lit, cell_of_row _ _ _ cs.toArray e (0, 0) (heap_alloc_new w _)]
  simpa using hu

theorem flat_length {α : Type} {f : α → List Value} {k : Nat} (hf : ∀ x, (f x).length = k) : ∀ l : List α, (l.flatMap f).length = l.length * k
  | [] => by simp
  | x :: l => by simp [hf x, flat_length hf l, Nat.add_mul, Nat.add_comm]
theorem flat_get {α : Type} {f : α → List Value} {k : Nat} (hf : ∀ x, (f x).length = k) : ∀ (l : List α) (i j : Nat) (x : α), l[i]? = some x → j < k → (l.flatMap f)[i * k + j]? = (f x)[j]?
  | [], i, j, x, h, _ => by simp at h
  | y :: l, 0, j, x, h, hj => by
    simp at h
    subst h
    simp only [List.flatMap_cons, Nat.zero_mul, Nat.zero_add]
    rw [List.getElem?_append_left (by rw [hf]; exact hj)]
  | y :: l, i + 1, j, x, h, hj => by
    simp only [List.flatMap_cons]
    rw [List.getElem?_append_right (by rw [hf, Nat.add_mul]; omega), hf]
    rw [show (i + 1) * k + j - k = i * k + j from by rw [Nat.add_mul]; omega]
    exact flat_get hf l i j x (by simpa using h) hj

/-- A slice whose elements take k cells each. -/
theorem Reads.elem {α : Type} {g : α → List Value} {sz : Nat} (hf : ∀ x, (g x).length = sz) {w : World} {B : Nat} {A : Option Addr} {l : List α} (h : Reads w B sz A l.length (l.flatMap g)) {k : Nat} {x : α} (hk : l[k]? = some x) :
    ∃ b o, A = some ⟨b, o, none⟩ ∧ b < B ∧ ∀ j u, (g x)[j]? = some u → w.cell? ⟨b, o + k * sz + j, none⟩ = some u := by
  have hlt : k < l.length := (List.getElem?_eq_some_iff.1 hk).1
  obtain ⟨b, o, e, hb, hc⟩ := h.2 (by omega)
  refine ⟨b, o, e, hb, fun j u hu => ?_⟩
  have hj : j < sz := by
    have := (List.getElem?_eq_some_iff.1 hu).1
    rw [hf] at this
    exact this
  rw [Nat.add_assoc]
  exact hc _ _ (by rw [flat_get hf l k j x hk hj]; exact hu)
/-- A slice of integers. -/
def ivals (l : List Int) : List Value := l.map (Value.int .i64)
theorem Reads.int {w : World} {B : Nat} {A : Option Addr} {l : List Int} (h : Reads w B 1 A l.length (ivals l)) {k : Nat} {x : Int} (hk : l[k]? = some x) :
    ∃ b o, A = some ⟨b, o, none⟩ ∧ b < B ∧ w.cell? ⟨b, o + k, none⟩ = some (.int .i64 x) := by
  have hlt : k < l.length := (List.getElem?_eq_some_iff.1 hk).1
  obtain ⟨b, o, e, hb, hc⟩ := h.2 (by omega)
  exact ⟨b, o, e, hb, hc k _ (by rw [ivals, List.getElem?_map, hk]; rfl)⟩
theorem Reads.len {w : World} {B : Nat} {A : Option Addr} {n : Nat} {xs : List Value} (h : Reads w B 1 A n xs) : xs.length = n := by have := h.1; omega
end Go.Proofs.YtbofclohnmojmaaGreatDoor
namespace Go.Proofs.YtbofclohnmojmaaGreatDoor
open Go.RowKit

theorem info_int : (Tryz.prog.info? 3).map (fun i => (i.zero, i.size, i.bytes)) = some (some (.int .i64 0), 1, 8) := by kernel_rfl
section
variable {w w' : World} {base base' : Nat} {e : TypeId} {sz n : Nat} {v : Value} {xs : List Value}
theorem own_form (h : w.ownsRow base e sz v n xs) (hn : 0 < n) : ∃ g cap, v = .slice (some ⟨g, 0, none⟩) n cap ∧ base ≤ g ∧ g < w.heap.size := by
  rcases h.2 with ⟨_, h0⟩ | ⟨g, cap, cur, hv, hb, hg, _⟩
  · omega
  · exact ⟨g, cap, hv, hb, (Array.getElem?_eq_some_iff.1 hg).1⟩
theorem own_below (h : w.ownsRow base e sz v n xs) (hb : Below w.heap.size w w') : w'.ownsRow base e sz v n xs := by
  refine ⟨h.1, ?_⟩
  rcases h.2 with h0 | ⟨g, cap, cur, hv, h1, hg, hr⟩
  · exact .inl h0
  · exact .inr ⟨g, cap, cur, hv, h1, (hb.block g (Array.getElem?_eq_some_iff.1 hg).1).trans hg, hr⟩
theorem own_base (h : w.ownsRow base e sz v n xs) (hb : base' ≤ base) : w.ownsRow base' e sz v n xs := by
  refine ⟨h.1, ?_⟩
  rcases h.2 with h0 | ⟨g, cap, cur, hv, h1, hg, hr⟩
  · exact .inl h0
  · exact .inr ⟨g, cap, cur, hv, Nat.le_trans hb h1, hg, hr⟩
theorem own_slice (h : w.ownsRow base e sz v n xs) : ∃ p c, v = .slice p n c := by
  rcases h.2 with ⟨e1, e2⟩ | ⟨g, cap, cur, hv, -⟩
  · exact ⟨none, 0, by rw [e1, e2]⟩
  · exact ⟨_, _, hv⟩
/-- An owned slice, read. -/
theorem own_reads (h : w.ownsRow base e sz v n xs) : ∃ p c, v = .slice p n c ∧ Reads w w.heap.size sz p n xs := by
  obtain ⟨p, c, rfl⟩ := own_slice h
  exact ⟨p, c, rfl, Reads.of_own h⟩
theorem own_nil (w : World) (base : Nat) (e : TypeId) (sz : Nat) : w.ownsRow base e sz (.slice none 0 0) 0 [] := ⟨by simp, .inl ⟨rfl, rfl⟩⟩
end
/-- An owned list of integers. -/
def OwnI (w : World) (base : Nat) (v : Value) (l : List Int) : Prop := w.ownsRow base 3 1 v l.length (ivals l)
theorem OwnI.nil (w : World) (base : Nat) : OwnI w base (.slice none 0 0) [] := own_nil w base _ _
theorem OwnI.on {w w' : World} {base : Nat} {v : Value} {l : List Int} (h : OwnI w base v l) (hb : Below w.heap.size w w') : OwnI w' base v l := own_below h hb
theorem OwnI.reads {w : World} {base : Nat} {v : Value} {l : List Int} (h : OwnI w base v l) : ∃ p c, v = .slice p l.length c ∧ Reads w w.heap.size 1 p l.length (ivals l) := own_reads h
theorem OwnI.push {w : World} {base : Nat} {v : Value} {l : List Int} {x : Int} (h : w.ownsRow base 3 1 v (l.length + 1) (ivals l ++ [.int .i64 x])) : OwnI w base v (l ++ [x]) := by
  unfold OwnI ivals
  simpa [ivals] using h
/-- Two reads of lists, cell by cell. -/
theorem reads_eq {w : World} {B B' : Nat} {p p' : Option Addr} {l : List Int} (h : Reads w B 1 p l.length (ivals l)) (h' : Reads w B' 1 p' l.length (ivals l)) {k : Nat} (hk : k < l.length) :
    ∃ b o b' o' x, p = some ⟨b, o, none⟩ ∧ p' = some ⟨b', o', none⟩ ∧ w.cell? ⟨b, o + k, none⟩ = some (.int .i64 x) ∧ w.cell? ⟨b', o' + k, none⟩ = some (.int .i64 x) := by
  obtain ⟨b, o, e, -, hc⟩ := h.int (List.getElem?_eq_getElem hk)
  obtain ⟨b', o', e', -, hc'⟩ := h'.int (List.getElem?_eq_getElem hk)
  exact ⟨b, o, b', o', _, e, e', hc, hc'⟩
end Go.Proofs.YtbofclohnmojmaaGreatDoor
namespace Go.Proofs.YtbofclohnmojmaaGreatDoor
open Go.Lib

/-- The pieces of a list of bytes between the bytes c; p is what was read of the piece at hand. -/
def cutA (c : UInt8) : List UInt8 → List UInt8 → List (List UInt8)
  | p, [] => [p]
  | p, x :: r => if x = c then p :: cutA c [] r else cutA c (p ++ [x]) r
def cutL (c : UInt8) (l : List UInt8) : List (List UInt8) := cutA c [] l
/-- Pieces with the byte c between them. -/
def joinC (c : UInt8) : List (List UInt8) → List UInt8
  | [] => []
  | [p] => p
  | p :: q :: r => p ++ c :: joinC c (q :: r)
theorem cutA_eq (c : UInt8) (p r : List UInt8) : cutA c p (c :: r) = p :: cutA c [] r := by rw [cutA, if_pos rfl]
theorem cutA_ne {c x : UInt8} (h : x ≠ c) (p r : List UInt8) : cutA c p (x :: r) = cutA c (p ++ [x]) r := by rw [cutA, if_neg h]
theorem cutA_no {c : UInt8} : ∀ (r p : List UInt8), c ∉ r → cutA c p r = [p ++ r]
  | [], p, _ => by simp [cutA]
  | x :: r, p, h => by
    simp only [List.mem_cons, not_or] at h
    rw [cutA_ne (Ne.symm h.1), cutA_no r _ h.2]; simp
theorem cutA_hit {c : UInt8} : ∀ (q p r : List UInt8), c ∉ q → cutA c p (q ++ c :: r) = (p ++ q) :: cutA c [] r
  | [], p, r, _ => by rw [List.nil_append, cutA_eq]; simp
  | x :: q, p, r, h => by
    simp only [List.mem_cons, not_or] at h
    rw [List.cons_append, cutA_ne (Ne.symm h.1), cutA_hit q _ r h.2]; simp
theorem cutL_no {c : UInt8} {r : List UInt8} (h : c ∉ r) : cutL c r = [r] := by unfold cutL; rw [cutA_no r [] h]; rfl
theorem cutL_hit {c : UInt8} {q : List UInt8} (r : List UInt8) (h : c ∉ q) : cutL c (q ++ c :: r) = q :: cutL c r := by unfold cutL; rw [cutA_hit q [] r h]; rfl
theorem cutA_ne_nil (c : UInt8) : ∀ (r p : List UInt8), cutA c p r ≠ []
  | [], p => by simp [cutA]
  | x :: r, p => by
    rw [cutA]; split
    · simp
    · exact cutA_ne_nil c r _
theorem joinC_cutA (c : UInt8) : ∀ (r p : List UInt8), joinC c (cutA c p r) = p ++ r
  | [], p => by simp [cutA, joinC]
  | x :: r, p => by
    rw [cutA]; split
    · rename_i h; subst h
      have hn := cutA_ne_nil x r []
      have ih := joinC_cutA x r []
      cases e : cutA x [] r with
      | nil => exact absurd e hn
      | cons a b => rw [e] at ih; rw [joinC, ih]; rfl
    · rw [joinC_cutA c r]; simp
theorem joinC_cutL (c : UInt8) (l : List UInt8) : joinC c (cutL c l) = l := by unfold cutL; rw [joinC_cutA]; rfl
theorem cutL_ne_nil (c : UInt8) (l : List UInt8) : cutL c l ≠ [] := cutA_ne_nil c l []
/-- No piece holds the byte. -/
theorem cutA_free (c : UInt8) : ∀ (r p : List UInt8), c ∉ p → ∀ q ∈ cutA c p r, c ∉ q
  | [], p, hp, q, hq => by
    simp [cutA] at hq; rw [hq]; exact hp
  | x :: r, p, hp, q, hq => by
    rw [cutA] at hq
    split at hq
    · rcases List.mem_cons.1 hq with h | h
      · rw [h]; exact hp
      · exact cutA_free c r [] (by simp) q h
    · rename_i hx
      exact cutA_free c r (p ++ [x]) (by simp [hp]; exact fun h => hx h.symm) q hq
theorem cutL_free {c : UInt8} {l q : List UInt8} (h : q ∈ cutL c l) : c ∉ q := cutA_free c l [] (by simp) q h
/-- Pieces without the byte, joined and cut again. -/
theorem cutL_join (c : UInt8) : ∀ (l : List (List UInt8)), l ≠ [] → (∀ q ∈ l, c ∉ q) → cutL c (joinC c l) = l
  | [], h, _ => absurd rfl h
  | [p], _, h => by rw [joinC]; exact cutL_no (h p (by simp))
  | p :: q :: r, _, h => by
    rw [joinC, cutL_hit _ (h p (by simp)), cutL_join c (q :: r) (by simp) fun x hx => h x (by simp [hx])]
theorem cutA_len (c : UInt8) : ∀ (r p : List UInt8), (cutA c p r).length ≤ r.length + 1
  | [], p => by simp [cutA]
  | x :: r, p => by
    rw [cutA]; split
    · have := cutA_len c r []; simp; omega
    · have := cutA_len c r (p ++ [x]); simp; omega
theorem cutA_piece (c : UInt8) : ∀ (r p q : List UInt8), q ∈ cutA c p r → q.length ≤ p.length + r.length
  | [], p, q, h => by simp [cutA] at h; rw [h]; simp
  | x :: r, p, q, h => by
    rw [cutA] at h
    split at h
    · rcases List.mem_cons.1 h with h | h
      · rw [h]; simp
      · have := cutA_piece c r [] q h; simp at this ⊢; omega
    · have := cutA_piece c r (p ++ [x]) q h; simp at this ⊢; omega
theorem cutL_piece {c : UInt8} {l q : List UInt8} (h : q ∈ cutL c l) : q.length ≤ l.length := by have := cutA_piece c l [] q h; simpa using this

/-! ### the first place of one byte -/
theorem occ_one (l : List UInt8) (c : UInt8) (i : Nat) : occAt l [c] i = (l[i]? == some c) := by
  unfold occAt
  cases h : l.drop i with
  | nil =>
    have : l[i]? = none := by
      rw [List.getElem?_eq_none_iff]
      have := congrArg List.length h
      simp at this; omega
    rw [this]; rfl
  | cons x r =>
    have : l[i]? = some x := by
      have h2 := congrArg (·[0]?) h
      simpa [List.getElem?_drop] using h2
    rw [this]
    simp only [List.isPrefixOf, Bool.and_true]
    rw [Bool.eq_iff_iff]
    simp
    exact ⟨fun h => h.symm, fun h => h.symm⟩
theorem index_byte_no {l : List UInt8} {c : UInt8} (h : c ∉ l) : index l [c] = -1 := by
  apply index_none
  intro j _
  rw [occ_one, beq_eq_false_iff_ne]
  intro e
  exact h (List.mem_of_getElem? e)
theorem index_byte_hit {q : List UInt8} {c : UInt8} (r : List UInt8) (h : c ∉ q) : index (q ++ c :: r) [c] = (q.length : Nat) := by
  apply index_first (by simp)
  · rw [occ_one]; simp
  · intro j hj
    rw [occ_one, List.getElem?_append_left hj, beq_eq_false_iff_ne]
    intro e
    exact h (List.mem_of_getElem? e)
theorem cut_byte_no {l : List UInt8} {c : UInt8} (h : c ∉ l) : Lib.cut l [c] = (l, [], false) := by
  unfold Lib.cut; rw [index_byte_no h, if_neg (by omega)]
theorem cut_byte_hit {q : List UInt8} {c : UInt8} (r : List UInt8) (h : c ∉ q) : Lib.cut (q ++ c :: r) [c] = (q, r, true) := by
  unfold Lib.cut
  rw [index_byte_hit r h, if_pos (by omega)]
  simp
/-- A list holds the byte, or it does not. -/
theorem byte_cases (c : UInt8) (l : List UInt8) : c ∉ l ∨ ∃ q r, l = q ++ c :: r ∧ c ∉ q := by
  induction l with
  | nil => exact .inl (by simp)
  | cons x l ih =>
    by_cases hx : x = c
    · exact .inr ⟨[], l, by rw [hx]; rfl, by simp⟩
    · rcases ih with h | ⟨q, r, e, h⟩
      · exact .inl (by simp [h]; exact fun e => hx e.symm)
      · exact .inr ⟨x :: q, r, by rw [e]; rfl, by simp [h]; exact fun e => hx e.symm⟩
theorem splitK_byte (c : UInt8) : ∀ (n : Nat) (l : List UInt8), l.length ≤ n → splitK [c] 0 (count l [c]) l = cutL c l
  | n, l, hn => by
    rcases byte_cases c l with h | ⟨q, r, e, h⟩
    · rw [cutL_no h, count_miss (index_byte_no h)]; rfl
    · subst e
      have hix := index_byte_hit r h
      rw [cutL_hit r h, count_hit (by simp) hix]
      have e1 : (q ++ c :: r).drop (q.length + 1) = r := by simp
      simp only [List.length_cons, List.length_nil, Nat.zero_add, e1]
      rw [Nat.add_comm, splitK, hix]
      rw [if_neg (by simp)]
      simp only [Int.toNat_natCast, Nat.add_zero, List.length_cons, List.length_nil, Nat.zero_add, e1, List.take_left]
      cases n with
      | zero => simp at hn
      | succ n => rw [splitK_byte c n r (by simp at hn; omega)]
/-- strings.Split at one byte. -/
theorem split_byte (c : UInt8) (s : ByteArray) : (splitB ⟨#[c]⟩ 0 (countB s ⟨#[c]⟩) s).map (·.data.toList) = cutL c s.data.toList := by
  rw [splitB_data]
  exact splitK_byte c _ _ (Nat.le_refl _)
/-- The pieces as strings. -/
def pcs (c : UInt8) (s : ByteArray) : List ByteArray := (cutL c s.data.toList).map fun l => ⟨l.toArray⟩
theorem pcs_data (c : UInt8) (s : ByteArray) : (pcs c s).map (·.data.toList) = cutL c s.data.toList := by
  unfold pcs
  rw [List.map_map]
  exact (List.map_congr_left (g := id) fun _ _ => rfl).trans (List.map_id _)
theorem split_pcs (c : UInt8) (s : ByteArray) : splitB ⟨#[c]⟩ 0 (countB s ⟨#[c]⟩) s = pcs c s := by
  have h := split_byte c s
  unfold pcs
  rw [← h, List.map_map]
  conv => lhs; rw [← List.map_id (splitB ⟨#[c]⟩ 0 (countB s ⟨#[c]⟩) s)]
  apply List.map_congr_left
  intro t _
  obtain ⟨⟨l⟩⟩ := t
  rfl
end Go.Proofs.YtbofclohnmojmaaGreatDoor
namespace Go.Proofs.YtbofclohnmojmaaGreatDoor
open Go.RowKit
open Go.Sort (grow)

theorem byte_at (s : ByteArray) (k : Nat) (hk : k < s.size) : s.data.toList[k]? = some s[k] := by
  have h' : k < s.data.toList.length := by simpa using hk
  rw [List.getElem?_eq_getElem h']
  simp
  rfl
theorem size_len (s : ByteArray) : s.data.toList.length = s.size := by simp
theorem take_size (s : ByteArray) : s.data.toList.take s.size = s.data.toList := by rw [← size_len, List.take_length]
theorem take_snoc (s : ByteArray) (k : Nat) (h : k < s.size) : s.data.toList.take (k + 1) = s.data.toList.take k ++ [s[k]] := by
  rw [List.take_add_one, byte_at s k h]; rfl
theorem ba_ext {s t : ByteArray} (h : s.data.toList = t.data.toList) : s = t := by
  obtain ⟨⟨a⟩⟩ := s; obtain ⟨⟨b⟩⟩ := t
  have : a = b := h
  rw [this]
theorem ret_str {a b : ByteArray} (h : a = b) : Ending.returned (.string a) = .returned (.string b) := by rw [h]
theorem info_str : (Tryz.prog.info? 9).map (fun i => (i.zero, i.size, i.bytes)) = some (some (.string ⟨#[]⟩), 1, 16) := by kernel_rfl
def svals (l : List ByteArray) : List Value := l.map Value.string
/-- An owned list of strings. -/
def OwnS (w : World) (base : Nat) (v : Value) (l : List ByteArray) : Prop := w.ownsRow base 9 1 v l.length (svals l)
theorem OwnS.nil (w : World) (base : Nat) : OwnS w base (.slice none 0 0) [] := own_nil w base _ _
theorem OwnS.on {w w' : World} {base : Nat} {v : Value} {l : List ByteArray} (h : OwnS w base v l) (hb : Below w.heap.size w w') : OwnS w' base v l := own_below h hb
theorem OwnS.push {w : World} {base : Nat} {v : Value} {l : List ByteArray} {x : ByteArray} (h : w.ownsRow base 9 1 v (l.length + 1) (svals l ++ [.string x])) : OwnS w base v (l ++ [x]) := by
  unfold OwnS svals
  simpa [svals] using h
theorem OwnS.empty {w : World} {base g : Nat} (hg : g = w.heap.size) (hb : base ≤ w.heap.size) : OwnS (w.alloc (.cells #[] 9)) base (.slice (some ⟨g, 0, none⟩) 0 0) [] := by
  subst hg
  exact ⟨rfl, .inr ⟨w.heap.size, 0, #[], rfl, hb, heap_alloc_new _ _, by simp [maxLen, svals]⟩⟩
/-- A list of strings at a block's head. -/
def StrsAt (w : World) (B g : Nat) (l : List ByteArray) : Prop := B ≤ g ∧ g < w.heap.size ∧ CellsAt w g (svals l)
theorem OwnS.at_ {w : World} {base : Nat} {v : Value} {l : List ByteArray} (h : OwnS w base v l) (hl : 0 < l.length) : ∃ g cap, v = .slice (some ⟨g, 0, none⟩) l.length cap ∧ StrsAt w base g l := by
  obtain ⟨g, cap, rfl, hb, hg⟩ := own_form h hl
  refine ⟨g, cap, rfl, hb, hg, fun j u hu => ?_⟩
  have h' : w.ownsRow base 9 1 (.slice (some ⟨g, 0, none⟩) l.length cap) l.length (svals l) := h
  have := World.ownsRow.cells h' (g := g) rfl j u hu
  rw [Addr.add_lit, Nat.zero_add] at this
  exact this
theorem StrsAt.on {w w' : World} {B g : Nat} {l : List ByteArray} (h : StrsAt w B g l) (hb : Below w.heap.size w w') : StrsAt w' B g l :=
  ⟨h.1, Nat.lt_of_lt_of_le h.2.1 hb.size, h.2.2.below hb h.2.1⟩
theorem StrsAt.cell {w : World} {B g : Nat} {l : List ByteArray} (h : StrsAt w B g l) {k : Nat} {x : ByteArray} (hk : l[k]? = some x) : w.cell? ⟨g, k, none⟩ = some (.string x) :=
  h.2.2 k _ (by unfold svals; rw [List.getElem?_map, hk]; rfl)

/-- The state of a cut in front of byte k: the pieces so far, and where the piece at hand begins. -/
def CutRel (c : UInt8) (s : ByteArray) (k f : Nat) (P : List ByteArray) : Prop :=
  f ≤ k ∧ k ≤ s.size ∧ P.length ≤ f ∧ P.map (·.data.toList) ++ cutA c ((s.data.toList.take k).drop f) (s.data.toList.drop k) = cutL c s.data.toList
theorem CutRel.start (c : UInt8) (s : ByteArray) : CutRel c s 0 0 [] := ⟨Nat.le_refl _, Nat.zero_le _, Nat.le_refl _, by simp [cutL]⟩
theorem drop_byte (s : ByteArray) (k : Nat) (hk : k < s.size) : s.data.toList.drop k = s[k] :: s.data.toList.drop (k + 1) := by
  have h' : k < s.data.toList.length := by simpa using hk
  rw [List.drop_eq_getElem_cons h']
  simp
  rfl
theorem ext_take (s : ByteArray) (f k : Nat) : (s.extract f k).data.toList = (s.data.toList.take k).drop f := by
  rw [Lib.extract_data, List.drop_take]
theorem CutRel.hit {c : UInt8} {s : ByteArray} {k f : Nat} {P : List ByteArray} (h : CutRel c s k f P) (hk : k < s.size) (e : s[k] = c) : CutRel c s (k + 1) (k + 1) (P ++ [s.extract f k]) := by
  obtain ⟨h1, h2, h3, h4⟩ := h
  refine ⟨Nat.le_refl _, hk, by simp; omega, ?_⟩
  rw [← h4, drop_byte s k hk, e, cutA_eq, List.map_append, List.append_assoc]
  have : (s.data.toList.take (k + 1)).drop (k + 1) = [] := List.drop_eq_nil_of_le (by simp; omega)
  rw [this]
  simp only [List.map_cons, List.map_nil, ext_take, List.cons_append, List.nil_append]
theorem CutRel.miss {c : UInt8} {s : ByteArray} {k f : Nat} {P : List ByteArray} (h : CutRel c s k f P) (hk : k < s.size) (e : s[k] ≠ c) : CutRel c s (k + 1) f P := by
  obtain ⟨h1, h2, h3, h4⟩ := h
  refine ⟨by omega, hk, h3, ?_⟩
  rw [← h4, drop_byte s k hk, cutA_ne e, List.take_add_one, byte_at s k hk]
  simp only [Option.toList_some]
  rw [List.drop_append_of_le_length (by rw [List.length_take]; have := size_len s; omega)]
theorem CutRel.done {c : UInt8} {s : ByteArray} {f : Nat} {P : List ByteArray} (h : CutRel c s s.size f P) : P ++ [s.extract f s.size] = pcs c s := by
  obtain ⟨h1, h2, h3, h4⟩ := h
  have hd : s.data.toList.drop s.size = [] := List.drop_eq_nil_of_le (by have := size_len s; omega)
  rw [hd, cutA] at h4
  have h5 : (P ++ [s.extract f s.size]).map (·.data.toList) = cutL c s.data.toList := by
    rw [← h4, List.map_append, List.map_cons, List.map_nil, ext_take]
  unfold pcs
  rw [← h5, List.map_map]
  conv => lhs; rw [← List.map_id (P ++ [s.extract f s.size])]
  apply List.map_congr_left
  intro t _
  obtain ⟨⟨l⟩⟩ := t
  rfl
theorem pcs_pos (c : UInt8) (s : ByteArray) : 0 < (pcs c s).length := by
  unfold pcs
  rw [List.length_map]
  have := cutL_ne_nil c s.data.toList
  cases h : cutL c s.data.toList with
  | nil => exact absurd h this
  | cons a b => simp
theorem pcs_size {c : UInt8} {s t : ByteArray} (h : t ∈ pcs c s) : t.size ≤ s.size := by
  unfold pcs at h
  obtain ⟨l, hl, rfl⟩ := List.mem_map.1 h
  have := cutL_piece hl
  rw [← size_len, ← size_len s]
  simpa using this
theorem svals_flat : ∀ l : List ByteArray, l.flatMap (fun x => [Value.string x]) = svals l
  | [] => rfl
  | a :: l => by rw [List.flatMap_cons, svals_flat l]; rfl
/-- A list of strings in memory. -/
def StrL (w : World) (B : Nat) (A : Option Addr) (l : List ByteArray) : Prop := Reads w B 1 A l.length (svals l)
theorem StrL.cell {w : World} {B : Nat} {A : Option Addr} {l : List ByteArray} (h : StrL w B A l) {k : Nat} {x : ByteArray} (hk : l[k]? = some x) :
    ∃ b o, A = some ⟨b, o, none⟩ ∧ b < B ∧ w.cell? ⟨b, o + k, none⟩ = some (.string x) := by
  have hlt : k < l.length := (List.getElem?_eq_some_iff.1 hk).1
  obtain ⟨b, o, e, hb, hc⟩ := Reads.elem (g := fun x => [Value.string x]) (sz := 1) (fun _ => rfl) (l := l) (by rw [svals_flat]; exact h) hk
  exact ⟨b, o, e, hb, by have := hc 0 _ rfl; simpa using this⟩
theorem StrL.on {w w' : World} {A : Option Addr} {l : List ByteArray} (h : StrL w w.heap.size A l) (hb : Below w.heap.size w w') : StrL w' w'.heap.size A l := (Reads.below h hb).more hb.size
theorem StrL.keep {w w' : World} {B : Nat} {A : Option Addr} {l : List ByteArray} (h : StrL w B A l) (hb : Below B w w') : StrL w' B A l := Reads.below h hb

end Go.Proofs.YtbofclohnmojmaaGreatDoor
namespace Go.Proofs.YtbofclohnmojmaaGreatDoor
open Go.RowKit
open Go.Sort (grow)

def letP (c : Int) : Prop := (97 ≤ c ∧ c ≤ 122) ∨ (48 ≤ c ∧ c ≤ 57) ∨ (65 ≤ c ∧ c ≤ 90) ∨ c = 45 ∨ c = 95 ∨ c = 46 ∨ c = 58 ∨ c = 47
instance (c : Int) : Decidable (letP c) := by unfold letP; infer_instance
def letB (c : Int) : Bool := decide (letP c)
def allL (l : List UInt8) : Bool := l.all fun c => letB c.toNat
theorem isEmpty_of {s : ByteArray} (h : s.size = 0) : s.toList.isEmpty = true := by
  rw [Lib.toList_data, List.isEmpty_iff_length_eq_zero, size_len, h]
theorem isEmpty_not {s : ByteArray} (h : 0 < s.size) : s.toList.isEmpty = false := by
  rw [Lib.toList_data]
  cases e : s.data.toList with
  | nil => have := size_len s; rw [e] at this; simp at this; omega
  | cons a b => rfl



theorem letB_yes {c : Int} (h : letP c) : letB c = true := decide_eq_true h
theorem letB_no {c : Int} (h : ¬ letP c) : letB c = false := decide_eq_false h
theorem beqs (c k : Int) : ((c == k) = true ∧ c = k) ∨ ((c == k) = false ∧ c ≠ k) := by
  by_cases h : c = k
  · exact .inl ⟨beq_iff_eq.2 h, h⟩
  · exact .inr ⟨beq_eq_false_iff_ne.2 h, h⟩
set_option maxHeartbeats 1000000 in
theorem letter_any (c : Int) (w : World) : Calls Tryz.prog 87 #[.int .i32 c] w fun e w' => e = .returned (.bool (letB c)) ∧ w = w' := by
  have HY := Lib.hid (@letB_yes c)
  have HN := Lib.hid (@letB_no c)
  rcases beqs c 47 with ⟨e47, h47⟩ | ⟨e47, h47⟩
  · have HD := Lib.hid (HY.out (by unfold letP; omega))
    subst h47
    clear e47
    go_enter Tryz.func87, Tryz.ntmps87
    go_wp2
    go_ret
    exact ⟨ret_bool HD.out.symm, rfl⟩
  · have H47 := Lib.hid h47
    clear h47
    go_enter Tryz.func87, Tryz.ntmps87
    go_wp2
    all_goals try (exfalso; omega)
    all_goals
      go_ret
      refine ⟨ret_bool ?_, rfl⟩
      have h47 := H47.out
      first
        | decide
        | exact (HY.out (by unfold letP; omega)).symm
        | exact (HN.out (by unfold letP; omega)).symm
set_option maxHeartbeats 1000000 in
theorem part_any (c : Int) (w : World) : Calls Tryz.prog 94 #[.int .u8 c] w fun e w' => e = .returned (.bool (letB c)) ∧ w = w' := by
  have HY := Lib.hid (@letB_yes c)
  have HN := Lib.hid (@letB_no c)
  rcases beqs c 47 with ⟨e47, h47⟩ | ⟨e47, h47⟩
  · have HD := Lib.hid (HY.out (by unfold letP; omega))
    subst h47
    clear e47
    go_enter Tryz.func94, Tryz.ntmps94
    go_wp2
    go_ret
    exact ⟨ret_bool HD.out.symm, rfl⟩
  · have H47 := Lib.hid h47
    clear h47
    go_enter Tryz.func94, Tryz.ntmps94
    go_wp2
    all_goals try (exfalso; omega)
    all_goals
      go_ret
      refine ⟨ret_bool ?_, rfl⟩
      have h47 := H47.out
      first
        | decide
        | exact (HY.out (by unfold letP; omega)).symm
        | exact (HN.out (by unfold letP; omega)).symm
def idL (s : ByteArray) : Bool := decide (1 ≤ s.size ∧ s.size ≤ 64) && allL s.data.toList
theorem allL_step (s : ByteArray) (k : Nat) (h : k < s.size) : allL (s.data.toList.take (k + 1)) = (allL (s.data.toList.take k) && letB s[k].toNat) := by
  unfold allL
  rw [List.take_add_one, byte_at s k h, List.all_append]
  simp
theorem allL_no (s : ByteArray) (k : Nat) (h : k < s.size) (hd : letB s[k].toNat = false) : allL s.data.toList = false := by
  unfold allL
  rw [List.all_eq_false]
  exact ⟨s[k], List.mem_of_getElem? (byte_at s k h), by simp [hd]⟩
theorem idL_no {s : ByteArray} (h : allL s.data.toList = false) : idL s = false := by unfold idL; rw [h, Bool.and_false]
theorem idL_len {s : ByteArray} (h : ¬ (1 ≤ s.size ∧ s.size ≤ 64)) : idL s = false := by unfold idL; rw [decide_eq_false h, Bool.false_and]
theorem idL_yes {s : ByteArray} (h : allL s.data.toList = true) (h2 : 1 ≤ s.size ∧ s.size ≤ 64) : idL s = true := by unfold idL; rw [decide_eq_true h2, h]; rfl
theorem letB_high {c : Int} (h : 128 ≤ c) : letB c = false := letB_no (by unfold letP; omega)
theorem letB_low {c : Int} (h : letB c = true) : c < 128 := by
  have := of_decide_eq_true h
  unfold letP at this
  omega

theorem below_iter (w : World) (s : ByteArray) (p : Nat) : Below w.heap.size w (w.iter s p) := (Below.refl _ _).alloc (Nat.le_refl _) _
set_option maxHeartbeats 1000000 in
set_option maxRecDepth 100000 in
theorem ID_any (s : ByteArray) (w : World) (hs : s.size ≤ 9223372036854775807) : Calls Tryz.prog 72 #[.string s] w fun e w' => e = .returned (.bool (idL s)) ∧ Below w.heap.size w w' := by
  go_enter Tryz.func72, Tryz.ntmps72
  go_wp2_with fail
  go_loopw [2] (fun _ w' => ∃ pos : Nat, w' = w.iter s pos ∧ pos ≤ s.size ∧ allL (s.data.toList.take pos) = true) (fun _ w' => s.size - w'.iterPos w.heap.size)
  case atStart => exact ⟨0, rfl, Nat.zero_le _, rfl⟩
  case round =>
    obtain ⟨pos, rfl, hp1, hall⟩ := hrel
    have HL := Lib.hid hall
    clear hall
    by_cases hp : pos < s.size
    · have hnx : ∀ ty, (Instr.next (.pointer (some ⟨w.heap.size, 0, none⟩)) true ty).run Tryz.prog (w.iter s pos) = _ := fun ty => run_next_any w s pos ty hp
      have hno := allL_no s pos hp
      have hst := allL_step s pos hp
      by_cases ha : s[pos].toNat < 128
      · have hda := decode_ascii s pos hp ha
        rw [hda] at hnx
        have HX := Lib.hid (And.intro hno hst)
        clear hno hst hda
        have HB := Lib.hid (below_iter w s (pos + 1))
        go_wp2_with fail
        refine (letter_any _ _).mono ?_
        rintro e w1 ⟨rfl, rfl⟩
        cases hlb : letB (s[pos].toNat : Int)
        · have HD := Lib.hid (idL_no (HX.out.1 hlb))
          clear hlb
          go_wp2_with fail
          go_ret
          exact ⟨ret_bool HD.out.symm, HB.out⟩
        · have HD := Lib.hid (HX.out.2.trans (by rw [HL.out, hlb, Bool.true_and]))
          clear hlb
          go_wp2_with fail
          go_roundw
          case rel => exact ⟨pos + 1, rfl, by omega, HD.out⟩
          case measure => simp; omega
      · obtain ⟨hd1, hd2⟩ := decode_high s pos hp (by omega)
        have HX := Lib.hid (idL_no (hno (letB_high (by omega))))
        have HH := Lib.hid (letB_high (c := ((Utf8.decode s pos).1 : Int)) (by omega))
        clear hno hst
        have HB := Lib.hid (below_iter w s (pos + (Utf8.decode s pos).2))
        go_wp2_with fail
        refine (letter_any _ _).mono ?_
        rintro e w1 ⟨rfl, rfl⟩
        rw [HH.out]
        go_wp2_with fail
        go_ret
        exact ⟨ret_bool HX.out.symm, HB.out⟩
    · have hnx : ∀ ty, (Instr.next (.pointer (some ⟨w.heap.size, 0, none⟩)) true ty).run Tryz.prog (w.iter s pos) = _ := fun ty => run_next_end w s pos ty hp
      obtain rfl : pos = s.size := by omega
      have hl := below_iter w s s.size
      have HB := Lib.hid hl
      clear hl
      by_cases h2 : 1 ≤ s.size ∧ s.size ≤ 64
      · have HD := Lib.hid (idL_yes (by rw [← take_size]; exact HL.out) h2)
        obtain ⟨h3, h4⟩ := h2
        have h5 : decide ((s.size : Int) ≤ 64) = true := decide_eq_true (by omega)
        go_wp2_with fail
        all_goals try (exfalso; omega)
        go_ret
        exact ⟨ret_bool HD.out.symm, HB.out⟩
      · have HD := Lib.hid (idL_len h2)
        rcases Nat.lt_or_ge s.size 1 with h3 | h3
        · go_wp2_with fail
          all_goals try (exfalso; omega)
          go_ret
          exact ⟨ret_bool HD.out.symm, HB.out⟩
        · have h4 : decide (s.size ≤ 64) = false := decide_eq_false (by omega)
          have h5 : decide ((s.size : Int) ≤ 64) = false := decide_eq_false (by omega)
          clear h2
          go_wp2_with fail
          all_goals try (exfalso; omega)
          go_ret
          exact ⟨ret_bool HD.out.symm, HB.out⟩
set_option maxHeartbeats 1000000 in
set_option maxRecDepth 100000 in
theorem rID_any (s : ByteArray) (w : World) (hs : s.size ≤ 9223372036854775807) : Calls Tryz.prog 81 #[.string s] w fun e w' => e = .returned (.bool (idL s)) ∧ Below w.heap.size w w' := by
  by_cases h2 : 1 ≤ s.size ∧ s.size ≤ 64
  · obtain ⟨h3, h4⟩ := h2
    have h5 : decide (64 < (s.size : Int)) = false := decide_eq_false (by omega)
    go_enter Tryz.func81, Tryz.ntmps81
    go_wp2_with fail
    all_goals try (exfalso; omega)
    go_loop [3] (fun i => ∃ k : Nat, k ≤ s.size ∧ i = .int .i64 k ∧ allL (s.data.toList.take k) = true) (fun i => s.size - (intOf i).toNat)
    case atStart => exact ⟨0, Nat.zero_le _, rfl, rfl⟩
    case round =>
      obtain ⟨k, hk, rfl, hall⟩ := hrel
      have HL := Lib.hid hall
      clear hall
      by_cases hp : k < s.size
      · have HX := Lib.hid (And.intro (allL_no s k hp) (allL_step s k hp))
        go_wp2_with fail
        refine (part_any _ _).mono ?_
        rintro e w1 ⟨rfl, rfl⟩
        cases hlb : letB (s[k].toNat : Int)
        · have HD := Lib.hid (idL_no (HX.out.1 hlb))
          clear hlb
          go_wp2_with fail
          go_ret
          exact ⟨ret_bool HD.out.symm, Below.refl _ _⟩
        · have HD := Lib.hid (HX.out.2.trans (by rw [HL.out, hlb, Bool.true_and]))
          clear hlb
          go_wp2_with fail
          go_round
          case rel => exact ⟨k + 1, by omega, by go_num, HD.out⟩
          case measure => simp [intOf]; omega
      · obtain rfl : k = s.size := by omega
        have HD := Lib.hid (idL_yes (by rw [← take_size]; exact HL.out) ⟨h3, h4⟩)
        go_wp2_with fail
        go_ret
        exact ⟨ret_bool HD.out.symm, Below.refl _ _⟩
  · have HD := Lib.hid (idL_len h2)
    rcases Nat.lt_or_ge s.size 1 with h3 | h3
    · go_enter Tryz.func81, Tryz.ntmps81
      go_wp2_with fail
      all_goals try (exfalso; omega)
      go_ret
      exact ⟨ret_bool HD.out.symm, Below.refl _ _⟩
    · have h5 : decide (64 < (s.size : Int)) = true := decide_eq_true (by omega)
      clear h2
      go_enter Tryz.func81, Tryz.ntmps81
      go_wp2_with fail
      all_goals try (exfalso; omega)
      go_ret
      exact ⟨ret_bool HD.out.symm, Below.refl _ _⟩

def emptyV : Value → Nat
  | .string t => if t.size = 0 then 1 else 0
  | _ => 0
theorem emptyV_yes {t : ByteArray} (h : t.size = 0) : emptyV (.string t) = 1 := by show (if t.size = 0 then 1 else 0) = 1; rw [if_pos h]
theorem emptyV_no {t : ByteArray} (h : 0 < t.size) : emptyV (.string t) = 0 := by show (if t.size = 0 then 1 else 0) = 0; rw [if_neg (by omega)]
/-- The loop of the reference: what is still to be written (m) stands ahead of what is written (t). -/
def FmtR (n m : Int) (t : ByteArray) : Prop :=
  (t.size = 0 ∧ m = n) ∨ (0 < t.size ∧ Lib.decDigits n.natAbs = (if m = 0 then [] else Lib.decDigits m.natAbs) ++ t.data.toList)
abbrev tenDig : ByteArray := ⟨#[48, 49, 50, 51, 52, 53, 54, 55, 56, 57]⟩
theorem ten_fin : ∀ i : Fin 10, (tenDig.data.toList.drop i.val).take 1 = [UInt8.ofNat (48 + i.val)] := by decide +kernel
theorem ten_at (d : Nat) (h : d < 10) : (tenDig.extract d (d + 1)).data.toList = [UInt8.ofNat (48 + d)] := by
  rw [Lib.extract_data, show d + 1 - d = 1 by omega]
  exact ten_fin ⟨d, h⟩
theorem fmt_step {n m m' : Int} {t : ByteArray} {d : Nat} (h : FmtR n m t) (hgo : m ≠ 0 ∨ t.size = 0) (hd : d = m.natAbs % 10) (hm : m'.natAbs = m.natAbs / 10) :
    FmtR n m' (tenDig.extract d (d + 1) ++ t) ∧ 0 < (tenDig.extract d (d + 1) ++ t).size := by
  have hl : (tenDig.extract d (d + 1) ++ t).data.toList = UInt8.ofNat (48 + d) :: t.data.toList := by
    rw [Joins.data_append, ten_at d (by omega)]; rfl
  have hs : 0 < (tenDig.extract d (d + 1) ++ t).size := by rw [← size_len, hl]; simp
  refine ⟨.inr ⟨hs, ?_⟩, hs⟩
  rw [hl]
  have hk : ∀ u : Nat, d = u % 10 → m'.natAbs = u / 10 → Lib.decDigits u = (if m' = 0 then [] else Lib.decDigits m'.natAbs) ++ [UInt8.ofNat (48 + d)] := by
    intro u h1 h2
    rw [Lib.decDigits]
    split
    · rename_i h10
      rw [if_pos (by omega), List.nil_append, h1, Nat.mod_eq_of_lt h10]
    · rw [if_neg (by omega), h2, h1]
  rcases h with ⟨ht, rfl⟩ | ⟨ht, he⟩
  · have : t.data.toList = [] := List.eq_nil_of_length_eq_zero (by rw [size_len, ht])
    rw [this]
    exact hk _ hd hm
  · have hm0 : m ≠ 0 := by rcases hgo with h | h; exact h; omega
    rw [he, if_neg hm0, hk _ hd hm, List.append_assoc]
    rfl
theorem fmt_end {n : Int} {t : ByteArray} (h : FmtR n 0 t) (ht : 0 < t.size) : t.data.toList = Lib.decDigits n.natAbs := by
  rcases h with ⟨h, _⟩ | ⟨_, he⟩
  · omega
  · rw [he, if_pos rfl, List.nil_append]
theorem itoa_abs (n : Int) : Lib.itoa n = if n < 0 then 45 :: Lib.decDigits n.natAbs else Lib.decDigits n.natAbs := by
  unfold Lib.itoa
  split
  · rfl
  · rw [show n.toNat = n.natAbs by omega]
theorem bytes_of {t : ByteArray} {l : List UInt8} (h : t.data.toList = l) : t = ⟨l.toArray⟩ := by subst h; cases t; simp
theorem fmt_len {n m : Int} {t : ByteArray} (h : FmtR n m t) (h0 : -9223372036854775808 ≤ n) (h1 : n ≤ 9223372036854775807) : t.size ≤ 21 := by
  rcases h with ⟨h, _⟩ | ⟨_, he⟩
  · omega
  · have := congrArg List.length he
    rw [List.length_append, size_len] at this
    have hl := Lib.itoa_length_le n h0 h1
    rw [itoa_abs] at hl
    split at hl <;> (try rw [List.length_cons] at hl) <;> omega

theorem tmod10 (m : Int) (h : m < 0) : m.tmod 10 = -((m.natAbs % 10 : Nat) : Int) := by
  obtain ⟨k, rfl⟩ : ∃ k : Nat, m = -(k : Int) := ⟨m.natAbs, by omega⟩
  rw [Int.neg_tmod, Int.natAbs_neg, Int.natAbs_natCast]; rfl
theorem tdiv10 (m : Int) (h : m < 0) : m.tdiv 10 = -((m.natAbs / 10 : Nat) : Int) := by
  obtain ⟨k, rfl⟩ : ∃ k : Nat, m = -(k : Int) := ⟨m.natAbs, by omega⟩
  rw [Int.neg_tdiv, Int.natAbs_neg, Int.natAbs_natCast]; rfl
set_option maxHeartbeats 1000000 in
theorem rFormat_any (n : Int) (w : World) (h0 : -9223372036854775808 ≤ n) (h1 : n ≤ 9223372036854775807) :
    Calls Tryz.prog 84 #[.int .i64 n] w fun e w' => e = .returned (.string ⟨(Lib.itoa n).toArray⟩) ∧ Below w.heap.size w w' := by
  have hfin : ∀ t : ByteArray, FmtR n 0 t → 0 < t.size → (n < 0 → (⟨#[45]⟩ ++ t : ByteArray) = ⟨(Lib.itoa n).toArray⟩) ∧ (¬ n < 0 → t = ⟨(Lib.itoa n).toArray⟩) := by
    intro t ht hs
    have he := fmt_end ht hs
    refine ⟨fun hn => bytes_of ?_, fun hn => bytes_of ?_⟩
    · rw [Joins.data_append, he, itoa_abs, if_pos hn]; rfl
    · rw [he, itoa_abs, if_neg hn]
  have HF := Lib.hid hfin
  clear hfin
  go_enter Tryz.func84, Tryz.ntmps84
  go_wp2_with fail
  go_loop [4, 5] (fun s m => ∃ (k : Int) (t : ByteArray), m = .int .i64 k ∧ s = .string t ∧ FmtR n k t ∧ -9223372036854775808 ≤ k ∧ k ≤ 9223372036854775807) (fun s m => (intOf m).natAbs + emptyV s)
  case atStart => exact ⟨n, ⟨#[]⟩, rfl, rfl, .inl ⟨rfl, rfl⟩, h0, h1⟩
  case round =>
    obtain ⟨m, t, rfl, rfl, hR, b1, b2⟩ := hrel
    have hlen := fmt_len hR h0 h1
    have HR := Lib.hid hR
    clear hR
    by_cases hgo : m ≠ 0 ∨ t.size = 0
    · have hstep := fun (m' : Int) (d : Nat) => fmt_step (m' := m') (d := d) HR.out hgo
      have HS := Lib.hid hstep
      clear hstep
      obtain ⟨d, hd⟩ : ∃ d : Nat, d = m.natAbs % 10 := ⟨_, rfl⟩
      obtain ⟨q, hq⟩ : ∃ q : Nat, q = m.natAbs / 10 := ⟨_, rfl⟩
      have hd10 : d < 10 := by omega
      have HM : Hid (d = m.natAbs % 10 ∧ q = m.natAbs / 10) := ⟨hd, hq⟩
      have hemp : emptyV (.string t) = 1 ∨ m ≠ 0 := by
        rcases hgo with h | h
        · exact .inr h
        · exact .inl (emptyV_yes h)
      have HE := Lib.hid hemp
      clear hemp
      have hgoW : ((m != 0) = true) ∨ ((m != 0) = false ∧ t.toList.isEmpty = true) := by
        by_cases h : m = 0
        · refine .inr ⟨by simpa using h, isEmpty_of ?_⟩
          rcases hgo with h' | h'
          · exact absurd h h'
          · exact h'
        · exact .inl (by simpa using h)
      clear hgo
      rcases hgoW with hne | ⟨hne, hte⟩
      all_goals
        rcases Int.lt_or_le m 0 with hm | hm
        · have e1 := tmod10 m hm
          have e2 := tdiv10 m hm
          rw [← hd] at e1
          rw [← hq] at e2
          have hqb : q ≤ 922337203685477581 := by omega
          clear hd hq
          by_cases hd0 : d = 0
          · subst hd0
            rw [show -((0 : Nat) : Int) = 0 from rfl] at e1
            go_wp2
            go_round
            case rel => exact ⟨_, _, rfl, rfl, (HS.out (-(q : Int)) 0 HM.out.1 (by have := HM.out.2; omega)).1, by have := HM.out.2; omega, by omega⟩
            case measure => rw [show emptyV _ = 0 from emptyV_no (HS.out (-(q : Int)) 0 HM.out.1 (by have := HM.out.2; omega)).2]; have := HM.out.2; rcases HE.out with h | h <;> simp [intOf] <;> omega
          · go_wp2
            go_round
            case rel => exact ⟨_, _, rfl, rfl, (HS.out (-(q : Int)) d HM.out.1 (by have := HM.out.2; omega)).1, by have := HM.out.2; omega, by omega⟩
            case measure => rw [show emptyV _ = 0 from emptyV_no (HS.out (-(q : Int)) d HM.out.1 (by have := HM.out.2; omega)).2]; have := HM.out.2; rcases HE.out with h | h <;> simp [intOf] <;> omega
        · have e1 : m % 10 = (d : Int) := by omega
          clear hd hq
          go_wp2
          go_round
          case rel => exact ⟨_, _, rfl, rfl, (HS.out (m / 10) d HM.out.1 (by omega)).1, by omega, by omega⟩
          case measure => rw [show emptyV _ = 0 from emptyV_no (HS.out (m / 10) d HM.out.1 (by omega)).2]; rcases HE.out with h | h <;> simp [intOf, h] <;> omega
    · have hne : (m != 0) = false := by
        by_cases h : m = 0
        · simpa using h
        · exact absurd (Or.inl h) hgo
      have hm0 : m = 0 := by simpa using hne
      have hts : 0 < t.size := by
        rcases Nat.eq_zero_or_pos t.size with h | h
        · exact absurd (Or.inr h) hgo
        · exact h
      have hte := isEmpty_not hts
      subst hm0
      have HG := Lib.hid (HF.out t HR.out hts)
      clear hgo
      by_cases hn : n < 0
      · go_wp2
        go_ret
        exact ⟨ret_str (HG.out.1 hn), Below.refl _ _⟩
      · go_wp2
        go_ret
        exact ⟨ret_str (HG.out.2 hn), Below.refl _ _⟩
/-- What the walks ask of the listed variables. -/
structure LaidW (w : World) : Prop where
  tab : Lib.TabIs Tryz.prog w "internal/strconv.uint64pow10" .u64 Lib.pow10Tab
theorem LaidW.below {W W' : World} (h : LaidW W) (hb : Below W.heap.size W W') : LaidW W' := ⟨(Lib.tabBelow_of_tabIs h.tab) _ hb⟩
theorem Format_any (n : Int) (h0 : -9223372036854775808 ≤ n) (h1 : n ≤ 9223372036854775807) (w : World) (htab : LaidW w) :
    Calls Tryz.prog 76 #[.int .i64 n] w fun e w' => e = .returned (.string ⟨(Lib.itoa n).toArray⟩) ∧ Below w.heap.size w w' := by
  have HT := Lib.hid htab
  clear htab
  go_enter Tryz.func76, Tryz.ntmps76
  go_wp2_with fail
  refine (Tryz.strconv_Itoa n h0 h1 w HT.out.tab).mono ?_
  rintro e w1 ⟨rfl, k, os, rfl⟩
  go_wp2
  go_ret
  exact ⟨rfl, Lib.below_grow _ w (Nat.le_refl _) k os⟩
end Go.Proofs.YtbofclohnmojmaaGreatDoor
namespace Go.Proofs.YtbofclohnmojmaaGreatDoor
open Go.Lib

def isDg (c : UInt8) : Bool := decide (48 ≤ c.toNat) && decide (c.toNat ≤ 57)
def decB : List UInt8 → Bool
  | [] => false
  | c :: r => if c.toNat = 45 then (match r with | [] => false | d :: _ => !(decide (d.toNat = 48)) && r.all isDg) else (!(decide (c.toNat = 48)) || r.isEmpty) && (c :: r).all isDg
def dgv (c : UInt8) : Nat := c.toNat - 48
def magG : List UInt8 → Nat → Nat
  | [], acc => acc
  | c :: r, acc => magG r (acc * 10 + dgv c)
def magF (acc : Nat) (l : List UInt8) : Nat := magG l acc
def valI : List UInt8 → Int
  | [] => 0
  | c :: r => if c.toNat = 45 then -(magF 0 r : Int) else (magF 0 (c :: r) : Int)
theorem decB_cons (c : UInt8) (r : List UInt8) : decB (c :: r) = if c.toNat = 45 then (match r with | [] => false | d :: _ => !(decide (d.toNat = 48)) && r.all isDg) else (!(decide (c.toNat = 48)) || r.isEmpty) && (c :: r).all isDg := rfl
theorem valI_cons (c : UInt8) (r : List UInt8) : valI (c :: r) = if c.toNat = 45 then -(magF 0 r : Int) else (magF 0 (c :: r) : Int) := rfl
def bndB (n : Int) : Bool := decide (-1000000000000 ≤ n) && decide (n ≤ 1000000000000)
/-- What Parse answers. -/
def parI (l : List UInt8) : Int × Int :=
  if decB l = true then (if bndB (valI l) = true then (valI l, 0) else (0, 2)) else (0, 1)

theorem magF_cons (acc : Nat) (c : UInt8) (r : List UInt8) : magF acc (c :: r) = magF (acc * 10 + (c.toNat - 48)) r := by show magG _ _ = magG _ _; rw [magG, dgv]
theorem magF_nil (acc : Nat) : magF acc [] = acc := by show magG _ _ = _; rw [magG]
theorem magF_ge (l : List UInt8) : ∀ acc : Nat, acc ≤ magF acc l := by
  induction l with
  | nil => intro acc; rw [magF_nil]; exact Nat.le_refl acc
  | cons c r ih =>
    intro acc
    rw [magF_cons]
    have h : acc ≤ acc * 10 + (c.toNat - 48) := by omega
    exact Nat.le_trans h (ih _)
theorem magF_append (a b : List UInt8) : ∀ acc : Nat, magF acc (a ++ b) = magF (magF acc a) b := by
  induction a with
  | nil => intro acc; rw [List.nil_append, magF_nil]
  | cons c r ih => intro acc; rw [List.cons_append, magF_cons, magF_cons, ih]

theorem parse_digits (l : List UInt8) : ∀ acc : Nat, l.all isDg = true → acc < 18446744073709551616 →
    (parseUint10 acc l = .ok (magF acc l) ∧ magF acc l < 18446744073709551616) ∨ (parseUint10 acc l = .range ∧ 18446744073709551616 ≤ magF acc l) := by
  induction l with
  | nil => intro acc _ ha; exact .inl ⟨by rw [parseUint10, magF_nil], by rw [magF_nil]; exact ha⟩
  | cons c r ih =>
    intro acc h ha
    rw [List.all_cons, Bool.and_eq_true] at h
    obtain ⟨hc, hr⟩ := h
    have hc' : 48 ≤ c.toNat ∧ c.toNat ≤ 57 := by simpa [isDg] using hc
    rw [parseUint10, magF_cons, if_pos hc']
    have hge := magF_ge r (acc * 10 + (c.toNat - 48))
    by_cases h1 : 1844674407370955162 ≤ acc
    · rw [if_pos h1]; exact .inr ⟨rfl, by omega⟩
    · rw [if_neg h1]
      by_cases h2 : 18446744073709551616 ≤ acc * 10 + (c.toNat - 48)
      · rw [if_pos h2]; exact .inr ⟨rfl, by omega⟩
      · rw [if_neg h2]; exact ih _ hr (by omega)

/-- strconv.Atoi at a decimal numeral. -/
theorem atoi_dec (l : List UInt8) (h : decB l = true) :
    atoiAll l = .ok (valI l) ∧ -9223372036854775808 ≤ valI l ∧ valI l ≤ 9223372036854775807 ∨
    atoiAll l = .range ∧ (valI l < -1000000000000 ∨ 1000000000000 < valI l) := by
  match l, h with
  | c :: r, h =>
    rw [decB_cons] at h
    rw [valI_cons]
    by_cases hc : c.toNat = 45
    · rw [if_pos hc] at h ⊢
      match r, h with
      | d :: q, h =>
        simp only [Bool.and_eq_true] at h
        have hall := h.2
        have hp := parse_digits (d :: q) 0 hall (by omega)
        have he : parseMag (d :: q) = parseUint10 0 (d :: q) := by unfold parseMag; rw [if_neg (by simp)]
        simp only [atoiAll, hc, if_true, or_true, he]
        rcases hp with ⟨e, hlt⟩ | ⟨e, hge⟩
        · rw [e]
          simp only [not_true, false_and, if_false, true_and]
          by_cases hb : 9223372036854775808 < magF 0 (d :: q)
          · rw [if_pos hb]; exact .inr ⟨rfl, by omega⟩
          · rw [if_neg hb]; exact .inl ⟨rfl, by omega, by omega⟩
        · rw [e]; exact .inr ⟨rfl, by omega⟩
    · rw [if_neg hc] at h ⊢
      simp only [Bool.and_eq_true] at h
      have hall := h.2
      have hcd : 48 ≤ c.toNat ∧ c.toNat ≤ 57 := by
        rw [List.all_cons, Bool.and_eq_true] at hall
        simpa [isDg] using hall.1
      have hp := parse_digits (c :: r) 0 hall (by omega)
      have he : parseMag (c :: r) = parseUint10 0 (c :: r) := by unfold parseMag; rw [if_neg (by simp)]
      simp only [atoiAll, hc, if_false, or_false, show ¬ c.toNat = 43 by omega, he]
      rcases hp with ⟨e, hlt⟩ | ⟨e, hge⟩
      · rw [e]
        simp only [not_false_eq_true, true_and, false_and, if_false]
        by_cases hb : 9223372036854775808 ≤ magF 0 (c :: r)
        · rw [if_pos hb]; exact .inr ⟨rfl, by omega⟩
        · rw [if_neg hb]; exact .inl ⟨rfl, by omega, by omega⟩
      · rw [e]; exact .inr ⟨rfl, by omega⟩

/-! ### the numeral of an integer is one, and is worth it -/
theorem toNat_ofNat {u : Nat} (h : u < 256) : (UInt8.ofNat u).toNat = u := by simp [Nat.mod_eq_of_lt h]
theorem dec_digits_all (u : Nat) : (decDigits u).all isDg = true := by
  induction u using Nat.strongRecOn with
  | _ u ih =>
    rw [decDigits]
    split
    · rename_i h
      simp only [List.all_cons, List.all_nil, Bool.and_true, isDg, toNat_ofNat (show 48 + u < 256 by omega)]
      simp; omega
    · rename_i h
      rw [List.all_append, ih (u / 10) (by omega)]
      simp only [List.all_cons, List.all_nil, Bool.and_true, isDg, toNat_ofNat (show 48 + u % 10 < 256 by omega), Bool.true_and]
      simp; omega
theorem dec_digits_mag (u : Nat) : magF 0 (decDigits u) = u := by
  induction u using Nat.strongRecOn with
  | _ u ih =>
    rw [decDigits]
    split
    · rename_i h
      simp only [magF_cons, magF_nil, toNat_ofNat (show 48 + u < 256 by omega)]
      omega
    · rename_i h
      rw [magF_append, ih (u / 10) (by omega)]
      simp only [magF_cons, magF_nil, toNat_ofNat (show 48 + u % 10 < 256 by omega)]
      omega
theorem dec_digits_cons (u : Nat) : ∃ c r, decDigits u = c :: r ∧ 48 ≤ c.toNat ∧ c.toNat ≤ 57 ∧ (c.toNat = 48 → u = 0 ∧ r = []) := by
  induction u using Nat.strongRecOn with
  | _ u ih =>
    rw [decDigits]
    split
    · rename_i h
      refine ⟨_, _, rfl, ?_⟩
      rw [toNat_ofNat (show 48 + u < 256 by omega)]
      exact ⟨by omega, by omega, fun h => ⟨by omega, rfl⟩⟩
    · rename_i h
      obtain ⟨c, r, e, h1, h2, h3⟩ := ih (u / 10) (by omega)
      rw [e]
      exact ⟨c, r ++ _, rfl, h1, h2, fun h => by have := (h3 h).1; omega⟩
theorem itoa_dec (n : Int) : decB (itoa n) = true ∧ valI (itoa n) = n := by
  unfold itoa
  split
  · rename_i h
    obtain ⟨c, r, e, h1, h2, h3⟩ := dec_digits_cons n.natAbs
    have ha := dec_digits_all n.natAbs
    have hm := dec_digits_mag n.natAbs
    rw [e] at ha hm ⊢
    refine ⟨?_, ?_⟩
    · simp only [decB, show (45 : UInt8).toNat = 45 from rfl, if_true, ha, Bool.and_true]
      have : ¬ c.toNat = 48 := fun h' => by have := (h3 h').1; omega
      simp [this]
    · simp only [valI, show (45 : UInt8).toNat = 45 from rfl, if_true, hm]; omega
  · rename_i h
    obtain ⟨c, r, e, h1, h2, h3⟩ := dec_digits_cons n.toNat
    have ha := dec_digits_all n.toNat
    have hm := dec_digits_mag n.toNat
    rw [e] at ha hm ⊢
    refine ⟨?_, ?_⟩
    · simp only [decB, show ¬ c.toNat = 45 by omega, if_false, ha, Bool.and_true]
      by_cases h' : c.toNat = 48
      · simp [h', (h3 h').2]
      · simp [h']
    · simp only [valI, show ¬ c.toNat = 45 by omega, if_false, hm]; omega
/-- Digits without a zero ahead are the numeral of what they are worth. -/
theorem digits_of_mag : ∀ (k : Nat) (l : List UInt8), l.length = k → l ≠ [] → l.all isDg = true → ((∃ c r, l = c :: r ∧ (c.toNat = 48 → r = []))) → decDigits (magF 0 l) = l := by
  intro k
  induction k using Nat.strongRecOn with
  | _ k ih =>
    intro l hk hne hall hz
    obtain ⟨l', c, rfl⟩ : ∃ l' c, l = l' ++ [c] := ⟨l.dropLast, l.getLast hne, (List.dropLast_concat_getLast hne).symm⟩
    rw [List.all_append, Bool.and_eq_true] at hall
    have hc : 48 ≤ c.toNat ∧ c.toNat ≤ 57 := by simpa [isDg] using hall.2
    rw [magF_append]
    simp only [magF_cons, magF_nil]
    have hcc : UInt8.ofNat (48 + (c.toNat - 48)) = c := by
      rw [show 48 + (c.toNat - 48) = c.toNat by omega]; simp
    by_cases h0 : l' = []
    · subst h0
      simp only [magF_nil, List.nil_append]
      rw [decDigits, dif_pos (by omega), show 0 * 10 + (c.toNat - 48) = c.toNat - 48 by omega, hcc]
    · have hz' : ∃ d r, l' = d :: r ∧ (d.toNat = 48 → r = []) := by
        obtain ⟨d, r, e, hd⟩ := hz
        match l', h0 with
        | x :: y, _ =>
          simp only [List.cons_append, List.cons.injEq] at e
          obtain ⟨rfl, e⟩ := e
          exact ⟨x, y, rfl, fun h => by have := hd h; rw [← e] at this; simp at this⟩
      have hi := ih l'.length (by simp at hk; omega) l' rfl h0 hall.1 hz'
      have hpos : magF 0 l' ≠ 0 := by
        intro h
        rw [h] at hi
        obtain ⟨d, r, e, hd⟩ := hz
        rw [decDigits, dif_pos (by omega)] at hi
        rw [← hi] at e
        simp only [List.cons_append, List.nil_append, List.cons.injEq] at e
        have := hd (by rw [← e.1]; rfl)
        rw [← e.2] at this
        simp at this
      rw [decDigits, dif_neg (by omega)]
      rw [show (magF 0 l' * 10 + (c.toNat - 48)) / 10 = magF 0 l' by omega, show (magF 0 l' * 10 + (c.toNat - 48)) % 10 = c.toNat - 48 by omega, hi, hcc]
theorem dec_itoa (l : List UInt8) (h : decB l = true) : itoa (valI l) = l := by
  match l, h with
  | c :: r, h =>
    rw [decB_cons] at h
    rw [valI_cons]
    by_cases hc : c.toNat = 45
    · rw [if_pos hc] at h ⊢
      match r, h with
      | d :: q, h =>
        simp only [Bool.and_eq_true] at h
        obtain ⟨hd, hall⟩ := h
        have hd' : d.toNat ≠ 48 := by simpa using hd
        have e := digits_of_mag _ (d :: q) rfl (by simp) hall ⟨d, q, rfl, fun h => absurd h hd'⟩
        have hpos : magF 0 (d :: q) ≠ 0 := by
          intro h0
          rw [h0, decDigits, dif_pos (by omega)] at e
          simp only [List.cons.injEq] at e
          exact hd' (by rw [← e.1]; rfl)
        unfold itoa
        rw [if_pos (by omega), show (-(magF 0 (d :: q) : Int)).natAbs = magF 0 (d :: q) by omega, e]
        congr 1
        exact UInt8.toNat_inj.1 hc.symm
    · rw [if_neg hc] at h ⊢
      simp only [Bool.and_eq_true] at h
      obtain ⟨hz, hall⟩ := h
      have e := digits_of_mag _ (c :: r) rfl (by simp) hall ⟨c, r, rfl, fun h => by simpa [h] using hz⟩
      unfold itoa
      rw [if_neg (by omega), Int.toNat_natCast, e]
end Go.Proofs.YtbofclohnmojmaaGreatDoor
namespace Go.Proofs.YtbofclohnmojmaaGreatDoor
open Go.RowKit

/-- Of the blocks that were there only those of S may have changed. -/
structure Chg (S : Nat → Prop) (w w' : World) : Prop where
  os : w'.os = w.os
  tape : w'.tape = w.tape
  output : w'.output = w.output
  size : w.heap.size ≤ w'.heap.size
  block : ∀ k, k < w.heap.size → ¬ S k → w'.heap[k]? = w.heap[k]?

section
variable {S T : Nat → Prop} {a w w' : World}
theorem Chg.refl (S : Nat → Prop) (w : World) : Chg S w w := ⟨rfl, rfl, rfl, Nat.le_refl _, fun _ _ _ => rfl⟩
theorem Chg.trans (h : Chg S a w) (k : Chg T w w') (hT : ∀ k, k < a.heap.size → T k → S k) : Chg S a w' :=
  ⟨k.os.trans h.os, k.tape.trans h.tape, k.output.trans h.output, Nat.le_trans h.size k.size, fun i hi hn => (k.block i (Nat.lt_of_lt_of_le hi h.size) (fun ht => hn (hT i hi ht))).trans (h.block i hi hn)⟩
theorem Chg.mono (h : Chg S w w') (hs : ∀ k, S k → T k) : Chg T w w' := ⟨h.os, h.tape, h.output, h.size, fun k hk hn => h.block k hk fun hh => hn (hs k hh)⟩
theorem Chg.of_below (hb : Below w.heap.size w w') : Chg S w w' := ⟨hb.os, hb.tape, hb.output, hb.size, fun k hk _ => hb.block k hk⟩
theorem Chg.below (h : Chg S a w) (hb : Below w.heap.size w w') : Chg S a w' := h.trans (T := fun _ => False) (Chg.of_below hb) (fun _ _ h => h.elim)
theorem Chg.alloc (h : Chg S a w) (o : Obj) : Chg S a (w.alloc o) := h.below ((Below.refl _ _).alloc (Nat.le_refl _) _)
theorem Chg.drewN (h : Chg S a w) (n : Nat) : Chg S a (w.drewN n) := h.below (below_drewN' _ _ _)
theorem Chg.drew (h : Chg S a w) : Chg S a w.drew := h.drewN 1
theorem Chg.setCell (h : Chg S a w) {p : Addr} (hp : p.block < a.heap.size → S p.block) (u : Value) : Chg S a (w.setCell p u) :=
  h.trans (T := fun k => k = p.block) ⟨rfl, rfl, rfl, by simp [World.setCell], fun k _ hk => Below.heap_setCell _ _ _ _ hk⟩ (fun k hk e => by subst e; exact hp hk)
theorem Chg.grown {row : Option Nat} (h : Chg S a w) (hg : w.grownBy w' row) (hr : ∀ k, row = some k → k < a.heap.size → S k) : Chg S a w' :=
  h.trans (T := fun k => row = some k) ⟨hg.os, hg.tape, hg.output, hg.size, fun k hk hn => hg.block k hk (fun e => hn e.symm)⟩ (fun k hk e => hr k e hk)
theorem Chg.toBelow {B : Nat} (h : Chg S a w) (hS : ∀ k, S k → B ≤ k) (hB : B ≤ a.heap.size) : Below B a w :=
  ⟨h.os, h.tape, h.output, h.size, fun k hk => h.block k (by omega) (fun hs => by have := hS k hs; omega)⟩
theorem Chg.cell (h : Chg S w w') {p : Addr} (hp : p.block < w.heap.size) (hn : ¬ S p.block) : w'.cell? p = w.cell? p := World.cell?_of_block (w := w) (h.block _ hp hn)
theorem Chg.blk {g : Nat} {t : TypeId} {cs : Array Value} (hc : Chg S w w') (h : Blk w g t cs) (hn : ¬ S g) : Blk w' g t cs := (hc.block g h.lt hn).trans h
theorem Chg.own {base : Nat} {e : TypeId} {sz n : Nat} {v : Value} {xs : List Value} (hc : Chg S w w') (h : w.ownsRow base e sz v n xs) (hn : ∀ k, v.ownBlock = some k → ¬ S k) : w'.ownsRow base e sz v n xs := by
  refine ⟨h.1, ?_⟩
  rcases h.2 with h0 | ⟨g, cap, cur, hv, hb, hg, r⟩
  · exact .inl h0
  · refine .inr ⟨g, cap, cur, hv, hb, ?_, r⟩
    rw [hc.block g (Array.getElem?_eq_some_iff.1 hg).1 (hn g (by rw [hv]; rfl))]
    exact hg
/-- A change within what is new of the first world. -/
theorem Chg.narrow (h : Chg S a w) (k : Chg T w w') (hT : ∀ k, T k → S k ∨ a.heap.size ≤ k) : Chg S a w' := h.trans k fun i hi ht => by rcases hT i ht with h | h; exact h; omega
end
theorem decide_cases (p : Prop) [Decidable p] : (p ∧ decide p = true) ∨ (¬ p ∧ decide p = false) := by by_cases h : p <;> simp [h]
theorem own_eq (A : Option Addr) (n c : Nat) : (Value.slice A n c).ownBlock = A.map (·.block) := by cases A <;> rfl
theorem own_lt {w : World} {base : Nat} {e : TypeId} {sz n : Nat} {v : Value} {xs : List Value} (h : w.ownsRow base e sz v n xs) {k : Nat} (hk : v.ownBlock = some k) : base ≤ k ∧ k < w.heap.size := by
  rcases h.2 with ⟨rfl, _⟩ | ⟨g, cap, cur, hv, hb, hg, _⟩
  · simp [Value.ownBlock] at hk
  · rw [hv] at hk
    have : g = k := by simpa [Value.ownBlock] using hk
    subst this
    exact ⟨hb, (Array.getElem?_eq_some_iff.1 hg).1⟩
theorem own_blk {w : World} {base : Nat} {e : TypeId} {sz n : Nat} {v : Value} {xs : List Value} (h : w.ownsRow base e sz v n xs) {k : Nat} (hk : v.ownBlock = some k) : ∃ cs, Blk w k e cs := by
  rcases h.2 with ⟨rfl, _⟩ | ⟨g, cap, cur, hv, _, hg, _⟩
  · simp [Value.ownBlock] at hk
  · rw [hv] at hk
    have : g = k := by simpa [Value.ownBlock] using hk
    subst this
    exact ⟨_, hg⟩
theorem Blk.ne_ {w : World} {g g' : Nat} {t t' : TypeId} {cs cs' : Array Value} (h : Blk w g t cs) (h' : Blk w g' t' cs') (hne : t ≠ t') : g ≠ g' := by
  rintro rfl
  unfold Blk at h h'
  rw [h] at h'
  injection h' with h'
  injection h' with _ ht
  exact hne ht
/-- A row of another element type lies elsewhere. -/
theorem Blk.off {w : World} {g : Nat} {t : TypeId} {cs : Array Value} (h : Blk w g t cs) {base : Nat} {e : TypeId} {sz n : Nat} {v : Value} {xs : List Value} (ho : w.ownsRow base e sz v n xs) (hne : t ≠ e) {k : Nat} (hk : v.ownBlock = some k) : g ≠ k := by
  obtain ⟨cs', h'⟩ := own_blk ho hk
  exact h.ne_ h' hne
end Go.Proofs.YtbofclohnmojmaaGreatDoor
