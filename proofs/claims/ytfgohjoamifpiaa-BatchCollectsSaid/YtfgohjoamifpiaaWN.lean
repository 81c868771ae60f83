/- Operations in memory; the walk of records. -/
import Derived.Test.YtfgohjoamifpiaaWM
namespace Go.Proofs.Ytfgohjoamifpiaa
open Go.ChangeShapes Go.WideShapes Go.ChangeAt Go.RowKit Go.Deep Go.Joins
open Go.Sort (grow)

/-- An operation on a collector. -/
structure OpX where
  fl : Bool
  n : Int
  x : RecX
def OpX.cells (o : OpX) : List Value := .bool o.fl :: .int .i64 o.n :: o.x.cells
theorem OpX.cells_length (o : OpX) : o.cells.length = 12 := rfl
def OpsAt (w : World) (B : Nat) (A : Option Addr) (l : List OpX) : Prop := Reads w B 12 A l.length (l.flatMap OpX.cells) ∧ ∀ o ∈ l, BodyAt w B o.x
section
variable {w w' : World} {B B' : Nat} {A : Option Addr} {l : List OpX}
theorem OpsAt.below (h : OpsAt w B A l) (hb : Below B w w') : OpsAt w' B A l := ⟨h.1.below hb, fun x hx => (h.2 x hx).below hb⟩
theorem OpsAt.more (h : OpsAt w B A l) (hb : B ≤ B') : OpsAt w B' A l := ⟨h.1.more hb, fun x hx => Reads.more (h.2 x hx) hb⟩
theorem OpsAt.get (h : OpsAt w B A l) {k : Nat} (hk : k < l.length) :
    ∃ b o, A = some ⟨b, o, none⟩ ∧ b < B ∧ w.cell? ⟨b, o + k * 12, none⟩ = some (.bool l[k].fl) ∧ w.cell? ⟨b, o + k * 12 + 1, none⟩ = some (.int .i64 l[k].n) ∧ Ten w b (o + k * 12 + 2) l[k].x := by
  obtain ⟨b, o, e, hb, hc⟩ := h.1.2 (by omega)
  have key : ∀ j u, (l[k]).cells[j]? = some u → w.cell? ⟨b, o + (k * 12 + j), none⟩ = some u := by
    intro j u hu
    refine hc _ _ ?_
    have hj : j < 12 := by
      have := (List.getElem?_eq_some_iff.1 hu).1
      rw [OpX.cells_length] at this
      exact this
    rw [flat_get OpX.cells_length l k j l[k] (List.getElem?_eq_getElem hk) hj]
    exact hu
  exact ⟨b, o, e, hb, cell_at (key 0 _ rfl) (by omega), cell_at (key 1 _ rfl) (by omega), ten_of fun j u hu => cell_at (key (j + 2) u (by simpa [OpX.cells] using hu)) (by omega)⟩
end

def recsOfOps (l : List OpX) : List RecX := l.map (·.x)
/-- What holds at the head of a round of records. -/
structure RecOpsAt (w : World) (l : List OpX) (k : Nat) (v : Value) (wr : World) : Prop where
  low : Below w.heap.size w wr
  inv : MineInv wr w.heap.size v (recsOfOps (l.take k))

set_option maxHeartbeats 1000000 in
theorem records_all (A : Option Addr) (ca : Nat) (l : List OpX) (w : World) (hl : OpsAt w w.heap.size A l) (hn : l.length ≤ 300) :
    Calls Try.prog 17 #[.slice A l.length ca] w fun e w' => ∃ A' c', e = .returned (.slice A' (recsOfOps l).length c') ∧ RecsAt w' w'.heap.size A' (recsOfOps l) ∧ Below w.heap.size w w' := by
  obtain ⟨i1, hi1, hy0, hy1, hy2⟩ := info_parts info39
  go_enter Try.func17, Try.ntmps17
  go_wp2_with fail
  go_loopw [3, 7] (fun v i wr => ∃ (k : Nat) (vv : Value), k ≤ l.length ∧ i = .int .i64 k ∧ vv = v ∧ RecOpsAt w l k vv wr) (fun _ i _ => l.length - (intOf i).toNat)
  case atStart => exact ⟨0, _, Nat.zero_le _, rfl, rfl, ⟨Below.refl _ _, MineInv.nil _ _⟩⟩
  case round =>
    obtain ⟨k, v, hk, rfl, rfl, hbr, hinv⟩ := hrel
    have hzr := hbr.size
    have hlr : OpsAt wr w.heap.size A l := hl.below hbr
    obtain ⟨A', c', rfl⟩ := hinv.shape
    have hrl : (recsOfOps (l.take k)).length = k := by simp [recsOfOps, Nat.min_eq_left hk]
    have HRL := Lib.hid hrl
    have hrl3 : (recsOfOps (l.take k)).length ≤ 300 := by omega
    clear hl hrl
    by_cases hlt : k < l.length
    · obtain ⟨b, o, hA, hbl, _, _, ⟨c0, c1, c2, c3, c4, c5, c6, c7, c8, c9⟩⟩ := hlr.get hlt
      subst hA
      have hbody : BodyAt wr w.heap.size l[k].x := hlr.2 _ (List.getElem_mem hlt)
      have hxa : 0 < l[k].x.r.body.length → ∀ ad, l[k].x.ba = some ad → (Value.slice A' (recsOfOps (l.take k)).length c').ownBlock ≠ some ad.block := by
        intro hp ad ha e
        obtain ⟨b', o', e2, hb', _⟩ := hbody.2 hp
        rw [ha] at e2; injection e2 with e2; subst e2
        have := (hinv.row.lt _ e).1
        simp only at this
        omega
      have HI := Lib.hid hinv
      have HBR := Lib.hid hbr
      clear hinv hbr hlr
      go_wp2_with (at_builtin; go_must (refine wpList_append_any _ rfl (.tmp 10) (.tmp 16) 24 rfl w.heap.size 39 i1 _ 10 136 Try.underlying24 hi1 hy0 hy1 hy2 rfl (by decide) (.slice A' (recsOfOps (l.take k)).length c') (recsOfOps (l.take k)).length _ rfl (HI.out.row.alloc _) (wr.heap.size + 1) (some ⟨wr.heap.size, 0, none⟩) 1 1 l[k].x.cells rfl ⟨rfl, fun _ => ⟨_, _, rfl, by omega, fun j u hu => by have := cells_new_at (w := wr) (e := 39) (g := wr.heap.size) rfl j u hu; rwa [Addr.add_lit] at this⟩⟩ (RecX.oneCell _) (Nat.le_trans (show (recsOfOps (l.take k)).length + 1 ≤ 301 by omega) (by decide)) (by omega) (by simp; omega) ?_); intro v' w3 hown hgr hblk; have HB3 := Lib.hid (show Below w.heap.size w w3 from (HBR.out.alloc hzr _).grown hgr (by simp; omega) (fun k hk => (HI.out.row.lt k hk).1)); have HP := Lib.hid (MineInv.push HI.out (Reads.more hbody hzr) rfl hxa hown hgr hblk); clear hown hgr hblk)
      go_roundw
      case rel => exact ⟨k + 1, v', by omega, by go_num, rfl, ⟨HB3.out, by rw [show recsOfOps (l.take (k + 1)) = recsOfOps (l.take k) ++ [l[k].x] from by unfold recsOfOps; rw [List.take_succ_eq_append_getElem hlt, List.map_append]; rfl]; exact HP.out⟩⟩
      case measure => simp [intOf]; omega
    · obtain rfl : k = l.length := by omega
      rw [List.take_length] at hinv
      rw [List.take_length]
      clear hrl3 HRL
      go_wp2
      go_ret
      exact ⟨A', c', rfl, hinv.recs, hbr⟩

theorem Try.cells4 : Try.prog.cellsOf 4 = 1 := by kernel_rfl
theorem Try.cells50 : Try.prog.cellsOf 50 = 12 := by kernel_rfl
section
variable {H : Type} {enc : TypeId × Value → H} {w : World} {spare : Nat → Bool} {held : Bool}
theorem open_op {fuel : Nat} {cs : List Value} {x : DataW H × List MemPlace} (h12 : cs.length = 12) (h : DataW.trod enc Try.prog w 0 spare held fuel 50 cs = some x) :
    ∃ o : OpX, cs = o.cells ∧ BodyAt w w.heap.size o.x ∧ o.x.r.body.length ≤ maxLen := by
  match cs, h12 with
  | [a0, a1, c0, c1, c2, c3, c4, c5, c6, c7, c8, c9], _ =>
    obtain ⟨xs, n', _, _, _, hxl, hf⟩ := DataW.trod_struct Try.underlying50 h
    obtain ⟨y0, g0⟩ := field_of hf hxl 0 _ rfl Try.cells4
    obtain ⟨y1, g1⟩ := field_of hf hxl 1 _ rfl Try.cells3
    obtain ⟨y2, g2⟩ := field_of hf hxl 2 _ rfl Try.cells39
    obtain ⟨k0, e0, _⟩ := DataW.trod_bool Try.underlying4 g0
    obtain ⟨k1, rfl⟩ := int_field Try.underlying3 g1
    obtain ⟨r, hr, hb, hl⟩ := open_rec rfl g2
    have ha0 : a0 = .bool k0 := by simpa using e0
    subst ha0
    refine ⟨⟨k0, k1, r⟩, ?_, hb, hl⟩
    simp only [OpX.cells, ← hr]
    rfl
theorem open_ops {v : Value} {d : DataW H} {p : List MemPlace} (hv : ∃ a n c, v = .slice a n c) (h : DataW.Trod enc Try.prog w 0 spare held 41 v d p) :
    ∃ (A : Option Addr) (c : Nat) (l : List OpX), v = .slice A l.length c ∧ OpsAt w w.heap.size A l ∧ (∀ o ∈ l, o.x.r.body.length ≤ maxLen) ∧ l.length ≤ maxLen := by
  obtain ⟨a0, n0, c0, rfl⟩ := hv
  obtain ⟨fuel, hf⟩ := h
  rcases open_slice Try.underlying41 hf with ⟨hcs, _⟩ | ⟨a, len, cap, m, n, D, Pl, hcs, _, hl, hm, hmm, _, hi⟩
  · simp [Value.cells] at hcs
    obtain ⟨rfl, rfl, rfl⟩ := hcs
    exact ⟨none, 0, [], rfl, ⟨Reads.none_, by simp⟩, by simp, Nat.zero_le _⟩
  · simp [Value.cells] at hcs
    obtain ⟨rfl, rfl, rfl⟩ := hcs
    have hlm : n0 ≤ m := by rw [hmm]; split <;> omega
    obtain ⟨l, hll, hq⟩ := build_list (Q := fun i (x : OpX) => (∀ j u, x.cells[j]? = some u → w.cell? (a.add (i * 12 + j)) = some u) ∧ BodyAt w w.heap.size x.x ∧ x.x.r.body.length ≤ maxLen) n0 fun i hil => by
      obtain ⟨cs', hc, ht⟩ := hi i (by omega)
      rw [Try.cells50] at hc
      obtain ⟨h4, hcell⟩ := cells_split hc
      obtain ⟨x, rfl, hb, hbl⟩ := open_op h4 ht
      refine ⟨x, fun j u hu => ?_, hb, hbl⟩
      have hj : j < 12 := (List.getElem?_eq_some_iff.1 hu).1
      rw [← add_of_add, hcell j hj]
      exact hu
    have hmem : ∀ x ∈ l, BodyAt w w.heap.size x.x ∧ x.x.r.body.length ≤ maxLen := fun x hx => by
      obtain ⟨i, hi', he⟩ := List.mem_iff_getElem.1 hx
      have := hq i x (by rw [List.getElem?_eq_getElem hi', he])
      exact this.2
    refine ⟨some a, c0, l, by rw [hll], ⟨reads_of (by omega) (flat_length OpX.cells_length l) fun j u hu => ?_, fun x hx => (hmem x hx).1⟩, fun x hx => (hmem x hx).2, by omega⟩
    have hjl : j < l.length * 12 := by
      have := (List.getElem?_eq_some_iff.1 hu).1
      rwa [flat_length OpX.cells_length l] at this
    have hk : j / 12 < l.length := by omega
    have hx := List.getElem?_eq_getElem hk
    rw [show j = j / 12 * 12 + j % 12 from by omega] at hu ⊢
    rw [flat_get OpX.cells_length l (j / 12) (j % 12) _ hx (by omega)] at hu
    exact (hq _ _ hx).1 _ _ hu
end
end Go.Proofs.Ytfgohjoamifpiaa
