/- Parse: the program's and the reference's. -/
import Derived.Test.YtcmlgiilifdnfaaDoorPN
import Derived.Deep.RegionHeld3
namespace Go.Proofs.YtcmlgiilifdnfaaDoor
open Go.RowKit
open Go.Sort (grow)

def st0 : St := ⟨false, [], []⟩
def stP (s : St) : St × Int := if s.ck = 0 then (s, 0) else (st0, s.ck)
def parS (s : ByteArray) : St × Int := match pcs 32 s with
  | [a, b, c] => if (a.toList == [97, 108, 108, 111, 119] || a.toList == [100, 101, 110, 121]) = true then stP ⟨a.toList == [97, 108, 108, 111, 119], pcs 44 b, pcs 44 c⟩ else (st0, 1)
  | _ => (st0, 1)
theorem par_a {s : ByteArray} {L : List ByteArray} (h : pcs 32 s = L) (h3 : L.length ≠ 3) : parS s = (st0, 1) := by
  unfold parS
  rw [h]
  match L, h3 with
  | [], _ => rfl
  | [_], _ => rfl
  | [_, _], _ => rfl
  | [_, _, _], h3 => exact absurd rfl h3
  | _ :: _ :: _ :: _ :: _, _ => rfl
theorem par_b {s a b c : ByteArray} (h : pcs 32 s = [a, b, c]) (h1 : (a.toList == [97, 108, 108, 111, 119]) = false) (h2 : (a.toList == [100, 101, 110, 121]) = false) : parS s = (st0, 1) := by
  unfold parS; rw [h]; simp only [h1, h2]; rfl
theorem par_c {s a b c : ByteArray} (h : pcs 32 s = [a, b, c]) (h1 : (a.toList == [97, 108, 108, 111, 119] || a.toList == [100, 101, 110, 121]) = true) : parS s = stP ⟨a.toList == [97, 108, 108, 111, 119], pcs 44 b, pcs 44 c⟩ := by
  unfold parS; rw [h]; simp only [h1]; rfl
theorem three_of {α : Type} {L : List α} (h : L.length = 3) : ∃ a b c, L = [a, b, c] := by
  match L, h with
  | [a, b, c], _ => exact ⟨a, b, c, rfl⟩
theorem held_step {w0 w1 w2 : World} {p0 p1 p2 : Addr} {a b c : Value} (h : (w1.cell? p0 = some a ∧ w1.cell? p1 = some b ∧ w1.cell? p2 = some c) ∧ Below w0.heap.size w0 w1) (hb : Below w1.heap.size w1 w2) :
    (w2.cell? p0 = some a ∧ w2.cell? p1 = some b ∧ w2.cell? p2 = some c) ∧ Below w0.heap.size w0 w2 := by
  obtain ⟨⟨h0, h1, h2⟩, hw⟩ := h
  exact ⟨⟨(hb.cell (block_lt_of_cell h0)).trans h0, (hb.cell (block_lt_of_cell h1)).trans h1, (hb.cell (block_lt_of_cell h2)).trans h2⟩, hw.trans (hb.mono hw.size)⟩
theorem held_m {w0 w1 : World} {p0 p1 p2 : Addr} {a b c v : Value} (h : (w1.cell? p0 = some a ∧ w1.cell? p1 = some b ∧ w1.cell? p2 = some c) ∧ Below w0.heap.size w0 w1) (hm : w0.cell? ⟨0, 0, none⟩ = some v) : w1.cell? ⟨0, 0, none⟩ = some v :=
  (h.2.cell (p := ⟨0, 0, none⟩) (block_lt_of_cell hm)).trans hm
def Fresh (B : Nat) (A : Option Addr) : Prop := ∀ ad, A = some ad → B ≤ ad.block
theorem rsplit_any (c : UInt8) (s : ByteArray) (w : World) (hs : s.size ≤ 1048576) :
    Calls Tryd.prog 35 #[.string s, .int .u8 (c.toNat : Int)] w fun e w' => (∃ A cap, e = .returned (.slice A (pcs c s).length cap) ∧ StrL w' w'.heap.size A (pcs c s) ∧ Fresh w.heap.size A) ∧ Below w.heap.size w w' := by
  refine (split_own c s w hs).mono ?_
  rintro e w' ⟨v, rfl, ho, hb⟩
  obtain ⟨g, cap, rfl, hg, -⟩ := own_form ho (pcs_pos c s)
  obtain ⟨p, cap', e', h⟩ := own_reads ho
  injection e' with e1 e2 e3
  subst e1 e3
  exact ⟨⟨_, cap, rfl, h, fun ad h => by injection h with h; subst h; exact hg⟩, hb⟩
theorem set3_str {w : World} {B g : Nat} {A : Option Addr} {l : List ByteArray} (h : StrL w B A l) (hne : ∀ ad, A = some ad → ad.block ≠ g) (x y z : Value) : StrL (((w.setCell ⟨g, 0, none⟩ x).setCell ⟨g, 1, none⟩ y).setCell ⟨g, 2, none⟩ z) B A l :=
  Reads.set (Reads.set (Reads.set h (p := ⟨g, 0, none⟩) hne x) (p := ⟨g, 1, none⟩) hne y) (p := ⟨g, 2, none⟩) hne z
theorem set3_size (w : World) (g : Nat) (x y z : Value) : (((w.setCell ⟨g, 0, none⟩ x).setCell ⟨g, 1, none⟩ y).setCell ⟨g, 2, none⟩ z).heap.size = w.heap.size := by simp
theorem joinC_ge (c : UInt8) : ∀ L : List (List UInt8), L.length ≤ (joinC c L).length + 1
  | [] => by simp
  | [_] => by simp
  | p :: q :: r => by
    have := joinC_ge c (q :: r)
    rw [joinC]
    simp only [List.length_cons, List.length_append] at this ⊢
    omega
theorem pcs_len (c : UInt8) (s : ByteArray) : (pcs c s).length ≤ s.size + 1 := by
  have h := joinC_ge c (cutL c s.data.toList)
  rw [joinC_cutL, size_len] at h
  unfold pcs
  rw [List.length_map]
  exact h
theorem st0_at (w : World) : StV w w.heap.size (.agg #[.bool false, .slice none 0 0, .slice none 0 0]) st0 := ⟨none, 0, none, 0, rfl, Reads.none_, Reads.none_⟩
theorem st0_cap : CapV (.agg #[.bool false, .slice none 0 0, .slice none 0 0]) st0 := ⟨none, 0, none, 0, rfl, Nat.le_refl _, Nat.le_refl _⟩
theorem stP_good {s : St} (h : s.ck = 0) : stP s = (s, 0) := by unfold stP; rw [if_pos h]
theorem stP_bad {s : St} {n : Int} (h : s.ck = n) (hn : n ≠ 0) : stP s = (st0, n) := by unfold stP; rw [if_neg (by rw [h]; exact hn), h]
/-- What Parse hands back. -/
def PostP (capped : Bool) (x : St × Int) (w : World) (e : Ending) (w' : World) : Prop := ∃ v, e = .returned (.tuple #[v, .int .i64 x.2]) ∧ StV w' w'.heap.size v x.1 ∧ (capped = true → CapV v x.1) ∧ Below w.heap.size w w'
theorem postP_zero {capped : Bool} {x : St × Int} {w w' : World} {n : Int} (h : x = (st0, n)) (hb : Below w.heap.size w w') : PostP capped x w (.returned (.tuple #[.agg #[.bool false, .slice none 0 0, .slice none 0 0], .int .i64 n])) w' := by
  subst h; exact ⟨_, rfl, st0_at _, fun _ => st0_cap, hb⟩
theorem postP_st {capped : Bool} {x : St × Int} {w w' : World} {s : St} {v : Value} (h : x = (s, 0)) (hv : StV w' w'.heap.size v s) (hc : capped = true → CapV v s) (hb : Below w.heap.size w w') : PostP capped x w (.returned (.tuple #[v, .int .i64 0])) w' := by
  subst h; exact ⟨_, rfl, hv, hc, hb⟩
theorem ssplit_any (c : UInt8) (s : ByteArray) (m : Int) (w : World) (hs : s.size ≤ 1048576) (hm : w.cell? ⟨0, 0, none⟩ = some (.int .i64 m)) :
    Calls Tryd.prog 34 #[.string s, .string ⟨#[c]⟩] w fun e w' => (∃ A cap, e = .returned (.slice A (pcs c s).length cap) ∧ StrL w' w'.heap.size A (pcs c s) ∧ (pcs c s).length ≤ cap ∧ Fresh w.heap.size A) ∧ Below w.heap.size w w' := by
  refine (strings_split_any c s m w hs hm).mono ?_
  rintro e w' ⟨rfl, rfl⟩
  refine ⟨⟨_, _, rfl, ⟨by simp [svals], fun _ => ⟨_, 0, rfl, by simp, fun j u hu => ?_⟩⟩, Nat.le_refl _, fun ad h => by injection h with h; subst h; exact Nat.le_refl _⟩, size_new _ _⟩
  have := cells_new_at (w := w) (e := 9) (cs := svals (pcs c s)) rfl j u hu
  rw [Addr.add_lit] at this
  exact this
theorem ssplit_box (c : UInt8) (s : ByteArray) (m : Int) (W : World) (cs : Array Value) (hs : s.size ≤ 1048576) (hm : (W.alloc (.cells cs 31)).cell? ⟨0, 0, none⟩ = some (.int .i64 m)) :
    Calls Tryd.prog 34 #[.string s, .string ⟨#[c]⟩] (W.alloc (.cells cs 31)) fun e w' => (∃ A cap, e = .returned (.slice A (pcs c s).length cap) ∧ StrL w' w'.heap.size A (pcs c s) ∧ (pcs c s).length ≤ cap ∧ Fresh (W.heap.size + 1) A) ∧ Below (W.alloc (.cells cs 31)).heap.size (W.alloc (.cells cs 31)) w' ∧ Blk w' W.heap.size 31 cs :=
  (ssplit_any c s m _ hs hm).mono fun _ _ ⟨h, hb⟩ => ⟨by simpa using h, hb, (Blk.new W _ cs).on hb⟩
theorem split_box (c : UInt8) (s : ByteArray) (W : World) (cs : Array Value) (hs : s.size ≤ 1048576) :
    Calls Tryd.prog 35 #[.string s, .int .u8 (c.toNat : Int)] (W.alloc (.cells cs 31)) fun e w' => (∃ A cap, e = .returned (.slice A (pcs c s).length cap) ∧ StrL w' w'.heap.size A (pcs c s) ∧ Fresh (W.heap.size + 1) A) ∧ Below (W.alloc (.cells cs 31)).heap.size (W.alloc (.cells cs 31)) w' ∧ Blk w' W.heap.size 31 cs :=
  (rsplit_any c s _ hs).mono fun _ _ ⟨h, hb⟩ => ⟨by simpa using h, hb, (Blk.new W _ cs).on hb⟩
theorem ssplit_boxd (c : UInt8) (s : ByteArray) (m : Int) (W : World) (cs : Array Value) (hs : s.size ≤ 1048576) (hm : (W.alloc (.cells cs 31)).drew.cell? ⟨0, 0, none⟩ = some (.int .i64 m)) :
    Calls Tryd.prog 34 #[.string s, .string ⟨#[c]⟩] (W.alloc (.cells cs 31)).drew fun e w' => (∃ A cap, e = .returned (.slice A (pcs c s).length cap) ∧ StrL w' w'.heap.size A (pcs c s) ∧ (pcs c s).length ≤ cap ∧ Fresh (W.heap.size + 1) A) ∧ Below (W.alloc (.cells cs 31)).drew.heap.size (W.alloc (.cells cs 31)).drew w' ∧ Blk w' W.heap.size 31 cs :=
  (ssplit_any c s m _ hs hm).mono fun _ _ ⟨h, hb⟩ => ⟨by simpa using h, hb, (Blk.new W _ cs).drew.on hb⟩
theorem split_boxd (c : UInt8) (s : ByteArray) (W : World) (cs : Array Value) (hs : s.size ≤ 1048576) :
    Calls Tryd.prog 35 #[.string s, .int .u8 (c.toNat : Int)] (W.alloc (.cells cs 31)).drew fun e w' => (∃ A cap, e = .returned (.slice A (pcs c s).length cap) ∧ StrL w' w'.heap.size A (pcs c s) ∧ Fresh (W.heap.size + 1) A) ∧ Below (W.alloc (.cells cs 31)).drew.heap.size (W.alloc (.cells cs 31)).drew w' ∧ Blk w' W.heap.size 31 cs :=
  (rsplit_any c s _ hs).mono fun _ _ ⟨h, hb⟩ => ⟨by simpa using h, hb, (Blk.new W _ cs).drew.on hb⟩
theorem below_set3 {B : Nat} {w w1 : World} (h : Below B w w1) {H : Nat} (hH : B ≤ H) (x y z : Value) : Below B w (((w1.setCell ⟨H, 0, none⟩ x).setCell ⟨H, 1, none⟩ y).setCell ⟨H, 2, none⟩ z) :=
  ((h.setCell (p := ⟨H, 0, none⟩) hH x).setCell (p := ⟨H, 1, none⟩) hH y).setCell (p := ⟨H, 2, none⟩) hH z
theorem held_set {w0 w1 : World} {p0 p1 p2 : Addr} {a b c x y z : Value} {H : Nat} (h : (w1.cell? p0 = some a ∧ w1.cell? p1 = some b ∧ w1.cell? p2 = some c) ∧ Below w0.heap.size w0 w1) (hH : w0.heap.size ≤ H)
    (h0 : p0.block < w0.heap.size) (h1 : p1.block < w0.heap.size) (h2 : p2.block < w0.heap.size) :
    ((((w1.setCell ⟨H, 0, none⟩ x).setCell ⟨H, 1, none⟩ y).setCell ⟨H, 2, none⟩ z).cell? p0 = some a ∧ (((w1.setCell ⟨H, 0, none⟩ x).setCell ⟨H, 1, none⟩ y).setCell ⟨H, 2, none⟩ z).cell? p1 = some b ∧ (((w1.setCell ⟨H, 0, none⟩ x).setCell ⟨H, 1, none⟩ y).setCell ⟨H, 2, none⟩ z).cell? p2 = some c) ∧
    Below w0.heap.size w0 (((w1.setCell ⟨H, 0, none⟩ x).setCell ⟨H, 1, none⟩ y).setCell ⟨H, 2, none⟩ z) := by
  obtain ⟨⟨g0, g1, g2⟩, hw⟩ := h
  have hb := below_set3 hw hH x y z
  exact ⟨⟨((hb.cell h0).trans (hw.cell h0).symm).trans g0, ((hb.cell h1).trans (hw.cell h1).symm).trans g1, ((hb.cell h2).trans (hw.cell h2).symm).trans g2⟩, hb⟩
theorem Blk.set3 {w : World} {g : Nat} {t : TypeId} {a b c : Value} (h : Blk w g t #[a, b, c]) (x y z : Value) : Blk (((w.setCell ⟨g, 0, none⟩ x).setCell ⟨g, 1, none⟩ y).setCell ⟨g, 2, none⟩ z) g t #[x, y, z] := by
  simpa using ((h.set_ 0 x).set_ 1 y).set_ 2 z
theorem StrL.lt {w : World} {B : Nat} {A : Option Addr} {l : List ByteArray} (h : StrL w B A l) (hl : 0 < l.length) : ∀ ad, A = some ad → ad.block < B := by
  obtain ⟨b, o, rfl, hb, -⟩ := h.2 hl
  intro ad e
  injection e with e
  subst e
  exact hb
theorem rs32 (s : ByteArray) (w : World) (hs : s.size ≤ 1048576) :
    Calls Tryd.prog 35 #[.string s, .int .u8 32] w fun e w' => (∃ A cap, e = .returned (.slice A (pcs 32 s).length cap) ∧ StrL w' w'.heap.size A (pcs 32 s) ∧ Fresh w.heap.size A) ∧ Below w.heap.size w w' := rsplit_any 32 s w hs
theorem rs44 (s : ByteArray) (w : World) (hs : s.size ≤ 1048576) :
    Calls Tryd.prog 35 #[.string s, .int .u8 44] w fun e w' => (∃ A cap, e = .returned (.slice A (pcs 44 s).length cap) ∧ StrL w' w'.heap.size A (pcs 44 s) ∧ Fresh w.heap.size A) ∧ Below w.heap.size w w' := rsplit_any 44 s w hs
theorem rsb44 (s : ByteArray) (W : World) (cs : Array Value) (hs : s.size ≤ 1048576) :
    Calls Tryd.prog 35 #[.string s, .int .u8 44] (W.alloc (.cells cs 31)) fun e w' => (∃ A cap, e = .returned (.slice A (pcs 44 s).length cap) ∧ StrL w' w'.heap.size A (pcs 44 s) ∧ Fresh (W.heap.size + 1) A) ∧ Below (W.alloc (.cells cs 31)).heap.size (W.alloc (.cells cs 31)) w' ∧ Blk w' W.heap.size 31 cs := split_box 44 s W cs hs
theorem rsb44d (s : ByteArray) (W : World) (cs : Array Value) (hs : s.size ≤ 1048576) :
    Calls Tryd.prog 35 #[.string s, .int .u8 44] (W.alloc (.cells cs 31)).drew fun e w' => (∃ A cap, e = .returned (.slice A (pcs 44 s).length cap) ∧ StrL w' w'.heap.size A (pcs 44 s) ∧ Fresh (W.heap.size + 1) A) ∧ Below (W.alloc (.cells cs 31)).drew.heap.size (W.alloc (.cells cs 31)).drew w' ∧ Blk w' W.heap.size 31 cs := split_boxd 44 s W cs hs
set_option maxHeartbeats 4000000 in
set_option maxRecDepth 100000 in
theorem Parse_any (s : ByteArray) (m : Int) (w : World) (hs : s.size ≤ 100000) (hm : w.cell? ⟨0, 0, none⟩ = some (.int .i64 m)) :
    Calls Tryd.prog 15 #[.string s] w (PostP true (parS s) w) := by
  have Hs := Lib.hid hs
  have HS := Lib.hid (show ∀ t ∈ pcs 32 s, t.size ≤ 100000 from fun t ht => by have := pcs_size ht; omega)
  have HM := Lib.hid hm
  have hw0 := block_lt_of_cell hm
  clear hs
  go_enter Tryd.func15, Tryd.ntmps15
  go_wp2_with fail
  have br : Blk ((w).alloc (.cells #[.bool false, .slice none 0 0, .slice none 0 0] 31)) (w.heap.size) 31 #[.bool false, .slice none 0 0, .slice none 0 0] := Blk.new _ _ _
  have HB11 := Lib.hid (show Below w.heap.size w ((w).alloc (.cells #[.bool false, .slice none 0 0, .slice none 0 0] 31)) from (Below.refl w.heap.size w).alloc (by first | exact Nat.le_refl _ | omega | (simp; done) | (simp; omega)) _)
  generalize (w).alloc (.cells #[.bool false, .slice none 0 0, .slice none 0 0] 31) = w11 at *
  have hz11 : w.heap.size ≤ w11.heap.size := HB11.out.size
  go_wp2_with fail
  refine (ssplit_any 32 s m _ (Nat.le_trans Hs.out (by decide)) ((HB11.out.cell (p := ⟨0, 0, none⟩) hw0).trans HM.out)).mono ?_
  rintro e w12 ⟨⟨g1, cp1, rfl, hst, -, -⟩, hb⟩
  have br : Blk w12 (w.heap.size) 31 #[.bool false, .slice none 0 0, .slice none 0 0] := (br).on hb
  have hbz := hb.size
  have HB12 := Lib.hid ((HB11.out).trans (hb.mono (by first | exact Nat.le_refl _ | omega | (simp; done) | (simp; omega))))
  have hz12 : w.heap.size ≤ w12.heap.size := HB12.out.size
  clear hb hbz
  generalize hp1 : pcs 32 s = L1 at *
  have HP1 := Lib.hid hp1
  clear hp1
  by_cases h3 : L1.length = 3
  · obtain ⟨a, b, c, rfl⟩ := three_of h3
    have HA := Lib.hid (show b.size ≤ 100000 ∧ c.size ≤ 100000 from ⟨HS.out b (by simp), HS.out c (by simp)⟩)
    clear h3 HS
    obtain ⟨g, o, rfl, hgl, q0⟩ := hst.cell (k := 0) (x := a) rfl
    obtain ⟨_, _, e1, -, q1⟩ := hst.cell (k := 1) (x := b) rfl
    injection e1 with e1
    injection e1 with e1 e2
    subst e1 e2
    obtain ⟨_, _, e1, -, q2⟩ := hst.cell (k := 2) (x := c) rfl
    injection e1 with e1
    injection e1 with e1 e2
    subst e1 e2
    have q0 : w12.cell? ⟨g, o, none⟩ = some (.string a) := q0
    obtain ⟨x1, hx1⟩ : ∃ x, (a.toList == [97, 108, 108, 111, 119]) = x := ⟨_, rfl⟩
    obtain ⟨x2, hx2⟩ : ∃ x, (a.toList == [100, 101, 110, 121]) = x := ⟨_, rfl⟩
    have HX1 := Lib.hid hx1
    have HX2 := Lib.hid hx2
    cases x1
    · cases x2
      · have HD := Lib.hid (par_b HP1.out HX1.out HX2.out)
        have q_br0 : w12.cell? ⟨w.heap.size, 0, none⟩ = some (.bool false) := br.cell 0
        have q_br1 : w12.cell? ⟨w.heap.size, 1, none⟩ = some (.slice none 0 0) := br.cell 1
        have q_br2 : w12.cell? ⟨w.heap.size, 2, none⟩ = some (.slice none 0 0) := br.cell 2
        have f_br0 : w12.frozen? ⟨w.heap.size, 0, none⟩ = false := br.frozen 0
        have f_br1 : w12.frozen? ⟨w.heap.size, 1, none⟩ = false := br.frozen 1
        have f_br2 : w12.frozen? ⟨w.heap.size, 2, none⟩ = false := br.frozen 2
        go_wp2_with fail
        exact bodyPost_ret (v := .tuple #[.agg #[.bool false, .slice none 0 0, .slice none 0 0], .int .i64 1]) (by simp [results, Tryd.results15, go_sem, q_br0, q_br1, q_br2]) rfl (postP_zero HD.out (below_set3 (HB12.out) (Nat.le_refl _) _ _ _))
      · skip
        go_wp2_with fail
        have hgl0 : (⟨g, o, none⟩ : Addr).block < w12.heap.size := hgl
        have hgl1 : (⟨g, o + 1, none⟩ : Addr).block < w12.heap.size := hgl
        have hgl2 : (⟨g, o + 2, none⟩ : Addr).block < w12.heap.size := hgl
        have hwl : w.heap.size < w12.heap.size := br.lt
        have q' := (HB12.out.cell (p := ⟨0, 0, none⟩) hw0).trans HM.out
        go_region_held3 (fun w' => (w'.cell? ⟨g, o, none⟩ = some (.string a) ∧ w'.cell? ⟨g, o + 1, none⟩ = some (.string b) ∧ w'.cell? ⟨g, o + 2, none⟩ = some (.string c)) ∧ Below w12.heap.size w12 w') (first | assumption | exact ⟨⟨q0, q1, q2⟩, (Below.refl _ _).drew⟩ | exact held_step ⟨⟨q0, q1, q2⟩, Below.refl _ _⟩ ((size_new _ _).drew) | exact held_step (by assumption) (size_new _ _) | exact held_set (by assumption) (by assumption) hgl0 hgl1 hgl2) (first | (go_at_call 34; first | ((with_reducible refine (ssplit_boxd 44 b m w12 #[.bool false, .slice none 0 0, .slice none 0 0] (Nat.le_trans HA.out.1 (by decide)) (held_m (by assumption) q')).mono ?_); rintro e w13 ⟨⟨A1, k1, rfl, hs1, hk1, fr1⟩, hb1, bo⟩; have H13 := held_step (by assumption) hb1; have bo : Blk w13 w12.heap.size 31 #[.bool false, .slice none 0 0, .slice none 0 0] := bo; have hGG : w12.heap.size ≤ w12.heap.size := Nat.le_refl _; have bz := bo.lt; have f0 := bo.frozen 0; have f1 := bo.frozen 1; have f2 := bo.frozen 2; have c0 : w13.cell? ⟨w12.heap.size, 0, none⟩ = some (.bool false) := bo.cell 0; have c1 : w13.cell? ⟨w12.heap.size, 1, none⟩ = some (.slice none 0 0) := bo.cell 1; have c2 : w13.cell? ⟨w12.heap.size, 2, none⟩ = some (.slice none 0 0) := bo.cell 2) | ((with_reducible refine (ssplit_any 44 b m _ (Nat.le_trans HA.out.1 (by decide)) (held_m (by assumption) q')).mono ?_); rintro e w13 ⟨⟨A1, k1, rfl, hs1, hk1, fr1⟩, hb1⟩; have H13 := held_step (by assumption) hb1)) | (go_at_call 34; first | ((with_reducible refine (ssplit_box 44 c m w13 #[.bool false, .slice none 0 0, .slice none 0 0] (Nat.le_trans HA.out.2 (by decide)) (held_m (by assumption) q')).mono ?_); rintro e w14 ⟨⟨A2, k2, rfl, hs2, hk2, fr2⟩, hb2, bo⟩; have H14 := held_step (by assumption) hb2; have bo : Blk w14 w13.heap.size 31 #[.bool false, .slice none 0 0, .slice none 0 0] := bo; have hGG : w12.heap.size ≤ w13.heap.size := H13.2.size; have bz := bo.lt; have f0 := bo.frozen 0; have f1 := bo.frozen 1; have f2 := bo.frozen 2; have c0 : w14.cell? ⟨w13.heap.size, 0, none⟩ = some (.bool false) := bo.cell 0; have c1 : w14.cell? ⟨w13.heap.size, 1, none⟩ = some (.slice none 0 0) := bo.cell 1; have c2 : w14.cell? ⟨w13.heap.size, 2, none⟩ = some (.slice none 0 0) := bo.cell 2) | (have bo2 := bo; (with_reducible refine (ssplit_any 44 c m _ (Nat.le_trans HA.out.2 (by decide)) (held_m (by assumption) q')).mono ?_); rintro e w14 ⟨⟨A2, k2, rfl, hs2, hk2, fr2⟩, hb2⟩; have H14 := held_step (by assumption) hb2; have bo : Blk w14 w12.heap.size 31 #[.bool false, .slice none 0 0, .slice none 0 0] := bo2.on hb2; clear bo2; have bz := bo.lt; have f0 := bo.frozen 0; have f1 := bo.frozen 1; have f2 := bo.frozen 2; have c0 : w14.cell? ⟨w12.heap.size, 0, none⟩ = some (.bool false) := bo.cell 0; have c1 : w14.cell? ⟨w12.heap.size, 1, none⟩ = some (.slice none 0 0) := bo.cell 1; have c2 : w14.cell? ⟨w12.heap.size, 2, none⟩ = some (.slice none 0 0) := bo.cell 2) | ((with_reducible refine (ssplit_any 44 c m _ (Nat.le_trans HA.out.2 (by decide)) (held_m (by assumption) q')).mono ?_); rintro e w14 ⟨⟨A2, k2, rfl, hs2, hk2, fr2⟩, hb2⟩; have H14 := held_step (by assumption) hb2)))
        · have FIN : Blk (w14.alloc (.cells #[.bool false, .slice A1 (pcs 44 b).length k1, .slice A2 (pcs 44 c).length k2] 31)) (w14.heap.size) 31 #[.bool false, .slice A1 (pcs 44 b).length k1, .slice A2 (pcs 44 c).length k2] ∧ Below w12.heap.size w12 (w14.alloc (.cells #[.bool false, .slice A1 (pcs 44 b).length k1, .slice A2 (pcs 44 c).length k2] 31)) ∧ StrL (w14.alloc (.cells #[.bool false, .slice A1 (pcs 44 b).length k1, .slice A2 (pcs 44 c).length k2] 31)) (w14.alloc (.cells #[.bool false, .slice A1 (pcs 44 b).length k1, .slice A2 (pcs 44 c).length k2] 31)).heap.size A1 (pcs 44 b) ∧ StrL (w14.alloc (.cells #[.bool false, .slice A1 (pcs 44 b).length k1, .slice A2 (pcs 44 c).length k2] 31)) (w14.alloc (.cells #[.bool false, .slice A1 (pcs 44 b).length k1, .slice A2 (pcs 44 c).length k2] 31)).heap.size A2 (pcs 44 c) := ⟨Blk.new w14 _ _, H14.2.alloc H14.2.size _, (hs1.on hb2).on (size_new _ _), hs2.on (size_new _ _)⟩
          have HG : w12.heap.size ≤ w14.heap.size := H14.2.size
          have FR1 := Lib.hid (show Fresh w12.heap.size A1 from fun ad h => fr1 ad h)
          have FR2 := Lib.hid (show Fresh w12.heap.size A2 from fun ad h => Nat.le_trans H13.2.size (fr2 ad h))
          generalize w14.alloc (.cells #[.bool false, .slice A1 (pcs 44 b).length k1, .slice A2 (pcs 44 c).length k2] 31) = w15 at FIN ⊢
          generalize w14.heap.size = G at FIN HG ⊢
          obtain ⟨bG, hB15, hS1, hS2⟩ := FIN
          have HS1 := Lib.hid hS1
          have HS2 := Lib.hid hS2
          have br : Blk w15 w.heap.size 31 #[.bool false, .slice none 0 0, .slice none 0 0] := br.on hB15
          have HB15 := Lib.hid (HB12.out.trans (hB15.mono HB12.out.size))
          have hz15 := HB15.out.size
          have HST := Lib.hid (show StV w15 w15.heap.size (.agg #[.bool false, .slice A1 (pcs 44 b).length k1, .slice A2 (pcs 44 c).length k2]) (St.mk false (pcs 44 b) (pcs 44 c)) from ⟨A1, k1, A2, k2, rfl, hS1, hS2⟩)
          have HSZ := Lib.hid (show SzSt (St.mk false (pcs 44 b) (pcs 44 c)) from ⟨by have := pcs_len 44 b; have := HA.out.1; simp only; omega, by have := pcs_len 44 c; have := HA.out.2; simp only; omega, fun t ht => by have := pcs_size ht; have := HA.out.1; omega, fun t ht => by have := pcs_size ht; have := HA.out.2; omega⟩)
          have HCP := Lib.hid (show CapV (.agg #[.bool false, .slice A1 (pcs 44 b).length k1, .slice A2 (pcs 44 c).length k2]) (St.mk false (pcs 44 b) (pcs 44 c)) from ⟨A1, k1, A2, k2, rfl, hk1, hk2⟩)
          clear hS1 hS2 hB15 hs1 hs2 hb1 hb2 H13 H14 q0 q1 q2 hst hgl0 hgl1 hgl2 q'
          have q_br0 : w15.cell? ⟨w.heap.size, 0, none⟩ = some (.bool false) := br.cell 0
          have q_br1 : w15.cell? ⟨w.heap.size, 1, none⟩ = some (.slice none 0 0) := br.cell 1
          have q_br2 : w15.cell? ⟨w.heap.size, 2, none⟩ = some (.slice none 0 0) := br.cell 2
          have q_bG0 : w15.cell? ⟨G, 0, none⟩ = some (.bool false) := bG.cell 0
          have q_bG1 : w15.cell? ⟨G, 1, none⟩ = some (.slice A1 (pcs 44 b).length k1) := bG.cell 1
          have q_bG2 : w15.cell? ⟨G, 2, none⟩ = some (.slice A2 (pcs 44 c).length k2) := bG.cell 2
          go_wp2_with fail
          refine (Check_any (St.mk false (pcs 44 b) (pcs 44 c)) _ _ HST.out HSZ.out).mono ?_
          rintro e w16 ⟨rfl, hb⟩
          clear q_br0 q_br1 q_br2 q_bG0 q_bG1 q_bG2
          have br : Blk w16 (w.heap.size) 31 #[.bool false, .slice none 0 0, .slice none 0 0] := (br).on hb
          have bG : Blk w16 (G) 31 #[.bool false, .slice A1 (pcs 44 b).length k1, .slice A2 (pcs 44 c).length k2] := (bG).on hb
          have hbz := hb.size
          have HB16 := Lib.hid ((HB15.out).trans (hb.mono (by first | exact Nat.le_refl _ | omega | (simp; done) | (simp; omega))))
          have hz16 : w.heap.size ≤ w16.heap.size := HB16.out.size
          have HS1 := Lib.hid (HS1.out.on hb)
          have HS2 := Lib.hid (HS2.out.on hb)
          clear hb hbz
          have HPR := Lib.hid (show parS s = stP (St.mk false (pcs 44 b) (pcs 44 c)) by rw [par_c HP1.out (by rw [HX1.out, HX2.out]; rfl), HX1.out])
          rcases ck_cases (St.mk false (pcs 44 b) (pcs 44 c)) with hc | hc | hc
          · have HD := Lib.hid (HPR.out.trans (stP_good hc))
            rw [hc]
            clear hc
            have q_br0 : w16.cell? ⟨w.heap.size, 0, none⟩ = some (.bool false) := br.cell 0
            have q_br1 : w16.cell? ⟨w.heap.size, 1, none⟩ = some (.slice none 0 0) := br.cell 1
            have q_br2 : w16.cell? ⟨w.heap.size, 2, none⟩ = some (.slice none 0 0) := br.cell 2
            have q_bG0 : w16.cell? ⟨G, 0, none⟩ = some (.bool false) := bG.cell 0
            have q_bG1 : w16.cell? ⟨G, 1, none⟩ = some (.slice A1 (pcs 44 b).length k1) := bG.cell 1
            have q_bG2 : w16.cell? ⟨G, 2, none⟩ = some (.slice A2 (pcs 44 c).length k2) := bG.cell 2
            have f_br0 : w16.frozen? ⟨w.heap.size, 0, none⟩ = false := br.frozen 0
            have f_br1 : w16.frozen? ⟨w.heap.size, 1, none⟩ = false := br.frozen 1
            have f_br2 : w16.frozen? ⟨w.heap.size, 2, none⟩ = false := br.frozen 2
            go_wp2_with fail
            exact bodyPost_ret (v := .tuple #[.agg #[.bool false, .slice A1 (pcs 44 b).length k1, .slice A2 (pcs 44 c).length k2], .int .i64 0]) (by simp [results, Tryd.results15, go_sem, q_br0, q_br1, q_br2]) rfl (postP_st HD.out ⟨A1, k1, A2, k2, rfl, by rw [set3_size]; exact set3_str HS1.out (fun ad h => Nat.ne_of_gt (Nat.lt_of_lt_of_le hwl (FR1.out ad h))) _ _ _, by rw [set3_size]; exact set3_str HS2.out (fun ad h => Nat.ne_of_gt (Nat.lt_of_lt_of_le hwl (FR2.out ad h))) _ _ _⟩ (fun _ => HCP.out) (below_set3 (HB16.out) (Nat.le_refl _) _ _ _))
          · have HD := Lib.hid (HPR.out.trans (stP_bad hc (by decide)))
            rw [hc]
            clear hc
            have q_br0 : w16.cell? ⟨w.heap.size, 0, none⟩ = some (.bool false) := br.cell 0
            have q_br1 : w16.cell? ⟨w.heap.size, 1, none⟩ = some (.slice none 0 0) := br.cell 1
            have q_br2 : w16.cell? ⟨w.heap.size, 2, none⟩ = some (.slice none 0 0) := br.cell 2
            have f_br0 : w16.frozen? ⟨w.heap.size, 0, none⟩ = false := br.frozen 0
            have f_br1 : w16.frozen? ⟨w.heap.size, 1, none⟩ = false := br.frozen 1
            have f_br2 : w16.frozen? ⟨w.heap.size, 2, none⟩ = false := br.frozen 2
            go_wp2_with fail
            exact bodyPost_ret (v := .tuple #[.agg #[.bool false, .slice none 0 0, .slice none 0 0], .int .i64 3]) (by simp [results, Tryd.results15, go_sem, q_br0, q_br1, q_br2]) rfl (postP_zero HD.out (below_set3 (HB16.out) (Nat.le_refl _) _ _ _))
          · have HD := Lib.hid (HPR.out.trans (stP_bad hc (by decide)))
            rw [hc]
            clear hc
            have q_br0 : w16.cell? ⟨w.heap.size, 0, none⟩ = some (.bool false) := br.cell 0
            have q_br1 : w16.cell? ⟨w.heap.size, 1, none⟩ = some (.slice none 0 0) := br.cell 1
            have q_br2 : w16.cell? ⟨w.heap.size, 2, none⟩ = some (.slice none 0 0) := br.cell 2
            have f_br0 : w16.frozen? ⟨w.heap.size, 0, none⟩ = false := br.frozen 0
            have f_br1 : w16.frozen? ⟨w.heap.size, 1, none⟩ = false := br.frozen 1
            have f_br2 : w16.frozen? ⟨w.heap.size, 2, none⟩ = false := br.frozen 2
            go_wp2_with fail
            exact bodyPost_ret (v := .tuple #[.agg #[.bool false, .slice none 0 0, .slice none 0 0], .int .i64 4]) (by simp [results, Tryd.results15, go_sem, q_br0, q_br1, q_br2]) rfl (postP_zero HD.out (below_set3 (HB16.out) (Nat.le_refl _) _ _ _))
        · have FIN : Blk (((w14.setCell ⟨w13.heap.size, 0, none⟩ (.bool false)).setCell ⟨w13.heap.size, 1, none⟩ (.slice A1 (pcs 44 b).length k1)).setCell ⟨w13.heap.size, 2, none⟩ (.slice A2 (pcs 44 c).length k2)) (w13.heap.size) 31 #[.bool false, .slice A1 (pcs 44 b).length k1, .slice A2 (pcs 44 c).length k2] ∧ Below w12.heap.size w12 (((w14.setCell ⟨w13.heap.size, 0, none⟩ (.bool false)).setCell ⟨w13.heap.size, 1, none⟩ (.slice A1 (pcs 44 b).length k1)).setCell ⟨w13.heap.size, 2, none⟩ (.slice A2 (pcs 44 c).length k2)) ∧ StrL (((w14.setCell ⟨w13.heap.size, 0, none⟩ (.bool false)).setCell ⟨w13.heap.size, 1, none⟩ (.slice A1 (pcs 44 b).length k1)).setCell ⟨w13.heap.size, 2, none⟩ (.slice A2 (pcs 44 c).length k2)) (((w14.setCell ⟨w13.heap.size, 0, none⟩ (.bool false)).setCell ⟨w13.heap.size, 1, none⟩ (.slice A1 (pcs 44 b).length k1)).setCell ⟨w13.heap.size, 2, none⟩ (.slice A2 (pcs 44 c).length k2)).heap.size A1 (pcs 44 b) ∧ StrL (((w14.setCell ⟨w13.heap.size, 0, none⟩ (.bool false)).setCell ⟨w13.heap.size, 1, none⟩ (.slice A1 (pcs 44 b).length k1)).setCell ⟨w13.heap.size, 2, none⟩ (.slice A2 (pcs 44 c).length k2)) (((w14.setCell ⟨w13.heap.size, 0, none⟩ (.bool false)).setCell ⟨w13.heap.size, 1, none⟩ (.slice A1 (pcs 44 b).length k1)).setCell ⟨w13.heap.size, 2, none⟩ (.slice A2 (pcs 44 c).length k2)).heap.size A2 (pcs 44 c) := ⟨Blk.set3 bo _ _ _, below_set3 H14.2 hGG _ _ _, by rw [set3_size]; exact set3_str (hs1.on ((size_new _ _).trans (hb2.mono (size_new _ _).size))) (fun ad h => Nat.ne_of_lt (hs1.lt (pcs_pos _ _) ad h)) _ _ _, by rw [set3_size]; exact set3_str hs2 (fun ad h => Nat.ne_of_gt (fr2 ad h)) _ _ _⟩
          have HG : w12.heap.size ≤ w13.heap.size := hGG
          have FR1 := Lib.hid (show Fresh w12.heap.size A1 from fun ad h => fr1 ad h)
          have FR2 := Lib.hid (show Fresh w12.heap.size A2 from fun ad h => Nat.le_trans hGG (Nat.le_of_lt (fr2 ad h)))
          generalize ((w14.setCell ⟨w13.heap.size, 0, none⟩ (.bool false)).setCell ⟨w13.heap.size, 1, none⟩ (.slice A1 (pcs 44 b).length k1)).setCell ⟨w13.heap.size, 2, none⟩ (.slice A2 (pcs 44 c).length k2) = w15 at FIN ⊢
          generalize w13.heap.size = G at FIN HG ⊢
          obtain ⟨bG, hB15, hS1, hS2⟩ := FIN
          have HS1 := Lib.hid hS1
          have HS2 := Lib.hid hS2
          have br : Blk w15 w.heap.size 31 #[.bool false, .slice none 0 0, .slice none 0 0] := br.on hB15
          have HB15 := Lib.hid (HB12.out.trans (hB15.mono HB12.out.size))
          have hz15 := HB15.out.size
          have HST := Lib.hid (show StV w15 w15.heap.size (.agg #[.bool false, .slice A1 (pcs 44 b).length k1, .slice A2 (pcs 44 c).length k2]) (St.mk false (pcs 44 b) (pcs 44 c)) from ⟨A1, k1, A2, k2, rfl, hS1, hS2⟩)
          have HSZ := Lib.hid (show SzSt (St.mk false (pcs 44 b) (pcs 44 c)) from ⟨by have := pcs_len 44 b; have := HA.out.1; simp only; omega, by have := pcs_len 44 c; have := HA.out.2; simp only; omega, fun t ht => by have := pcs_size ht; have := HA.out.1; omega, fun t ht => by have := pcs_size ht; have := HA.out.2; omega⟩)
          have HCP := Lib.hid (show CapV (.agg #[.bool false, .slice A1 (pcs 44 b).length k1, .slice A2 (pcs 44 c).length k2]) (St.mk false (pcs 44 b) (pcs 44 c)) from ⟨A1, k1, A2, k2, rfl, hk1, hk2⟩)
          clear hS1 hS2 hB15 hs1 hs2 hb1 hb2 H13 H14 q0 q1 q2 hst hgl0 hgl1 hgl2 q'
          have q_br0 : w15.cell? ⟨w.heap.size, 0, none⟩ = some (.bool false) := br.cell 0
          have q_br1 : w15.cell? ⟨w.heap.size, 1, none⟩ = some (.slice none 0 0) := br.cell 1
          have q_br2 : w15.cell? ⟨w.heap.size, 2, none⟩ = some (.slice none 0 0) := br.cell 2
          have q_bG0 : w15.cell? ⟨G, 0, none⟩ = some (.bool false) := bG.cell 0
          have q_bG1 : w15.cell? ⟨G, 1, none⟩ = some (.slice A1 (pcs 44 b).length k1) := bG.cell 1
          have q_bG2 : w15.cell? ⟨G, 2, none⟩ = some (.slice A2 (pcs 44 c).length k2) := bG.cell 2
          go_wp2_with fail
          refine (Check_any (St.mk false (pcs 44 b) (pcs 44 c)) _ _ HST.out HSZ.out).mono ?_
          rintro e w16 ⟨rfl, hb⟩
          clear q_br0 q_br1 q_br2 q_bG0 q_bG1 q_bG2
          have br : Blk w16 (w.heap.size) 31 #[.bool false, .slice none 0 0, .slice none 0 0] := (br).on hb
          have bG : Blk w16 (G) 31 #[.bool false, .slice A1 (pcs 44 b).length k1, .slice A2 (pcs 44 c).length k2] := (bG).on hb
          have hbz := hb.size
          have HB16 := Lib.hid ((HB15.out).trans (hb.mono (by first | exact Nat.le_refl _ | omega | (simp; done) | (simp; omega))))
          have hz16 : w.heap.size ≤ w16.heap.size := HB16.out.size
          have HS1 := Lib.hid (HS1.out.on hb)
          have HS2 := Lib.hid (HS2.out.on hb)
          clear hb hbz
          have HPR := Lib.hid (show parS s = stP (St.mk false (pcs 44 b) (pcs 44 c)) by rw [par_c HP1.out (by rw [HX1.out, HX2.out]; rfl), HX1.out])
          rcases ck_cases (St.mk false (pcs 44 b) (pcs 44 c)) with hc | hc | hc
          · have HD := Lib.hid (HPR.out.trans (stP_good hc))
            rw [hc]
            clear hc
            have q_br0 : w16.cell? ⟨w.heap.size, 0, none⟩ = some (.bool false) := br.cell 0
            have q_br1 : w16.cell? ⟨w.heap.size, 1, none⟩ = some (.slice none 0 0) := br.cell 1
            have q_br2 : w16.cell? ⟨w.heap.size, 2, none⟩ = some (.slice none 0 0) := br.cell 2
            have q_bG0 : w16.cell? ⟨G, 0, none⟩ = some (.bool false) := bG.cell 0
            have q_bG1 : w16.cell? ⟨G, 1, none⟩ = some (.slice A1 (pcs 44 b).length k1) := bG.cell 1
            have q_bG2 : w16.cell? ⟨G, 2, none⟩ = some (.slice A2 (pcs 44 c).length k2) := bG.cell 2
            have f_br0 : w16.frozen? ⟨w.heap.size, 0, none⟩ = false := br.frozen 0
            have f_br1 : w16.frozen? ⟨w.heap.size, 1, none⟩ = false := br.frozen 1
            have f_br2 : w16.frozen? ⟨w.heap.size, 2, none⟩ = false := br.frozen 2
            go_wp2_with fail
            exact bodyPost_ret (v := .tuple #[.agg #[.bool false, .slice A1 (pcs 44 b).length k1, .slice A2 (pcs 44 c).length k2], .int .i64 0]) (by simp [results, Tryd.results15, go_sem, q_br0, q_br1, q_br2]) rfl (postP_st HD.out ⟨A1, k1, A2, k2, rfl, by rw [set3_size]; exact set3_str HS1.out (fun ad h => Nat.ne_of_gt (Nat.lt_of_lt_of_le hwl (FR1.out ad h))) _ _ _, by rw [set3_size]; exact set3_str HS2.out (fun ad h => Nat.ne_of_gt (Nat.lt_of_lt_of_le hwl (FR2.out ad h))) _ _ _⟩ (fun _ => HCP.out) (below_set3 (HB16.out) (Nat.le_refl _) _ _ _))
          · have HD := Lib.hid (HPR.out.trans (stP_bad hc (by decide)))
            rw [hc]
            clear hc
            have q_br0 : w16.cell? ⟨w.heap.size, 0, none⟩ = some (.bool false) := br.cell 0
            have q_br1 : w16.cell? ⟨w.heap.size, 1, none⟩ = some (.slice none 0 0) := br.cell 1
            have q_br2 : w16.cell? ⟨w.heap.size, 2, none⟩ = some (.slice none 0 0) := br.cell 2
            have f_br0 : w16.frozen? ⟨w.heap.size, 0, none⟩ = false := br.frozen 0
            have f_br1 : w16.frozen? ⟨w.heap.size, 1, none⟩ = false := br.frozen 1
            have f_br2 : w16.frozen? ⟨w.heap.size, 2, none⟩ = false := br.frozen 2
            go_wp2_with fail
            exact bodyPost_ret (v := .tuple #[.agg #[.bool false, .slice none 0 0, .slice none 0 0], .int .i64 3]) (by simp [results, Tryd.results15, go_sem, q_br0, q_br1, q_br2]) rfl (postP_zero HD.out (below_set3 (HB16.out) (Nat.le_refl _) _ _ _))
          · have HD := Lib.hid (HPR.out.trans (stP_bad hc (by decide)))
            rw [hc]
            clear hc
            have q_br0 : w16.cell? ⟨w.heap.size, 0, none⟩ = some (.bool false) := br.cell 0
            have q_br1 : w16.cell? ⟨w.heap.size, 1, none⟩ = some (.slice none 0 0) := br.cell 1
            have q_br2 : w16.cell? ⟨w.heap.size, 2, none⟩ = some (.slice none 0 0) := br.cell 2
            have f_br0 : w16.frozen? ⟨w.heap.size, 0, none⟩ = false := br.frozen 0
            have f_br1 : w16.frozen? ⟨w.heap.size, 1, none⟩ = false := br.frozen 1
            have f_br2 : w16.frozen? ⟨w.heap.size, 2, none⟩ = false := br.frozen 2
            go_wp2_with fail
            exact bodyPost_ret (v := .tuple #[.agg #[.bool false, .slice none 0 0, .slice none 0 0], .int .i64 4]) (by simp [results, Tryd.results15, go_sem, q_br0, q_br1, q_br2]) rfl (postP_zero HD.out (below_set3 (HB16.out) (Nat.le_refl _) _ _ _))
        · have hz13 : w12.heap.size < w13.heap.size := by have := hb1.size; simp at this; omega
          have FIN : Blk (((w14.setCell ⟨w12.heap.size, 0, none⟩ (.bool false)).setCell ⟨w12.heap.size, 1, none⟩ (.slice A1 (pcs 44 b).length k1)).setCell ⟨w12.heap.size, 2, none⟩ (.slice A2 (pcs 44 c).length k2)) (w12.heap.size) 31 #[.bool false, .slice A1 (pcs 44 b).length k1, .slice A2 (pcs 44 c).length k2] ∧ Below w12.heap.size w12 (((w14.setCell ⟨w12.heap.size, 0, none⟩ (.bool false)).setCell ⟨w12.heap.size, 1, none⟩ (.slice A1 (pcs 44 b).length k1)).setCell ⟨w12.heap.size, 2, none⟩ (.slice A2 (pcs 44 c).length k2)) ∧ StrL (((w14.setCell ⟨w12.heap.size, 0, none⟩ (.bool false)).setCell ⟨w12.heap.size, 1, none⟩ (.slice A1 (pcs 44 b).length k1)).setCell ⟨w12.heap.size, 2, none⟩ (.slice A2 (pcs 44 c).length k2)) (((w14.setCell ⟨w12.heap.size, 0, none⟩ (.bool false)).setCell ⟨w12.heap.size, 1, none⟩ (.slice A1 (pcs 44 b).length k1)).setCell ⟨w12.heap.size, 2, none⟩ (.slice A2 (pcs 44 c).length k2)).heap.size A1 (pcs 44 b) ∧ StrL (((w14.setCell ⟨w12.heap.size, 0, none⟩ (.bool false)).setCell ⟨w12.heap.size, 1, none⟩ (.slice A1 (pcs 44 b).length k1)).setCell ⟨w12.heap.size, 2, none⟩ (.slice A2 (pcs 44 c).length k2)) (((w14.setCell ⟨w12.heap.size, 0, none⟩ (.bool false)).setCell ⟨w12.heap.size, 1, none⟩ (.slice A1 (pcs 44 b).length k1)).setCell ⟨w12.heap.size, 2, none⟩ (.slice A2 (pcs 44 c).length k2)).heap.size A2 (pcs 44 c) := ⟨Blk.set3 bo _ _ _, below_set3 H14.2 hGG _ _ _, by rw [set3_size]; exact set3_str (hs1.on hb2) (fun ad h => Nat.ne_of_gt (fr1 ad h)) _ _ _, by rw [set3_size]; exact set3_str hs2 (fun ad h => Nat.ne_of_gt (Nat.lt_of_lt_of_le hz13 (fr2 ad h))) _ _ _⟩
          have HG : w12.heap.size ≤ w12.heap.size := Nat.le_refl _
          have FR1 := Lib.hid (show Fresh w12.heap.size A1 from fun ad h => Nat.le_of_lt (fr1 ad h))
          have FR2 := Lib.hid (show Fresh w12.heap.size A2 from fun ad h => Nat.le_trans (Nat.le_of_lt hz13) (fr2 ad h))
          generalize ((w14.setCell ⟨w12.heap.size, 0, none⟩ (.bool false)).setCell ⟨w12.heap.size, 1, none⟩ (.slice A1 (pcs 44 b).length k1)).setCell ⟨w12.heap.size, 2, none⟩ (.slice A2 (pcs 44 c).length k2) = w15 at FIN ⊢
          obtain ⟨G, hG⟩ : ∃ G, w12.heap.size = G := ⟨_, rfl⟩
          rw [hG] at FIN
          have FIN : Blk w15 G 31 #[.bool false, .slice A1 (pcs 44 b).length k1, .slice A2 (pcs 44 c).length k2] ∧ Below w12.heap.size w12 w15 ∧ StrL w15 w15.heap.size A1 (pcs 44 b) ∧ StrL w15 w15.heap.size A2 (pcs 44 c) := by rw [hG]; exact FIN
          try rw [hG]
          clear hG
          obtain ⟨bG, hB15, hS1, hS2⟩ := FIN
          have HS1 := Lib.hid hS1
          have HS2 := Lib.hid hS2
          have br : Blk w15 w.heap.size 31 #[.bool false, .slice none 0 0, .slice none 0 0] := br.on hB15
          have HB15 := Lib.hid (HB12.out.trans (hB15.mono HB12.out.size))
          have hz15 := HB15.out.size
          have HST := Lib.hid (show StV w15 w15.heap.size (.agg #[.bool false, .slice A1 (pcs 44 b).length k1, .slice A2 (pcs 44 c).length k2]) (St.mk false (pcs 44 b) (pcs 44 c)) from ⟨A1, k1, A2, k2, rfl, hS1, hS2⟩)
          have HSZ := Lib.hid (show SzSt (St.mk false (pcs 44 b) (pcs 44 c)) from ⟨by have := pcs_len 44 b; have := HA.out.1; simp only; omega, by have := pcs_len 44 c; have := HA.out.2; simp only; omega, fun t ht => by have := pcs_size ht; have := HA.out.1; omega, fun t ht => by have := pcs_size ht; have := HA.out.2; omega⟩)
          have HCP := Lib.hid (show CapV (.agg #[.bool false, .slice A1 (pcs 44 b).length k1, .slice A2 (pcs 44 c).length k2]) (St.mk false (pcs 44 b) (pcs 44 c)) from ⟨A1, k1, A2, k2, rfl, hk1, hk2⟩)
          clear hS1 hS2 hB15 hs1 hs2 hb1 hb2 H13 H14 q0 q1 q2 hst hgl0 hgl1 hgl2 q'
          have q_br0 : w15.cell? ⟨w.heap.size, 0, none⟩ = some (.bool false) := br.cell 0
          have q_br1 : w15.cell? ⟨w.heap.size, 1, none⟩ = some (.slice none 0 0) := br.cell 1
          have q_br2 : w15.cell? ⟨w.heap.size, 2, none⟩ = some (.slice none 0 0) := br.cell 2
          have q_bG0 : w15.cell? ⟨G, 0, none⟩ = some (.bool false) := bG.cell 0
          have q_bG1 : w15.cell? ⟨G, 1, none⟩ = some (.slice A1 (pcs 44 b).length k1) := bG.cell 1
          have q_bG2 : w15.cell? ⟨G, 2, none⟩ = some (.slice A2 (pcs 44 c).length k2) := bG.cell 2
          go_wp2_with fail
          refine (Check_any (St.mk false (pcs 44 b) (pcs 44 c)) _ _ HST.out HSZ.out).mono ?_
          rintro e w16 ⟨rfl, hb⟩
          clear q_br0 q_br1 q_br2 q_bG0 q_bG1 q_bG2
          have br : Blk w16 (w.heap.size) 31 #[.bool false, .slice none 0 0, .slice none 0 0] := (br).on hb
          have bG : Blk w16 (G) 31 #[.bool false, .slice A1 (pcs 44 b).length k1, .slice A2 (pcs 44 c).length k2] := (bG).on hb
          have hbz := hb.size
          have HB16 := Lib.hid ((HB15.out).trans (hb.mono (by first | exact Nat.le_refl _ | omega | (simp; done) | (simp; omega))))
          have hz16 : w.heap.size ≤ w16.heap.size := HB16.out.size
          have HS1 := Lib.hid (HS1.out.on hb)
          have HS2 := Lib.hid (HS2.out.on hb)
          clear hb hbz
          have HPR := Lib.hid (show parS s = stP (St.mk false (pcs 44 b) (pcs 44 c)) by rw [par_c HP1.out (by rw [HX1.out, HX2.out]; rfl), HX1.out])
          rcases ck_cases (St.mk false (pcs 44 b) (pcs 44 c)) with hc | hc | hc
          · have HD := Lib.hid (HPR.out.trans (stP_good hc))
            rw [hc]
            clear hc
            have q_br0 : w16.cell? ⟨w.heap.size, 0, none⟩ = some (.bool false) := br.cell 0
            have q_br1 : w16.cell? ⟨w.heap.size, 1, none⟩ = some (.slice none 0 0) := br.cell 1
            have q_br2 : w16.cell? ⟨w.heap.size, 2, none⟩ = some (.slice none 0 0) := br.cell 2
            have q_bG0 : w16.cell? ⟨G, 0, none⟩ = some (.bool false) := bG.cell 0
            have q_bG1 : w16.cell? ⟨G, 1, none⟩ = some (.slice A1 (pcs 44 b).length k1) := bG.cell 1
            have q_bG2 : w16.cell? ⟨G, 2, none⟩ = some (.slice A2 (pcs 44 c).length k2) := bG.cell 2
            have f_br0 : w16.frozen? ⟨w.heap.size, 0, none⟩ = false := br.frozen 0
            have f_br1 : w16.frozen? ⟨w.heap.size, 1, none⟩ = false := br.frozen 1
            have f_br2 : w16.frozen? ⟨w.heap.size, 2, none⟩ = false := br.frozen 2
            go_wp2_with fail
            exact bodyPost_ret (v := .tuple #[.agg #[.bool false, .slice A1 (pcs 44 b).length k1, .slice A2 (pcs 44 c).length k2], .int .i64 0]) (by simp [results, Tryd.results15, go_sem, q_br0, q_br1, q_br2]) rfl (postP_st HD.out ⟨A1, k1, A2, k2, rfl, by rw [set3_size]; exact set3_str HS1.out (fun ad h => Nat.ne_of_gt (Nat.lt_of_lt_of_le hwl (FR1.out ad h))) _ _ _, by rw [set3_size]; exact set3_str HS2.out (fun ad h => Nat.ne_of_gt (Nat.lt_of_lt_of_le hwl (FR2.out ad h))) _ _ _⟩ (fun _ => HCP.out) (below_set3 (HB16.out) (Nat.le_refl _) _ _ _))
          · have HD := Lib.hid (HPR.out.trans (stP_bad hc (by decide)))
            rw [hc]
            clear hc
            have q_br0 : w16.cell? ⟨w.heap.size, 0, none⟩ = some (.bool false) := br.cell 0
            have q_br1 : w16.cell? ⟨w.heap.size, 1, none⟩ = some (.slice none 0 0) := br.cell 1
            have q_br2 : w16.cell? ⟨w.heap.size, 2, none⟩ = some (.slice none 0 0) := br.cell 2
            have f_br0 : w16.frozen? ⟨w.heap.size, 0, none⟩ = false := br.frozen 0
            have f_br1 : w16.frozen? ⟨w.heap.size, 1, none⟩ = false := br.frozen 1
            have f_br2 : w16.frozen? ⟨w.heap.size, 2, none⟩ = false := br.frozen 2
            go_wp2_with fail
            exact bodyPost_ret (v := .tuple #[.agg #[.bool false, .slice none 0 0, .slice none 0 0], .int .i64 3]) (by simp [results, Tryd.results15, go_sem, q_br0, q_br1, q_br2]) rfl (postP_zero HD.out (below_set3 (HB16.out) (Nat.le_refl _) _ _ _))
          · have HD := Lib.hid (HPR.out.trans (stP_bad hc (by decide)))
            rw [hc]
            clear hc
            have q_br0 : w16.cell? ⟨w.heap.size, 0, none⟩ = some (.bool false) := br.cell 0
            have q_br1 : w16.cell? ⟨w.heap.size, 1, none⟩ = some (.slice none 0 0) := br.cell 1
            have q_br2 : w16.cell? ⟨w.heap.size, 2, none⟩ = some (.slice none 0 0) := br.cell 2
            have f_br0 : w16.frozen? ⟨w.heap.size, 0, none⟩ = false := br.frozen 0
            have f_br1 : w16.frozen? ⟨w.heap.size, 1, none⟩ = false := br.frozen 1
            have f_br2 : w16.frozen? ⟨w.heap.size, 2, none⟩ = false := br.frozen 2
            go_wp2_with fail
            exact bodyPost_ret (v := .tuple #[.agg #[.bool false, .slice none 0 0, .slice none 0 0], .int .i64 4]) (by simp [results, Tryd.results15, go_sem, q_br0, q_br1, q_br2]) rfl (postP_zero HD.out (below_set3 (HB16.out) (Nat.le_refl _) _ _ _))
    · skip
      go_wp2_with fail
      have hgl0 : (⟨g, o, none⟩ : Addr).block < w12.heap.size := hgl
      have hgl1 : (⟨g, o + 1, none⟩ : Addr).block < w12.heap.size := hgl
      have hgl2 : (⟨g, o + 2, none⟩ : Addr).block < w12.heap.size := hgl
      have hwl : w.heap.size < w12.heap.size := br.lt
      have q' := (HB12.out.cell (p := ⟨0, 0, none⟩) hw0).trans HM.out
      go_region_held3 (fun w' => (w'.cell? ⟨g, o, none⟩ = some (.string a) ∧ w'.cell? ⟨g, o + 1, none⟩ = some (.string b) ∧ w'.cell? ⟨g, o + 2, none⟩ = some (.string c)) ∧ Below w12.heap.size w12 w') (first | assumption | exact ⟨⟨q0, q1, q2⟩, (Below.refl _ _).drew⟩ | exact held_step ⟨⟨q0, q1, q2⟩, Below.refl _ _⟩ ((size_new _ _).drew) | exact held_step (by assumption) (size_new _ _) | exact held_set (by assumption) (by assumption) hgl0 hgl1 hgl2) (first | (go_at_call 34; first | ((with_reducible refine (ssplit_boxd 44 b m w12 #[.bool false, .slice none 0 0, .slice none 0 0] (Nat.le_trans HA.out.1 (by decide)) (held_m (by assumption) q')).mono ?_); rintro e w13 ⟨⟨A1, k1, rfl, hs1, hk1, fr1⟩, hb1, bo⟩; have H13 := held_step (by assumption) hb1; have bo : Blk w13 w12.heap.size 31 #[.bool false, .slice none 0 0, .slice none 0 0] := bo; have hGG : w12.heap.size ≤ w12.heap.size := Nat.le_refl _; have bz := bo.lt; have f0 := bo.frozen 0; have f1 := bo.frozen 1; have f2 := bo.frozen 2; have c0 : w13.cell? ⟨w12.heap.size, 0, none⟩ = some (.bool false) := bo.cell 0; have c1 : w13.cell? ⟨w12.heap.size, 1, none⟩ = some (.slice none 0 0) := bo.cell 1; have c2 : w13.cell? ⟨w12.heap.size, 2, none⟩ = some (.slice none 0 0) := bo.cell 2) | ((with_reducible refine (ssplit_any 44 b m _ (Nat.le_trans HA.out.1 (by decide)) (held_m (by assumption) q')).mono ?_); rintro e w13 ⟨⟨A1, k1, rfl, hs1, hk1, fr1⟩, hb1⟩; have H13 := held_step (by assumption) hb1)) | (go_at_call 34; first | ((with_reducible refine (ssplit_box 44 c m w13 #[.bool false, .slice none 0 0, .slice none 0 0] (Nat.le_trans HA.out.2 (by decide)) (held_m (by assumption) q')).mono ?_); rintro e w14 ⟨⟨A2, k2, rfl, hs2, hk2, fr2⟩, hb2, bo⟩; have H14 := held_step (by assumption) hb2; have bo : Blk w14 w13.heap.size 31 #[.bool false, .slice none 0 0, .slice none 0 0] := bo; have hGG : w12.heap.size ≤ w13.heap.size := H13.2.size; have bz := bo.lt; have f0 := bo.frozen 0; have f1 := bo.frozen 1; have f2 := bo.frozen 2; have c0 : w14.cell? ⟨w13.heap.size, 0, none⟩ = some (.bool false) := bo.cell 0; have c1 : w14.cell? ⟨w13.heap.size, 1, none⟩ = some (.slice none 0 0) := bo.cell 1; have c2 : w14.cell? ⟨w13.heap.size, 2, none⟩ = some (.slice none 0 0) := bo.cell 2) | (have bo2 := bo; (with_reducible refine (ssplit_any 44 c m _ (Nat.le_trans HA.out.2 (by decide)) (held_m (by assumption) q')).mono ?_); rintro e w14 ⟨⟨A2, k2, rfl, hs2, hk2, fr2⟩, hb2⟩; have H14 := held_step (by assumption) hb2; have bo : Blk w14 w12.heap.size 31 #[.bool false, .slice none 0 0, .slice none 0 0] := bo2.on hb2; clear bo2; have bz := bo.lt; have f0 := bo.frozen 0; have f1 := bo.frozen 1; have f2 := bo.frozen 2; have c0 : w14.cell? ⟨w12.heap.size, 0, none⟩ = some (.bool false) := bo.cell 0; have c1 : w14.cell? ⟨w12.heap.size, 1, none⟩ = some (.slice none 0 0) := bo.cell 1; have c2 : w14.cell? ⟨w12.heap.size, 2, none⟩ = some (.slice none 0 0) := bo.cell 2) | ((with_reducible refine (ssplit_any 44 c m _ (Nat.le_trans HA.out.2 (by decide)) (held_m (by assumption) q')).mono ?_); rintro e w14 ⟨⟨A2, k2, rfl, hs2, hk2, fr2⟩, hb2⟩; have H14 := held_step (by assumption) hb2)))
      · have FIN : Blk (w14.alloc (.cells #[.bool true, .slice A1 (pcs 44 b).length k1, .slice A2 (pcs 44 c).length k2] 31)) (w14.heap.size) 31 #[.bool true, .slice A1 (pcs 44 b).length k1, .slice A2 (pcs 44 c).length k2] ∧ Below w12.heap.size w12 (w14.alloc (.cells #[.bool true, .slice A1 (pcs 44 b).length k1, .slice A2 (pcs 44 c).length k2] 31)) ∧ StrL (w14.alloc (.cells #[.bool true, .slice A1 (pcs 44 b).length k1, .slice A2 (pcs 44 c).length k2] 31)) (w14.alloc (.cells #[.bool true, .slice A1 (pcs 44 b).length k1, .slice A2 (pcs 44 c).length k2] 31)).heap.size A1 (pcs 44 b) ∧ StrL (w14.alloc (.cells #[.bool true, .slice A1 (pcs 44 b).length k1, .slice A2 (pcs 44 c).length k2] 31)) (w14.alloc (.cells #[.bool true, .slice A1 (pcs 44 b).length k1, .slice A2 (pcs 44 c).length k2] 31)).heap.size A2 (pcs 44 c) := ⟨Blk.new w14 _ _, H14.2.alloc H14.2.size _, (hs1.on hb2).on (size_new _ _), hs2.on (size_new _ _)⟩
        have HG : w12.heap.size ≤ w14.heap.size := H14.2.size
        have FR1 := Lib.hid (show Fresh w12.heap.size A1 from fun ad h => fr1 ad h)
        have FR2 := Lib.hid (show Fresh w12.heap.size A2 from fun ad h => Nat.le_trans H13.2.size (fr2 ad h))
        generalize w14.alloc (.cells #[.bool true, .slice A1 (pcs 44 b).length k1, .slice A2 (pcs 44 c).length k2] 31) = w15 at FIN ⊢
        generalize w14.heap.size = G at FIN HG ⊢
        obtain ⟨bG, hB15, hS1, hS2⟩ := FIN
        have HS1 := Lib.hid hS1
        have HS2 := Lib.hid hS2
        have br : Blk w15 w.heap.size 31 #[.bool false, .slice none 0 0, .slice none 0 0] := br.on hB15
        have HB15 := Lib.hid (HB12.out.trans (hB15.mono HB12.out.size))
        have hz15 := HB15.out.size
        have HST := Lib.hid (show StV w15 w15.heap.size (.agg #[.bool true, .slice A1 (pcs 44 b).length k1, .slice A2 (pcs 44 c).length k2]) (St.mk true (pcs 44 b) (pcs 44 c)) from ⟨A1, k1, A2, k2, rfl, hS1, hS2⟩)
        have HSZ := Lib.hid (show SzSt (St.mk true (pcs 44 b) (pcs 44 c)) from ⟨by have := pcs_len 44 b; have := HA.out.1; simp only; omega, by have := pcs_len 44 c; have := HA.out.2; simp only; omega, fun t ht => by have := pcs_size ht; have := HA.out.1; omega, fun t ht => by have := pcs_size ht; have := HA.out.2; omega⟩)
        have HCP := Lib.hid (show CapV (.agg #[.bool true, .slice A1 (pcs 44 b).length k1, .slice A2 (pcs 44 c).length k2]) (St.mk true (pcs 44 b) (pcs 44 c)) from ⟨A1, k1, A2, k2, rfl, hk1, hk2⟩)
        clear hS1 hS2 hB15 hs1 hs2 hb1 hb2 H13 H14 q0 q1 q2 hst hgl0 hgl1 hgl2 q'
        have q_br0 : w15.cell? ⟨w.heap.size, 0, none⟩ = some (.bool false) := br.cell 0
        have q_br1 : w15.cell? ⟨w.heap.size, 1, none⟩ = some (.slice none 0 0) := br.cell 1
        have q_br2 : w15.cell? ⟨w.heap.size, 2, none⟩ = some (.slice none 0 0) := br.cell 2
        have q_bG0 : w15.cell? ⟨G, 0, none⟩ = some (.bool true) := bG.cell 0
        have q_bG1 : w15.cell? ⟨G, 1, none⟩ = some (.slice A1 (pcs 44 b).length k1) := bG.cell 1
        have q_bG2 : w15.cell? ⟨G, 2, none⟩ = some (.slice A2 (pcs 44 c).length k2) := bG.cell 2
        go_wp2_with fail
        refine (Check_any (St.mk true (pcs 44 b) (pcs 44 c)) _ _ HST.out HSZ.out).mono ?_
        rintro e w16 ⟨rfl, hb⟩
        clear q_br0 q_br1 q_br2 q_bG0 q_bG1 q_bG2
        have br : Blk w16 (w.heap.size) 31 #[.bool false, .slice none 0 0, .slice none 0 0] := (br).on hb
        have bG : Blk w16 (G) 31 #[.bool true, .slice A1 (pcs 44 b).length k1, .slice A2 (pcs 44 c).length k2] := (bG).on hb
        have hbz := hb.size
        have HB16 := Lib.hid ((HB15.out).trans (hb.mono (by first | exact Nat.le_refl _ | omega | (simp; done) | (simp; omega))))
        have hz16 : w.heap.size ≤ w16.heap.size := HB16.out.size
        have HS1 := Lib.hid (HS1.out.on hb)
        have HS2 := Lib.hid (HS2.out.on hb)
        clear hb hbz
        have HPR := Lib.hid (show parS s = stP (St.mk true (pcs 44 b) (pcs 44 c)) by rw [par_c HP1.out (by rw [HX1.out]; rfl), HX1.out])
        rcases ck_cases (St.mk true (pcs 44 b) (pcs 44 c)) with hc | hc | hc
        · have HD := Lib.hid (HPR.out.trans (stP_good hc))
          rw [hc]
          clear hc
          have q_br0 : w16.cell? ⟨w.heap.size, 0, none⟩ = some (.bool false) := br.cell 0
          have q_br1 : w16.cell? ⟨w.heap.size, 1, none⟩ = some (.slice none 0 0) := br.cell 1
          have q_br2 : w16.cell? ⟨w.heap.size, 2, none⟩ = some (.slice none 0 0) := br.cell 2
          have q_bG0 : w16.cell? ⟨G, 0, none⟩ = some (.bool true) := bG.cell 0
          have q_bG1 : w16.cell? ⟨G, 1, none⟩ = some (.slice A1 (pcs 44 b).length k1) := bG.cell 1
          have q_bG2 : w16.cell? ⟨G, 2, none⟩ = some (.slice A2 (pcs 44 c).length k2) := bG.cell 2
          have f_br0 : w16.frozen? ⟨w.heap.size, 0, none⟩ = false := br.frozen 0
          have f_br1 : w16.frozen? ⟨w.heap.size, 1, none⟩ = false := br.frozen 1
          have f_br2 : w16.frozen? ⟨w.heap.size, 2, none⟩ = false := br.frozen 2
          go_wp2_with fail
          exact bodyPost_ret (v := .tuple #[.agg #[.bool true, .slice A1 (pcs 44 b).length k1, .slice A2 (pcs 44 c).length k2], .int .i64 0]) (by simp [results, Tryd.results15, go_sem, q_br0, q_br1, q_br2]) rfl (postP_st HD.out ⟨A1, k1, A2, k2, rfl, by rw [set3_size]; exact set3_str HS1.out (fun ad h => Nat.ne_of_gt (Nat.lt_of_lt_of_le hwl (FR1.out ad h))) _ _ _, by rw [set3_size]; exact set3_str HS2.out (fun ad h => Nat.ne_of_gt (Nat.lt_of_lt_of_le hwl (FR2.out ad h))) _ _ _⟩ (fun _ => HCP.out) (below_set3 (HB16.out) (Nat.le_refl _) _ _ _))
        · have HD := Lib.hid (HPR.out.trans (stP_bad hc (by decide)))
          rw [hc]
          clear hc
          have q_br0 : w16.cell? ⟨w.heap.size, 0, none⟩ = some (.bool false) := br.cell 0
          have q_br1 : w16.cell? ⟨w.heap.size, 1, none⟩ = some (.slice none 0 0) := br.cell 1
          have q_br2 : w16.cell? ⟨w.heap.size, 2, none⟩ = some (.slice none 0 0) := br.cell 2
          have f_br0 : w16.frozen? ⟨w.heap.size, 0, none⟩ = false := br.frozen 0
          have f_br1 : w16.frozen? ⟨w.heap.size, 1, none⟩ = false := br.frozen 1
          have f_br2 : w16.frozen? ⟨w.heap.size, 2, none⟩ = false := br.frozen 2
          go_wp2_with fail
          exact bodyPost_ret (v := .tuple #[.agg #[.bool false, .slice none 0 0, .slice none 0 0], .int .i64 3]) (by simp [results, Tryd.results15, go_sem, q_br0, q_br1, q_br2]) rfl (postP_zero HD.out (below_set3 (HB16.out) (Nat.le_refl _) _ _ _))
        · have HD := Lib.hid (HPR.out.trans (stP_bad hc (by decide)))
          rw [hc]
          clear hc
          have q_br0 : w16.cell? ⟨w.heap.size, 0, none⟩ = some (.bool false) := br.cell 0
          have q_br1 : w16.cell? ⟨w.heap.size, 1, none⟩ = some (.slice none 0 0) := br.cell 1
          have q_br2 : w16.cell? ⟨w.heap.size, 2, none⟩ = some (.slice none 0 0) := br.cell 2
          have f_br0 : w16.frozen? ⟨w.heap.size, 0, none⟩ = false := br.frozen 0
          have f_br1 : w16.frozen? ⟨w.heap.size, 1, none⟩ = false := br.frozen 1
          have f_br2 : w16.frozen? ⟨w.heap.size, 2, none⟩ = false := br.frozen 2
          go_wp2_with fail
          exact bodyPost_ret (v := .tuple #[.agg #[.bool false, .slice none 0 0, .slice none 0 0], .int .i64 4]) (by simp [results, Tryd.results15, go_sem, q_br0, q_br1, q_br2]) rfl (postP_zero HD.out (below_set3 (HB16.out) (Nat.le_refl _) _ _ _))
      · have FIN : Blk (((w14.setCell ⟨w13.heap.size, 0, none⟩ (.bool true)).setCell ⟨w13.heap.size, 1, none⟩ (.slice A1 (pcs 44 b).length k1)).setCell ⟨w13.heap.size, 2, none⟩ (.slice A2 (pcs 44 c).length k2)) (w13.heap.size) 31 #[.bool true, .slice A1 (pcs 44 b).length k1, .slice A2 (pcs 44 c).length k2] ∧ Below w12.heap.size w12 (((w14.setCell ⟨w13.heap.size, 0, none⟩ (.bool true)).setCell ⟨w13.heap.size, 1, none⟩ (.slice A1 (pcs 44 b).length k1)).setCell ⟨w13.heap.size, 2, none⟩ (.slice A2 (pcs 44 c).length k2)) ∧ StrL (((w14.setCell ⟨w13.heap.size, 0, none⟩ (.bool true)).setCell ⟨w13.heap.size, 1, none⟩ (.slice A1 (pcs 44 b).length k1)).setCell ⟨w13.heap.size, 2, none⟩ (.slice A2 (pcs 44 c).length k2)) (((w14.setCell ⟨w13.heap.size, 0, none⟩ (.bool true)).setCell ⟨w13.heap.size, 1, none⟩ (.slice A1 (pcs 44 b).length k1)).setCell ⟨w13.heap.size, 2, none⟩ (.slice A2 (pcs 44 c).length k2)).heap.size A1 (pcs 44 b) ∧ StrL (((w14.setCell ⟨w13.heap.size, 0, none⟩ (.bool true)).setCell ⟨w13.heap.size, 1, none⟩ (.slice A1 (pcs 44 b).length k1)).setCell ⟨w13.heap.size, 2, none⟩ (.slice A2 (pcs 44 c).length k2)) (((w14.setCell ⟨w13.heap.size, 0, none⟩ (.bool true)).setCell ⟨w13.heap.size, 1, none⟩ (.slice A1 (pcs 44 b).length k1)).setCell ⟨w13.heap.size, 2, none⟩ (.slice A2 (pcs 44 c).length k2)).heap.size A2 (pcs 44 c) := ⟨Blk.set3 bo _ _ _, below_set3 H14.2 hGG _ _ _, by rw [set3_size]; exact set3_str (hs1.on ((size_new _ _).trans (hb2.mono (size_new _ _).size))) (fun ad h => Nat.ne_of_lt (hs1.lt (pcs_pos _ _) ad h)) _ _ _, by rw [set3_size]; exact set3_str hs2 (fun ad h => Nat.ne_of_gt (fr2 ad h)) _ _ _⟩
        have HG : w12.heap.size ≤ w13.heap.size := hGG
        have FR1 := Lib.hid (show Fresh w12.heap.size A1 from fun ad h => fr1 ad h)
        have FR2 := Lib.hid (show Fresh w12.heap.size A2 from fun ad h => Nat.le_trans hGG (Nat.le_of_lt (fr2 ad h)))
        generalize ((w14.setCell ⟨w13.heap.size, 0, none⟩ (.bool true)).setCell ⟨w13.heap.size, 1, none⟩ (.slice A1 (pcs 44 b).length k1)).setCell ⟨w13.heap.size, 2, none⟩ (.slice A2 (pcs 44 c).length k2) = w15 at FIN ⊢
        generalize w13.heap.size = G at FIN HG ⊢
        obtain ⟨bG, hB15, hS1, hS2⟩ := FIN
        have HS1 := Lib.hid hS1
        have HS2 := Lib.hid hS2
        have br : Blk w15 w.heap.size 31 #[.bool false, .slice none 0 0, .slice none 0 0] := br.on hB15
        have HB15 := Lib.hid (HB12.out.trans (hB15.mono HB12.out.size))
        have hz15 := HB15.out.size
        have HST := Lib.hid (show StV w15 w15.heap.size (.agg #[.bool true, .slice A1 (pcs 44 b).length k1, .slice A2 (pcs 44 c).length k2]) (St.mk true (pcs 44 b) (pcs 44 c)) from ⟨A1, k1, A2, k2, rfl, hS1, hS2⟩)
        have HSZ := Lib.hid (show SzSt (St.mk true (pcs 44 b) (pcs 44 c)) from ⟨by have := pcs_len 44 b; have := HA.out.1; simp only; omega, by have := pcs_len 44 c; have := HA.out.2; simp only; omega, fun t ht => by have := pcs_size ht; have := HA.out.1; omega, fun t ht => by have := pcs_size ht; have := HA.out.2; omega⟩)
        have HCP := Lib.hid (show CapV (.agg #[.bool true, .slice A1 (pcs 44 b).length k1, .slice A2 (pcs 44 c).length k2]) (St.mk true (pcs 44 b) (pcs 44 c)) from ⟨A1, k1, A2, k2, rfl, hk1, hk2⟩)
        clear hS1 hS2 hB15 hs1 hs2 hb1 hb2 H13 H14 q0 q1 q2 hst hgl0 hgl1 hgl2 q'
        have q_br0 : w15.cell? ⟨w.heap.size, 0, none⟩ = some (.bool false) := br.cell 0
        have q_br1 : w15.cell? ⟨w.heap.size, 1, none⟩ = some (.slice none 0 0) := br.cell 1
        have q_br2 : w15.cell? ⟨w.heap.size, 2, none⟩ = some (.slice none 0 0) := br.cell 2
        have q_bG0 : w15.cell? ⟨G, 0, none⟩ = some (.bool true) := bG.cell 0
        have q_bG1 : w15.cell? ⟨G, 1, none⟩ = some (.slice A1 (pcs 44 b).length k1) := bG.cell 1
        have q_bG2 : w15.cell? ⟨G, 2, none⟩ = some (.slice A2 (pcs 44 c).length k2) := bG.cell 2
        go_wp2_with fail
        refine (Check_any (St.mk true (pcs 44 b) (pcs 44 c)) _ _ HST.out HSZ.out).mono ?_
        rintro e w16 ⟨rfl, hb⟩
        clear q_br0 q_br1 q_br2 q_bG0 q_bG1 q_bG2
        have br : Blk w16 (w.heap.size) 31 #[.bool false, .slice none 0 0, .slice none 0 0] := (br).on hb
        have bG : Blk w16 (G) 31 #[.bool true, .slice A1 (pcs 44 b).length k1, .slice A2 (pcs 44 c).length k2] := (bG).on hb
        have hbz := hb.size
        have HB16 := Lib.hid ((HB15.out).trans (hb.mono (by first | exact Nat.le_refl _ | omega | (simp; done) | (simp; omega))))
        have hz16 : w.heap.size ≤ w16.heap.size := HB16.out.size
        have HS1 := Lib.hid (HS1.out.on hb)
        have HS2 := Lib.hid (HS2.out.on hb)
        clear hb hbz
        have HPR := Lib.hid (show parS s = stP (St.mk true (pcs 44 b) (pcs 44 c)) by rw [par_c HP1.out (by rw [HX1.out]; rfl), HX1.out])
        rcases ck_cases (St.mk true (pcs 44 b) (pcs 44 c)) with hc | hc | hc
        · have HD := Lib.hid (HPR.out.trans (stP_good hc))
          rw [hc]
          clear hc
          have q_br0 : w16.cell? ⟨w.heap.size, 0, none⟩ = some (.bool false) := br.cell 0
          have q_br1 : w16.cell? ⟨w.heap.size, 1, none⟩ = some (.slice none 0 0) := br.cell 1
          have q_br2 : w16.cell? ⟨w.heap.size, 2, none⟩ = some (.slice none 0 0) := br.cell 2
          have q_bG0 : w16.cell? ⟨G, 0, none⟩ = some (.bool true) := bG.cell 0
          have q_bG1 : w16.cell? ⟨G, 1, none⟩ = some (.slice A1 (pcs 44 b).length k1) := bG.cell 1
          have q_bG2 : w16.cell? ⟨G, 2, none⟩ = some (.slice A2 (pcs 44 c).length k2) := bG.cell 2
          have f_br0 : w16.frozen? ⟨w.heap.size, 0, none⟩ = false := br.frozen 0
          have f_br1 : w16.frozen? ⟨w.heap.size, 1, none⟩ = false := br.frozen 1
          have f_br2 : w16.frozen? ⟨w.heap.size, 2, none⟩ = false := br.frozen 2
          go_wp2_with fail
          exact bodyPost_ret (v := .tuple #[.agg #[.bool true, .slice A1 (pcs 44 b).length k1, .slice A2 (pcs 44 c).length k2], .int .i64 0]) (by simp [results, Tryd.results15, go_sem, q_br0, q_br1, q_br2]) rfl (postP_st HD.out ⟨A1, k1, A2, k2, rfl, by rw [set3_size]; exact set3_str HS1.out (fun ad h => Nat.ne_of_gt (Nat.lt_of_lt_of_le hwl (FR1.out ad h))) _ _ _, by rw [set3_size]; exact set3_str HS2.out (fun ad h => Nat.ne_of_gt (Nat.lt_of_lt_of_le hwl (FR2.out ad h))) _ _ _⟩ (fun _ => HCP.out) (below_set3 (HB16.out) (Nat.le_refl _) _ _ _))
        · have HD := Lib.hid (HPR.out.trans (stP_bad hc (by decide)))
          rw [hc]
          clear hc
          have q_br0 : w16.cell? ⟨w.heap.size, 0, none⟩ = some (.bool false) := br.cell 0
          have q_br1 : w16.cell? ⟨w.heap.size, 1, none⟩ = some (.slice none 0 0) := br.cell 1
          have q_br2 : w16.cell? ⟨w.heap.size, 2, none⟩ = some (.slice none 0 0) := br.cell 2
          have f_br0 : w16.frozen? ⟨w.heap.size, 0, none⟩ = false := br.frozen 0
          have f_br1 : w16.frozen? ⟨w.heap.size, 1, none⟩ = false := br.frozen 1
          have f_br2 : w16.frozen? ⟨w.heap.size, 2, none⟩ = false := br.frozen 2
          go_wp2_with fail
          exact bodyPost_ret (v := .tuple #[.agg #[.bool false, .slice none 0 0, .slice none 0 0], .int .i64 3]) (by simp [results, Tryd.results15, go_sem, q_br0, q_br1, q_br2]) rfl (postP_zero HD.out (below_set3 (HB16.out) (Nat.le_refl _) _ _ _))
        · have HD := Lib.hid (HPR.out.trans (stP_bad hc (by decide)))
          rw [hc]
          clear hc
          have q_br0 : w16.cell? ⟨w.heap.size, 0, none⟩ = some (.bool false) := br.cell 0
          have q_br1 : w16.cell? ⟨w.heap.size, 1, none⟩ = some (.slice none 0 0) := br.cell 1
          have q_br2 : w16.cell? ⟨w.heap.size, 2, none⟩ = some (.slice none 0 0) := br.cell 2
          have f_br0 : w16.frozen? ⟨w.heap.size, 0, none⟩ = false := br.frozen 0
          have f_br1 : w16.frozen? ⟨w.heap.size, 1, none⟩ = false := br.frozen 1
          have f_br2 : w16.frozen? ⟨w.heap.size, 2, none⟩ = false := br.frozen 2
          go_wp2_with fail
          exact bodyPost_ret (v := .tuple #[.agg #[.bool false, .slice none 0 0, .slice none 0 0], .int .i64 4]) (by simp [results, Tryd.results15, go_sem, q_br0, q_br1, q_br2]) rfl (postP_zero HD.out (below_set3 (HB16.out) (Nat.le_refl _) _ _ _))
      · have hz13 : w12.heap.size < w13.heap.size := by have := hb1.size; simp at this; omega
        have FIN : Blk (((w14.setCell ⟨w12.heap.size, 0, none⟩ (.bool true)).setCell ⟨w12.heap.size, 1, none⟩ (.slice A1 (pcs 44 b).length k1)).setCell ⟨w12.heap.size, 2, none⟩ (.slice A2 (pcs 44 c).length k2)) (w12.heap.size) 31 #[.bool true, .slice A1 (pcs 44 b).length k1, .slice A2 (pcs 44 c).length k2] ∧ Below w12.heap.size w12 (((w14.setCell ⟨w12.heap.size, 0, none⟩ (.bool true)).setCell ⟨w12.heap.size, 1, none⟩ (.slice A1 (pcs 44 b).length k1)).setCell ⟨w12.heap.size, 2, none⟩ (.slice A2 (pcs 44 c).length k2)) ∧ StrL (((w14.setCell ⟨w12.heap.size, 0, none⟩ (.bool true)).setCell ⟨w12.heap.size, 1, none⟩ (.slice A1 (pcs 44 b).length k1)).setCell ⟨w12.heap.size, 2, none⟩ (.slice A2 (pcs 44 c).length k2)) (((w14.setCell ⟨w12.heap.size, 0, none⟩ (.bool true)).setCell ⟨w12.heap.size, 1, none⟩ (.slice A1 (pcs 44 b).length k1)).setCell ⟨w12.heap.size, 2, none⟩ (.slice A2 (pcs 44 c).length k2)).heap.size A1 (pcs 44 b) ∧ StrL (((w14.setCell ⟨w12.heap.size, 0, none⟩ (.bool true)).setCell ⟨w12.heap.size, 1, none⟩ (.slice A1 (pcs 44 b).length k1)).setCell ⟨w12.heap.size, 2, none⟩ (.slice A2 (pcs 44 c).length k2)) (((w14.setCell ⟨w12.heap.size, 0, none⟩ (.bool true)).setCell ⟨w12.heap.size, 1, none⟩ (.slice A1 (pcs 44 b).length k1)).setCell ⟨w12.heap.size, 2, none⟩ (.slice A2 (pcs 44 c).length k2)).heap.size A2 (pcs 44 c) := ⟨Blk.set3 bo _ _ _, below_set3 H14.2 hGG _ _ _, by rw [set3_size]; exact set3_str (hs1.on hb2) (fun ad h => Nat.ne_of_gt (fr1 ad h)) _ _ _, by rw [set3_size]; exact set3_str hs2 (fun ad h => Nat.ne_of_gt (Nat.lt_of_lt_of_le hz13 (fr2 ad h))) _ _ _⟩
        have HG : w12.heap.size ≤ w12.heap.size := Nat.le_refl _
        have FR1 := Lib.hid (show Fresh w12.heap.size A1 from fun ad h => Nat.le_of_lt (fr1 ad h))
        have FR2 := Lib.hid (show Fresh w12.heap.size A2 from fun ad h => Nat.le_trans (Nat.le_of_lt hz13) (fr2 ad h))
        generalize ((w14.setCell ⟨w12.heap.size, 0, none⟩ (.bool true)).setCell ⟨w12.heap.size, 1, none⟩ (.slice A1 (pcs 44 b).length k1)).setCell ⟨w12.heap.size, 2, none⟩ (.slice A2 (pcs 44 c).length k2) = w15 at FIN ⊢
        obtain ⟨G, hG⟩ : ∃ G, w12.heap.size = G := ⟨_, rfl⟩
        rw [hG] at FIN
        have FIN : Blk w15 G 31 #[.bool true, .slice A1 (pcs 44 b).length k1, .slice A2 (pcs 44 c).length k2] ∧ Below w12.heap.size w12 w15 ∧ StrL w15 w15.heap.size A1 (pcs 44 b) ∧ StrL w15 w15.heap.size A2 (pcs 44 c) := by rw [hG]; exact FIN
        try rw [hG]
        clear hG
        obtain ⟨bG, hB15, hS1, hS2⟩ := FIN
        have HS1 := Lib.hid hS1
        have HS2 := Lib.hid hS2
        have br : Blk w15 w.heap.size 31 #[.bool false, .slice none 0 0, .slice none 0 0] := br.on hB15
        have HB15 := Lib.hid (HB12.out.trans (hB15.mono HB12.out.size))
        have hz15 := HB15.out.size
        have HST := Lib.hid (show StV w15 w15.heap.size (.agg #[.bool true, .slice A1 (pcs 44 b).length k1, .slice A2 (pcs 44 c).length k2]) (St.mk true (pcs 44 b) (pcs 44 c)) from ⟨A1, k1, A2, k2, rfl, hS1, hS2⟩)
        have HSZ := Lib.hid (show SzSt (St.mk true (pcs 44 b) (pcs 44 c)) from ⟨by have := pcs_len 44 b; have := HA.out.1; simp only; omega, by have := pcs_len 44 c; have := HA.out.2; simp only; omega, fun t ht => by have := pcs_size ht; have := HA.out.1; omega, fun t ht => by have := pcs_size ht; have := HA.out.2; omega⟩)
        have HCP := Lib.hid (show CapV (.agg #[.bool true, .slice A1 (pcs 44 b).length k1, .slice A2 (pcs 44 c).length k2]) (St.mk true (pcs 44 b) (pcs 44 c)) from ⟨A1, k1, A2, k2, rfl, hk1, hk2⟩)
        clear hS1 hS2 hB15 hs1 hs2 hb1 hb2 H13 H14 q0 q1 q2 hst hgl0 hgl1 hgl2 q'
        have q_br0 : w15.cell? ⟨w.heap.size, 0, none⟩ = some (.bool false) := br.cell 0
        have q_br1 : w15.cell? ⟨w.heap.size, 1, none⟩ = some (.slice none 0 0) := br.cell 1
        have q_br2 : w15.cell? ⟨w.heap.size, 2, none⟩ = some (.slice none 0 0) := br.cell 2
        have q_bG0 : w15.cell? ⟨G, 0, none⟩ = some (.bool true) := bG.cell 0
        have q_bG1 : w15.cell? ⟨G, 1, none⟩ = some (.slice A1 (pcs 44 b).length k1) := bG.cell 1
        have q_bG2 : w15.cell? ⟨G, 2, none⟩ = some (.slice A2 (pcs 44 c).length k2) := bG.cell 2
        go_wp2_with fail
        refine (Check_any (St.mk true (pcs 44 b) (pcs 44 c)) _ _ HST.out HSZ.out).mono ?_
        rintro e w16 ⟨rfl, hb⟩
        clear q_br0 q_br1 q_br2 q_bG0 q_bG1 q_bG2
        have br : Blk w16 (w.heap.size) 31 #[.bool false, .slice none 0 0, .slice none 0 0] := (br).on hb
        have bG : Blk w16 (G) 31 #[.bool true, .slice A1 (pcs 44 b).length k1, .slice A2 (pcs 44 c).length k2] := (bG).on hb
        have hbz := hb.size
        have HB16 := Lib.hid ((HB15.out).trans (hb.mono (by first | exact Nat.le_refl _ | omega | (simp; done) | (simp; omega))))
        have hz16 : w.heap.size ≤ w16.heap.size := HB16.out.size
        have HS1 := Lib.hid (HS1.out.on hb)
        have HS2 := Lib.hid (HS2.out.on hb)
        clear hb hbz
        have HPR := Lib.hid (show parS s = stP (St.mk true (pcs 44 b) (pcs 44 c)) by rw [par_c HP1.out (by rw [HX1.out]; rfl), HX1.out])
        rcases ck_cases (St.mk true (pcs 44 b) (pcs 44 c)) with hc | hc | hc
        · have HD := Lib.hid (HPR.out.trans (stP_good hc))
          rw [hc]
          clear hc
          have q_br0 : w16.cell? ⟨w.heap.size, 0, none⟩ = some (.bool false) := br.cell 0
          have q_br1 : w16.cell? ⟨w.heap.size, 1, none⟩ = some (.slice none 0 0) := br.cell 1
          have q_br2 : w16.cell? ⟨w.heap.size, 2, none⟩ = some (.slice none 0 0) := br.cell 2
          have q_bG0 : w16.cell? ⟨G, 0, none⟩ = some (.bool true) := bG.cell 0
          have q_bG1 : w16.cell? ⟨G, 1, none⟩ = some (.slice A1 (pcs 44 b).length k1) := bG.cell 1
          have q_bG2 : w16.cell? ⟨G, 2, none⟩ = some (.slice A2 (pcs 44 c).length k2) := bG.cell 2
          have f_br0 : w16.frozen? ⟨w.heap.size, 0, none⟩ = false := br.frozen 0
          have f_br1 : w16.frozen? ⟨w.heap.size, 1, none⟩ = false := br.frozen 1
          have f_br2 : w16.frozen? ⟨w.heap.size, 2, none⟩ = false := br.frozen 2
          go_wp2_with fail
          exact bodyPost_ret (v := .tuple #[.agg #[.bool true, .slice A1 (pcs 44 b).length k1, .slice A2 (pcs 44 c).length k2], .int .i64 0]) (by simp [results, Tryd.results15, go_sem, q_br0, q_br1, q_br2]) rfl (postP_st HD.out ⟨A1, k1, A2, k2, rfl, by rw [set3_size]; exact set3_str HS1.out (fun ad h => Nat.ne_of_gt (Nat.lt_of_lt_of_le hwl (FR1.out ad h))) _ _ _, by rw [set3_size]; exact set3_str HS2.out (fun ad h => Nat.ne_of_gt (Nat.lt_of_lt_of_le hwl (FR2.out ad h))) _ _ _⟩ (fun _ => HCP.out) (below_set3 (HB16.out) (Nat.le_refl _) _ _ _))
        · have HD := Lib.hid (HPR.out.trans (stP_bad hc (by decide)))
          rw [hc]
          clear hc
          have q_br0 : w16.cell? ⟨w.heap.size, 0, none⟩ = some (.bool false) := br.cell 0
          have q_br1 : w16.cell? ⟨w.heap.size, 1, none⟩ = some (.slice none 0 0) := br.cell 1
          have q_br2 : w16.cell? ⟨w.heap.size, 2, none⟩ = some (.slice none 0 0) := br.cell 2
          have f_br0 : w16.frozen? ⟨w.heap.size, 0, none⟩ = false := br.frozen 0
          have f_br1 : w16.frozen? ⟨w.heap.size, 1, none⟩ = false := br.frozen 1
          have f_br2 : w16.frozen? ⟨w.heap.size, 2, none⟩ = false := br.frozen 2
          go_wp2_with fail
          exact bodyPost_ret (v := .tuple #[.agg #[.bool false, .slice none 0 0, .slice none 0 0], .int .i64 3]) (by simp [results, Tryd.results15, go_sem, q_br0, q_br1, q_br2]) rfl (postP_zero HD.out (below_set3 (HB16.out) (Nat.le_refl _) _ _ _))
        · have HD := Lib.hid (HPR.out.trans (stP_bad hc (by decide)))
          rw [hc]
          clear hc
          have q_br0 : w16.cell? ⟨w.heap.size, 0, none⟩ = some (.bool false) := br.cell 0
          have q_br1 : w16.cell? ⟨w.heap.size, 1, none⟩ = some (.slice none 0 0) := br.cell 1
          have q_br2 : w16.cell? ⟨w.heap.size, 2, none⟩ = some (.slice none 0 0) := br.cell 2
          have f_br0 : w16.frozen? ⟨w.heap.size, 0, none⟩ = false := br.frozen 0
          have f_br1 : w16.frozen? ⟨w.heap.size, 1, none⟩ = false := br.frozen 1
          have f_br2 : w16.frozen? ⟨w.heap.size, 2, none⟩ = false := br.frozen 2
          go_wp2_with fail
          exact bodyPost_ret (v := .tuple #[.agg #[.bool false, .slice none 0 0, .slice none 0 0], .int .i64 4]) (by simp [results, Tryd.results15, go_sem, q_br0, q_br1, q_br2]) rfl (postP_zero HD.out (below_set3 (HB16.out) (Nat.le_refl _) _ _ _))
  · have HD := Lib.hid (par_a HP1.out h3)
    have h3' : (L1.length : Int) ≠ 3 := by omega
    have q_br0 : w12.cell? ⟨w.heap.size, 0, none⟩ = some (.bool false) := br.cell 0
    have q_br1 : w12.cell? ⟨w.heap.size, 1, none⟩ = some (.slice none 0 0) := br.cell 1
    have q_br2 : w12.cell? ⟨w.heap.size, 2, none⟩ = some (.slice none 0 0) := br.cell 2
    have f_br0 : w12.frozen? ⟨w.heap.size, 0, none⟩ = false := br.frozen 0
    have f_br1 : w12.frozen? ⟨w.heap.size, 1, none⟩ = false := br.frozen 1
    have f_br2 : w12.frozen? ⟨w.heap.size, 2, none⟩ = false := br.frozen 2
    go_wp2_with fail
    exact bodyPost_ret (v := .tuple #[.agg #[.bool false, .slice none 0 0, .slice none 0 0], .int .i64 1]) (by simp [results, Tryd.results15, go_sem, q_br0, q_br1, q_br2]) rfl (postP_zero HD.out (below_set3 (HB12.out) (Nat.le_refl _) _ _ _))
set_option maxHeartbeats 4000000 in
set_option maxRecDepth 100000 in
theorem rParse_any (s : ByteArray) (w : World) (hs : s.size ≤ 100000) :
    Calls Tryd.prog 16 #[.string s] w (PostP false (parS s) w) := by
  have Hs := Lib.hid hs
  have HS := Lib.hid (show ∀ t ∈ pcs 32 s, t.size ≤ 100000 from fun t ht => by have := pcs_size ht; omega)
  clear hs
  go_enter Tryd.func16, Tryd.ntmps16
  go_wp2_with fail
  have br : Blk ((w).alloc (.cells #[.bool false, .slice none 0 0, .slice none 0 0] 31)) (w.heap.size) 31 #[.bool false, .slice none 0 0, .slice none 0 0] := Blk.new _ _ _
  have HB11 := Lib.hid (show Below w.heap.size w ((w).alloc (.cells #[.bool false, .slice none 0 0, .slice none 0 0] 31)) from (Below.refl w.heap.size w).alloc (by first | exact Nat.le_refl _ | omega | (simp; done) | (simp; omega)) _)
  generalize (w).alloc (.cells #[.bool false, .slice none 0 0, .slice none 0 0] 31) = w11 at *
  have hz11 : w.heap.size ≤ w11.heap.size := HB11.out.size
  go_wp2_with fail
  refine (rs32 s _ (Nat.le_trans Hs.out (by decide))).mono ?_
  rintro e w12 ⟨⟨g1, cp1, rfl, hst, -⟩, hb⟩
  have br : Blk w12 (w.heap.size) 31 #[.bool false, .slice none 0 0, .slice none 0 0] := (br).on hb
  have hbz := hb.size
  have HB12 := Lib.hid ((HB11.out).trans (hb.mono (by first | exact Nat.le_refl _ | omega | (simp; done) | (simp; omega))))
  have hz12 : w.heap.size ≤ w12.heap.size := HB12.out.size
  clear hb hbz
  generalize hp1 : pcs 32 s = L1 at *
  have HP1 := Lib.hid hp1
  clear hp1
  by_cases h3 : L1.length = 3
  · obtain ⟨a, b, c, rfl⟩ := three_of h3
    have HA := Lib.hid (show b.size ≤ 100000 ∧ c.size ≤ 100000 from ⟨HS.out b (by simp), HS.out c (by simp)⟩)
    clear h3 HS
    obtain ⟨g, o, rfl, hgl, q0⟩ := hst.cell (k := 0) (x := a) rfl
    obtain ⟨_, _, e1, -, q1⟩ := hst.cell (k := 1) (x := b) rfl
    injection e1 with e1
    injection e1 with e1 e2
    subst e1 e2
    obtain ⟨_, _, e1, -, q2⟩ := hst.cell (k := 2) (x := c) rfl
    injection e1 with e1
    injection e1 with e1 e2
    subst e1 e2
    have q0 : w12.cell? ⟨g, o, none⟩ = some (.string a) := q0
    obtain ⟨x1, hx1⟩ : ∃ x, (a.toList == [97, 108, 108, 111, 119]) = x := ⟨_, rfl⟩
    obtain ⟨x2, hx2⟩ : ∃ x, (a.toList == [100, 101, 110, 121]) = x := ⟨_, rfl⟩
    have HX1 := Lib.hid hx1
    have HX2 := Lib.hid hx2
    cases x1
    · cases x2
      · have HD := Lib.hid (par_b HP1.out HX1.out HX2.out)
        have q_br0 : w12.cell? ⟨w.heap.size, 0, none⟩ = some (.bool false) := br.cell 0
        have q_br1 : w12.cell? ⟨w.heap.size, 1, none⟩ = some (.slice none 0 0) := br.cell 1
        have q_br2 : w12.cell? ⟨w.heap.size, 2, none⟩ = some (.slice none 0 0) := br.cell 2
        have f_br0 : w12.frozen? ⟨w.heap.size, 0, none⟩ = false := br.frozen 0
        have f_br1 : w12.frozen? ⟨w.heap.size, 1, none⟩ = false := br.frozen 1
        have f_br2 : w12.frozen? ⟨w.heap.size, 2, none⟩ = false := br.frozen 2
        go_wp2_with fail
        exact bodyPost_ret (v := .tuple #[.agg #[.bool false, .slice none 0 0, .slice none 0 0], .int .i64 1]) (by simp [results, Tryd.results16, go_sem, q_br0, q_br1, q_br2]) rfl (postP_zero HD.out (below_set3 (HB12.out) (Nat.le_refl _) _ _ _))
      · skip
        go_wp2_with fail
        have hgl0 : (⟨g, o, none⟩ : Addr).block < w12.heap.size := hgl
        have hgl1 : (⟨g, o + 1, none⟩ : Addr).block < w12.heap.size := hgl
        have hgl2 : (⟨g, o + 2, none⟩ : Addr).block < w12.heap.size := hgl
        have hwl : w.heap.size < w12.heap.size := br.lt
        go_region_held3 (fun w' => (w'.cell? ⟨g, o, none⟩ = some (.string a) ∧ w'.cell? ⟨g, o + 1, none⟩ = some (.string b) ∧ w'.cell? ⟨g, o + 2, none⟩ = some (.string c)) ∧ Below w12.heap.size w12 w') (first | assumption | exact ⟨⟨q0, q1, q2⟩, (Below.refl _ _).drew⟩ | exact held_step ⟨⟨q0, q1, q2⟩, Below.refl _ _⟩ ((size_new _ _).drew) | exact held_step (by assumption) (size_new _ _) | exact held_set (by assumption) (by assumption) hgl0 hgl1 hgl2) (first | (go_at_call 35; first | ((with_reducible refine (rsb44d b w12 #[.bool false, .slice none 0 0, .slice none 0 0] (Nat.le_trans HA.out.1 (by decide))).mono ?_); rintro e w13 ⟨⟨A1, k1, rfl, hs1, fr1⟩, hb1, bo⟩; have H13 := held_step (by assumption) hb1; have bo : Blk w13 w12.heap.size 31 #[.bool false, .slice none 0 0, .slice none 0 0] := bo; have hGG : w12.heap.size ≤ w12.heap.size := Nat.le_refl _; have bz := bo.lt; have f0 := bo.frozen 0; have f1 := bo.frozen 1; have f2 := bo.frozen 2; have c0 : w13.cell? ⟨w12.heap.size, 0, none⟩ = some (.bool false) := bo.cell 0; have c1 : w13.cell? ⟨w12.heap.size, 1, none⟩ = some (.slice none 0 0) := bo.cell 1; have c2 : w13.cell? ⟨w12.heap.size, 2, none⟩ = some (.slice none 0 0) := bo.cell 2) | ((with_reducible refine (rs44 b _ (Nat.le_trans HA.out.1 (by decide))).mono ?_); rintro e w13 ⟨⟨A1, k1, rfl, hs1, fr1⟩, hb1⟩; have H13 := held_step (by assumption) hb1)) | (go_at_call 35; first | ((with_reducible refine (rsb44 c w13 #[.bool false, .slice none 0 0, .slice none 0 0] (Nat.le_trans HA.out.2 (by decide))).mono ?_); rintro e w14 ⟨⟨A2, k2, rfl, hs2, fr2⟩, hb2, bo⟩; have H14 := held_step (by assumption) hb2; have bo : Blk w14 w13.heap.size 31 #[.bool false, .slice none 0 0, .slice none 0 0] := bo; have hGG : w12.heap.size ≤ w13.heap.size := H13.2.size; have bz := bo.lt; have f0 := bo.frozen 0; have f1 := bo.frozen 1; have f2 := bo.frozen 2; have c0 : w14.cell? ⟨w13.heap.size, 0, none⟩ = some (.bool false) := bo.cell 0; have c1 : w14.cell? ⟨w13.heap.size, 1, none⟩ = some (.slice none 0 0) := bo.cell 1; have c2 : w14.cell? ⟨w13.heap.size, 2, none⟩ = some (.slice none 0 0) := bo.cell 2) | (have bo2 := bo; (with_reducible refine (rs44 c _ (Nat.le_trans HA.out.2 (by decide))).mono ?_); rintro e w14 ⟨⟨A2, k2, rfl, hs2, fr2⟩, hb2⟩; have H14 := held_step (by assumption) hb2; have bo : Blk w14 w12.heap.size 31 #[.bool false, .slice none 0 0, .slice none 0 0] := bo2.on hb2; clear bo2; have bz := bo.lt; have f0 := bo.frozen 0; have f1 := bo.frozen 1; have f2 := bo.frozen 2; have c0 : w14.cell? ⟨w12.heap.size, 0, none⟩ = some (.bool false) := bo.cell 0; have c1 : w14.cell? ⟨w12.heap.size, 1, none⟩ = some (.slice none 0 0) := bo.cell 1; have c2 : w14.cell? ⟨w12.heap.size, 2, none⟩ = some (.slice none 0 0) := bo.cell 2) | ((with_reducible refine (rs44 c _ (Nat.le_trans HA.out.2 (by decide))).mono ?_); rintro e w14 ⟨⟨A2, k2, rfl, hs2, fr2⟩, hb2⟩; have H14 := held_step (by assumption) hb2)))
        · have FIN : Blk (w14.alloc (.cells #[.bool false, .slice A1 (pcs 44 b).length k1, .slice A2 (pcs 44 c).length k2] 31)) (w14.heap.size) 31 #[.bool false, .slice A1 (pcs 44 b).length k1, .slice A2 (pcs 44 c).length k2] ∧ Below w12.heap.size w12 (w14.alloc (.cells #[.bool false, .slice A1 (pcs 44 b).length k1, .slice A2 (pcs 44 c).length k2] 31)) ∧ StrL (w14.alloc (.cells #[.bool false, .slice A1 (pcs 44 b).length k1, .slice A2 (pcs 44 c).length k2] 31)) (w14.alloc (.cells #[.bool false, .slice A1 (pcs 44 b).length k1, .slice A2 (pcs 44 c).length k2] 31)).heap.size A1 (pcs 44 b) ∧ StrL (w14.alloc (.cells #[.bool false, .slice A1 (pcs 44 b).length k1, .slice A2 (pcs 44 c).length k2] 31)) (w14.alloc (.cells #[.bool false, .slice A1 (pcs 44 b).length k1, .slice A2 (pcs 44 c).length k2] 31)).heap.size A2 (pcs 44 c) := ⟨Blk.new w14 _ _, H14.2.alloc H14.2.size _, (hs1.on hb2).on (size_new _ _), hs2.on (size_new _ _)⟩
          have HG : w12.heap.size ≤ w14.heap.size := H14.2.size
          have FR1 := Lib.hid (show Fresh w12.heap.size A1 from fun ad h => fr1 ad h)
          have FR2 := Lib.hid (show Fresh w12.heap.size A2 from fun ad h => Nat.le_trans H13.2.size (fr2 ad h))
          generalize w14.alloc (.cells #[.bool false, .slice A1 (pcs 44 b).length k1, .slice A2 (pcs 44 c).length k2] 31) = w15 at FIN ⊢
          generalize w14.heap.size = G at FIN HG ⊢
          obtain ⟨bG, hB15, hS1, hS2⟩ := FIN
          have HS1 := Lib.hid hS1
          have HS2 := Lib.hid hS2
          have br : Blk w15 w.heap.size 31 #[.bool false, .slice none 0 0, .slice none 0 0] := br.on hB15
          have HB15 := Lib.hid (HB12.out.trans (hB15.mono HB12.out.size))
          have hz15 := HB15.out.size
          have HST := Lib.hid (show StV w15 w15.heap.size (.agg #[.bool false, .slice A1 (pcs 44 b).length k1, .slice A2 (pcs 44 c).length k2]) (St.mk false (pcs 44 b) (pcs 44 c)) from ⟨A1, k1, A2, k2, rfl, hS1, hS2⟩)
          have HSZ := Lib.hid (show SzSt (St.mk false (pcs 44 b) (pcs 44 c)) from ⟨by have := pcs_len 44 b; have := HA.out.1; simp only; omega, by have := pcs_len 44 c; have := HA.out.2; simp only; omega, fun t ht => by have := pcs_size ht; have := HA.out.1; omega, fun t ht => by have := pcs_size ht; have := HA.out.2; omega⟩)
          clear hS1 hS2 hB15 hs1 hs2 hb1 hb2 H13 H14 q0 q1 q2 hst hgl0 hgl1 hgl2
          have q_br0 : w15.cell? ⟨w.heap.size, 0, none⟩ = some (.bool false) := br.cell 0
          have q_br1 : w15.cell? ⟨w.heap.size, 1, none⟩ = some (.slice none 0 0) := br.cell 1
          have q_br2 : w15.cell? ⟨w.heap.size, 2, none⟩ = some (.slice none 0 0) := br.cell 2
          have q_bG0 : w15.cell? ⟨G, 0, none⟩ = some (.bool false) := bG.cell 0
          have q_bG1 : w15.cell? ⟨G, 1, none⟩ = some (.slice A1 (pcs 44 b).length k1) := bG.cell 1
          have q_bG2 : w15.cell? ⟨G, 2, none⟩ = some (.slice A2 (pcs 44 c).length k2) := bG.cell 2
          go_wp2_with fail
          refine (rCheck_any (St.mk false (pcs 44 b) (pcs 44 c)) _ _ HST.out HSZ.out).mono ?_
          rintro e w16 ⟨rfl, hb⟩
          clear q_br0 q_br1 q_br2 q_bG0 q_bG1 q_bG2
          have br : Blk w16 (w.heap.size) 31 #[.bool false, .slice none 0 0, .slice none 0 0] := (br).on hb
          have bG : Blk w16 (G) 31 #[.bool false, .slice A1 (pcs 44 b).length k1, .slice A2 (pcs 44 c).length k2] := (bG).on hb
          have hbz := hb.size
          have HB16 := Lib.hid ((HB15.out).trans (hb.mono (by first | exact Nat.le_refl _ | omega | (simp; done) | (simp; omega))))
          have hz16 : w.heap.size ≤ w16.heap.size := HB16.out.size
          have HS1 := Lib.hid (HS1.out.on hb)
          have HS2 := Lib.hid (HS2.out.on hb)
          clear hb hbz
          have HPR := Lib.hid (show parS s = stP (St.mk false (pcs 44 b) (pcs 44 c)) by rw [par_c HP1.out (by rw [HX1.out, HX2.out]; rfl), HX1.out])
          rcases ck_cases (St.mk false (pcs 44 b) (pcs 44 c)) with hc | hc | hc
          · have HD := Lib.hid (HPR.out.trans (stP_good hc))
            rw [hc]
            clear hc
            have q_br0 : w16.cell? ⟨w.heap.size, 0, none⟩ = some (.bool false) := br.cell 0
            have q_br1 : w16.cell? ⟨w.heap.size, 1, none⟩ = some (.slice none 0 0) := br.cell 1
            have q_br2 : w16.cell? ⟨w.heap.size, 2, none⟩ = some (.slice none 0 0) := br.cell 2
            have q_bG0 : w16.cell? ⟨G, 0, none⟩ = some (.bool false) := bG.cell 0
            have q_bG1 : w16.cell? ⟨G, 1, none⟩ = some (.slice A1 (pcs 44 b).length k1) := bG.cell 1
            have q_bG2 : w16.cell? ⟨G, 2, none⟩ = some (.slice A2 (pcs 44 c).length k2) := bG.cell 2
            have f_br0 : w16.frozen? ⟨w.heap.size, 0, none⟩ = false := br.frozen 0
            have f_br1 : w16.frozen? ⟨w.heap.size, 1, none⟩ = false := br.frozen 1
            have f_br2 : w16.frozen? ⟨w.heap.size, 2, none⟩ = false := br.frozen 2
            go_wp2_with fail
            exact bodyPost_ret (v := .tuple #[.agg #[.bool false, .slice A1 (pcs 44 b).length k1, .slice A2 (pcs 44 c).length k2], .int .i64 0]) (by simp [results, Tryd.results16, go_sem, q_br0, q_br1, q_br2]) rfl (postP_st HD.out ⟨A1, k1, A2, k2, rfl, by rw [set3_size]; exact set3_str HS1.out (fun ad h => Nat.ne_of_gt (Nat.lt_of_lt_of_le hwl (FR1.out ad h))) _ _ _, by rw [set3_size]; exact set3_str HS2.out (fun ad h => Nat.ne_of_gt (Nat.lt_of_lt_of_le hwl (FR2.out ad h))) _ _ _⟩ (fun h => by cases h) (below_set3 (HB16.out) (Nat.le_refl _) _ _ _))
          · have HD := Lib.hid (HPR.out.trans (stP_bad hc (by decide)))
            rw [hc]
            clear hc
            have q_br0 : w16.cell? ⟨w.heap.size, 0, none⟩ = some (.bool false) := br.cell 0
            have q_br1 : w16.cell? ⟨w.heap.size, 1, none⟩ = some (.slice none 0 0) := br.cell 1
            have q_br2 : w16.cell? ⟨w.heap.size, 2, none⟩ = some (.slice none 0 0) := br.cell 2
            have f_br0 : w16.frozen? ⟨w.heap.size, 0, none⟩ = false := br.frozen 0
            have f_br1 : w16.frozen? ⟨w.heap.size, 1, none⟩ = false := br.frozen 1
            have f_br2 : w16.frozen? ⟨w.heap.size, 2, none⟩ = false := br.frozen 2
            go_wp2_with fail
            exact bodyPost_ret (v := .tuple #[.agg #[.bool false, .slice none 0 0, .slice none 0 0], .int .i64 3]) (by simp [results, Tryd.results16, go_sem, q_br0, q_br1, q_br2]) rfl (postP_zero HD.out (below_set3 (HB16.out) (Nat.le_refl _) _ _ _))
          · have HD := Lib.hid (HPR.out.trans (stP_bad hc (by decide)))
            rw [hc]
            clear hc
            have q_br0 : w16.cell? ⟨w.heap.size, 0, none⟩ = some (.bool false) := br.cell 0
            have q_br1 : w16.cell? ⟨w.heap.size, 1, none⟩ = some (.slice none 0 0) := br.cell 1
            have q_br2 : w16.cell? ⟨w.heap.size, 2, none⟩ = some (.slice none 0 0) := br.cell 2
            have f_br0 : w16.frozen? ⟨w.heap.size, 0, none⟩ = false := br.frozen 0
            have f_br1 : w16.frozen? ⟨w.heap.size, 1, none⟩ = false := br.frozen 1
            have f_br2 : w16.frozen? ⟨w.heap.size, 2, none⟩ = false := br.frozen 2
            go_wp2_with fail
            exact bodyPost_ret (v := .tuple #[.agg #[.bool false, .slice none 0 0, .slice none 0 0], .int .i64 4]) (by simp [results, Tryd.results16, go_sem, q_br0, q_br1, q_br2]) rfl (postP_zero HD.out (below_set3 (HB16.out) (Nat.le_refl _) _ _ _))
        · have FIN : Blk (((w14.setCell ⟨w13.heap.size, 0, none⟩ (.bool false)).setCell ⟨w13.heap.size, 1, none⟩ (.slice A1 (pcs 44 b).length k1)).setCell ⟨w13.heap.size, 2, none⟩ (.slice A2 (pcs 44 c).length k2)) (w13.heap.size) 31 #[.bool false, .slice A1 (pcs 44 b).length k1, .slice A2 (pcs 44 c).length k2] ∧ Below w12.heap.size w12 (((w14.setCell ⟨w13.heap.size, 0, none⟩ (.bool false)).setCell ⟨w13.heap.size, 1, none⟩ (.slice A1 (pcs 44 b).length k1)).setCell ⟨w13.heap.size, 2, none⟩ (.slice A2 (pcs 44 c).length k2)) ∧ StrL (((w14.setCell ⟨w13.heap.size, 0, none⟩ (.bool false)).setCell ⟨w13.heap.size, 1, none⟩ (.slice A1 (pcs 44 b).length k1)).setCell ⟨w13.heap.size, 2, none⟩ (.slice A2 (pcs 44 c).length k2)) (((w14.setCell ⟨w13.heap.size, 0, none⟩ (.bool false)).setCell ⟨w13.heap.size, 1, none⟩ (.slice A1 (pcs 44 b).length k1)).setCell ⟨w13.heap.size, 2, none⟩ (.slice A2 (pcs 44 c).length k2)).heap.size A1 (pcs 44 b) ∧ StrL (((w14.setCell ⟨w13.heap.size, 0, none⟩ (.bool false)).setCell ⟨w13.heap.size, 1, none⟩ (.slice A1 (pcs 44 b).length k1)).setCell ⟨w13.heap.size, 2, none⟩ (.slice A2 (pcs 44 c).length k2)) (((w14.setCell ⟨w13.heap.size, 0, none⟩ (.bool false)).setCell ⟨w13.heap.size, 1, none⟩ (.slice A1 (pcs 44 b).length k1)).setCell ⟨w13.heap.size, 2, none⟩ (.slice A2 (pcs 44 c).length k2)).heap.size A2 (pcs 44 c) := ⟨Blk.set3 bo _ _ _, below_set3 H14.2 hGG _ _ _, by rw [set3_size]; exact set3_str (hs1.on ((size_new _ _).trans (hb2.mono (size_new _ _).size))) (fun ad h => Nat.ne_of_lt (hs1.lt (pcs_pos _ _) ad h)) _ _ _, by rw [set3_size]; exact set3_str hs2 (fun ad h => Nat.ne_of_gt (fr2 ad h)) _ _ _⟩
          have HG : w12.heap.size ≤ w13.heap.size := hGG
          have FR1 := Lib.hid (show Fresh w12.heap.size A1 from fun ad h => fr1 ad h)
          have FR2 := Lib.hid (show Fresh w12.heap.size A2 from fun ad h => Nat.le_trans hGG (Nat.le_of_lt (fr2 ad h)))
          generalize ((w14.setCell ⟨w13.heap.size, 0, none⟩ (.bool false)).setCell ⟨w13.heap.size, 1, none⟩ (.slice A1 (pcs 44 b).length k1)).setCell ⟨w13.heap.size, 2, none⟩ (.slice A2 (pcs 44 c).length k2) = w15 at FIN ⊢
          generalize w13.heap.size = G at FIN HG ⊢
          obtain ⟨bG, hB15, hS1, hS2⟩ := FIN
          have HS1 := Lib.hid hS1
          have HS2 := Lib.hid hS2
          have br : Blk w15 w.heap.size 31 #[.bool false, .slice none 0 0, .slice none 0 0] := br.on hB15
          have HB15 := Lib.hid (HB12.out.trans (hB15.mono HB12.out.size))
          have hz15 := HB15.out.size
          have HST := Lib.hid (show StV w15 w15.heap.size (.agg #[.bool false, .slice A1 (pcs 44 b).length k1, .slice A2 (pcs 44 c).length k2]) (St.mk false (pcs 44 b) (pcs 44 c)) from ⟨A1, k1, A2, k2, rfl, hS1, hS2⟩)
          have HSZ := Lib.hid (show SzSt (St.mk false (pcs 44 b) (pcs 44 c)) from ⟨by have := pcs_len 44 b; have := HA.out.1; simp only; omega, by have := pcs_len 44 c; have := HA.out.2; simp only; omega, fun t ht => by have := pcs_size ht; have := HA.out.1; omega, fun t ht => by have := pcs_size ht; have := HA.out.2; omega⟩)
          clear hS1 hS2 hB15 hs1 hs2 hb1 hb2 H13 H14 q0 q1 q2 hst hgl0 hgl1 hgl2
          have q_br0 : w15.cell? ⟨w.heap.size, 0, none⟩ = some (.bool false) := br.cell 0
          have q_br1 : w15.cell? ⟨w.heap.size, 1, none⟩ = some (.slice none 0 0) := br.cell 1
          have q_br2 : w15.cell? ⟨w.heap.size, 2, none⟩ = some (.slice none 0 0) := br.cell 2
          have q_bG0 : w15.cell? ⟨G, 0, none⟩ = some (.bool false) := bG.cell 0
          have q_bG1 : w15.cell? ⟨G, 1, none⟩ = some (.slice A1 (pcs 44 b).length k1) := bG.cell 1
          have q_bG2 : w15.cell? ⟨G, 2, none⟩ = some (.slice A2 (pcs 44 c).length k2) := bG.cell 2
          go_wp2_with fail
          refine (rCheck_any (St.mk false (pcs 44 b) (pcs 44 c)) _ _ HST.out HSZ.out).mono ?_
          rintro e w16 ⟨rfl, hb⟩
          clear q_br0 q_br1 q_br2 q_bG0 q_bG1 q_bG2
          have br : Blk w16 (w.heap.size) 31 #[.bool false, .slice none 0 0, .slice none 0 0] := (br).on hb
          have bG : Blk w16 (G) 31 #[.bool false, .slice A1 (pcs 44 b).length k1, .slice A2 (pcs 44 c).length k2] := (bG).on hb
          have hbz := hb.size
          have HB16 := Lib.hid ((HB15.out).trans (hb.mono (by first | exact Nat.le_refl _ | omega | (simp; done) | (simp; omega))))
          have hz16 : w.heap.size ≤ w16.heap.size := HB16.out.size
          have HS1 := Lib.hid (HS1.out.on hb)
          have HS2 := Lib.hid (HS2.out.on hb)
          clear hb hbz
          have HPR := Lib.hid (show parS s = stP (St.mk false (pcs 44 b) (pcs 44 c)) by rw [par_c HP1.out (by rw [HX1.out, HX2.out]; rfl), HX1.out])
          rcases ck_cases (St.mk false (pcs 44 b) (pcs 44 c)) with hc | hc | hc
          · have HD := Lib.hid (HPR.out.trans (stP_good hc))
            rw [hc]
            clear hc
            have q_br0 : w16.cell? ⟨w.heap.size, 0, none⟩ = some (.bool false) := br.cell 0
            have q_br1 : w16.cell? ⟨w.heap.size, 1, none⟩ = some (.slice none 0 0) := br.cell 1
            have q_br2 : w16.cell? ⟨w.heap.size, 2, none⟩ = some (.slice none 0 0) := br.cell 2
            have q_bG0 : w16.cell? ⟨G, 0, none⟩ = some (.bool false) := bG.cell 0
            have q_bG1 : w16.cell? ⟨G, 1, none⟩ = some (.slice A1 (pcs 44 b).length k1) := bG.cell 1
            have q_bG2 : w16.cell? ⟨G, 2, none⟩ = some (.slice A2 (pcs 44 c).length k2) := bG.cell 2
            have f_br0 : w16.frozen? ⟨w.heap.size, 0, none⟩ = false := br.frozen 0
            have f_br1 : w16.frozen? ⟨w.heap.size, 1, none⟩ = false := br.frozen 1
            have f_br2 : w16.frozen? ⟨w.heap.size, 2, none⟩ = false := br.frozen 2
            go_wp2_with fail
            exact bodyPost_ret (v := .tuple #[.agg #[.bool false, .slice A1 (pcs 44 b).length k1, .slice A2 (pcs 44 c).length k2], .int .i64 0]) (by simp [results, Tryd.results16, go_sem, q_br0, q_br1, q_br2]) rfl (postP_st HD.out ⟨A1, k1, A2, k2, rfl, by rw [set3_size]; exact set3_str HS1.out (fun ad h => Nat.ne_of_gt (Nat.lt_of_lt_of_le hwl (FR1.out ad h))) _ _ _, by rw [set3_size]; exact set3_str HS2.out (fun ad h => Nat.ne_of_gt (Nat.lt_of_lt_of_le hwl (FR2.out ad h))) _ _ _⟩ (fun h => by cases h) (below_set3 (HB16.out) (Nat.le_refl _) _ _ _))
          · have HD := Lib.hid (HPR.out.trans (stP_bad hc (by decide)))
            rw [hc]
            clear hc
            have q_br0 : w16.cell? ⟨w.heap.size, 0, none⟩ = some (.bool false) := br.cell 0
            have q_br1 : w16.cell? ⟨w.heap.size, 1, none⟩ = some (.slice none 0 0) := br.cell 1
            have q_br2 : w16.cell? ⟨w.heap.size, 2, none⟩ = some (.slice none 0 0) := br.cell 2
            have f_br0 : w16.frozen? ⟨w.heap.size, 0, none⟩ = false := br.frozen 0
            have f_br1 : w16.frozen? ⟨w.heap.size, 1, none⟩ = false := br.frozen 1
            have f_br2 : w16.frozen? ⟨w.heap.size, 2, none⟩ = false := br.frozen 2
            go_wp2_with fail
            exact bodyPost_ret (v := .tuple #[.agg #[.bool false, .slice none 0 0, .slice none 0 0], .int .i64 3]) (by simp [results, Tryd.results16, go_sem, q_br0, q_br1, q_br2]) rfl (postP_zero HD.out (below_set3 (HB16.out) (Nat.le_refl _) _ _ _))
          · have HD := Lib.hid (HPR.out.trans (stP_bad hc (by decide)))
            rw [hc]
            clear hc
            have q_br0 : w16.cell? ⟨w.heap.size, 0, none⟩ = some (.bool false) := br.cell 0
            have q_br1 : w16.cell? ⟨w.heap.size, 1, none⟩ = some (.slice none 0 0) := br.cell 1
            have q_br2 : w16.cell? ⟨w.heap.size, 2, none⟩ = some (.slice none 0 0) := br.cell 2
            have f_br0 : w16.frozen? ⟨w.heap.size, 0, none⟩ = false := br.frozen 0
            have f_br1 : w16.frozen? ⟨w.heap.size, 1, none⟩ = false := br.frozen 1
            have f_br2 : w16.frozen? ⟨w.heap.size, 2, none⟩ = false := br.frozen 2
            go_wp2_with fail
            exact bodyPost_ret (v := .tuple #[.agg #[.bool false, .slice none 0 0, .slice none 0 0], .int .i64 4]) (by simp [results, Tryd.results16, go_sem, q_br0, q_br1, q_br2]) rfl (postP_zero HD.out (below_set3 (HB16.out) (Nat.le_refl _) _ _ _))
        · have hz13 : w12.heap.size < w13.heap.size := by have := hb1.size; simp at this; omega
          have FIN : Blk (((w14.setCell ⟨w12.heap.size, 0, none⟩ (.bool false)).setCell ⟨w12.heap.size, 1, none⟩ (.slice A1 (pcs 44 b).length k1)).setCell ⟨w12.heap.size, 2, none⟩ (.slice A2 (pcs 44 c).length k2)) (w12.heap.size) 31 #[.bool false, .slice A1 (pcs 44 b).length k1, .slice A2 (pcs 44 c).length k2] ∧ Below w12.heap.size w12 (((w14.setCell ⟨w12.heap.size, 0, none⟩ (.bool false)).setCell ⟨w12.heap.size, 1, none⟩ (.slice A1 (pcs 44 b).length k1)).setCell ⟨w12.heap.size, 2, none⟩ (.slice A2 (pcs 44 c).length k2)) ∧ StrL (((w14.setCell ⟨w12.heap.size, 0, none⟩ (.bool false)).setCell ⟨w12.heap.size, 1, none⟩ (.slice A1 (pcs 44 b).length k1)).setCell ⟨w12.heap.size, 2, none⟩ (.slice A2 (pcs 44 c).length k2)) (((w14.setCell ⟨w12.heap.size, 0, none⟩ (.bool false)).setCell ⟨w12.heap.size, 1, none⟩ (.slice A1 (pcs 44 b).length k1)).setCell ⟨w12.heap.size, 2, none⟩ (.slice A2 (pcs 44 c).length k2)).heap.size A1 (pcs 44 b) ∧ StrL (((w14.setCell ⟨w12.heap.size, 0, none⟩ (.bool false)).setCell ⟨w12.heap.size, 1, none⟩ (.slice A1 (pcs 44 b).length k1)).setCell ⟨w12.heap.size, 2, none⟩ (.slice A2 (pcs 44 c).length k2)) (((w14.setCell ⟨w12.heap.size, 0, none⟩ (.bool false)).setCell ⟨w12.heap.size, 1, none⟩ (.slice A1 (pcs 44 b).length k1)).setCell ⟨w12.heap.size, 2, none⟩ (.slice A2 (pcs 44 c).length k2)).heap.size A2 (pcs 44 c) := ⟨Blk.set3 bo _ _ _, below_set3 H14.2 hGG _ _ _, by rw [set3_size]; exact set3_str (hs1.on hb2) (fun ad h => Nat.ne_of_gt (fr1 ad h)) _ _ _, by rw [set3_size]; exact set3_str hs2 (fun ad h => Nat.ne_of_gt (Nat.lt_of_lt_of_le hz13 (fr2 ad h))) _ _ _⟩
          have HG : w12.heap.size ≤ w12.heap.size := Nat.le_refl _
          have FR1 := Lib.hid (show Fresh w12.heap.size A1 from fun ad h => Nat.le_of_lt (fr1 ad h))
          have FR2 := Lib.hid (show Fresh w12.heap.size A2 from fun ad h => Nat.le_trans (Nat.le_of_lt hz13) (fr2 ad h))
          generalize ((w14.setCell ⟨w12.heap.size, 0, none⟩ (.bool false)).setCell ⟨w12.heap.size, 1, none⟩ (.slice A1 (pcs 44 b).length k1)).setCell ⟨w12.heap.size, 2, none⟩ (.slice A2 (pcs 44 c).length k2) = w15 at FIN ⊢
          obtain ⟨G, hG⟩ : ∃ G, w12.heap.size = G := ⟨_, rfl⟩
          rw [hG] at FIN
          have FIN : Blk w15 G 31 #[.bool false, .slice A1 (pcs 44 b).length k1, .slice A2 (pcs 44 c).length k2] ∧ Below w12.heap.size w12 w15 ∧ StrL w15 w15.heap.size A1 (pcs 44 b) ∧ StrL w15 w15.heap.size A2 (pcs 44 c) := by rw [hG]; exact FIN
          try rw [hG]
          clear hG
          obtain ⟨bG, hB15, hS1, hS2⟩ := FIN
          have HS1 := Lib.hid hS1
          have HS2 := Lib.hid hS2
          have br : Blk w15 w.heap.size 31 #[.bool false, .slice none 0 0, .slice none 0 0] := br.on hB15
          have HB15 := Lib.hid (HB12.out.trans (hB15.mono HB12.out.size))
          have hz15 := HB15.out.size
          have HST := Lib.hid (show StV w15 w15.heap.size (.agg #[.bool false, .slice A1 (pcs 44 b).length k1, .slice A2 (pcs 44 c).length k2]) (St.mk false (pcs 44 b) (pcs 44 c)) from ⟨A1, k1, A2, k2, rfl, hS1, hS2⟩)
          have HSZ := Lib.hid (show SzSt (St.mk false (pcs 44 b) (pcs 44 c)) from ⟨by have := pcs_len 44 b; have := HA.out.1; simp only; omega, by have := pcs_len 44 c; have := HA.out.2; simp only; omega, fun t ht => by have := pcs_size ht; have := HA.out.1; omega, fun t ht => by have := pcs_size ht; have := HA.out.2; omega⟩)
          clear hS1 hS2 hB15 hs1 hs2 hb1 hb2 H13 H14 q0 q1 q2 hst hgl0 hgl1 hgl2
          have q_br0 : w15.cell? ⟨w.heap.size, 0, none⟩ = some (.bool false) := br.cell 0
          have q_br1 : w15.cell? ⟨w.heap.size, 1, none⟩ = some (.slice none 0 0) := br.cell 1
          have q_br2 : w15.cell? ⟨w.heap.size, 2, none⟩ = some (.slice none 0 0) := br.cell 2
          have q_bG0 : w15.cell? ⟨G, 0, none⟩ = some (.bool false) := bG.cell 0
          have q_bG1 : w15.cell? ⟨G, 1, none⟩ = some (.slice A1 (pcs 44 b).length k1) := bG.cell 1
          have q_bG2 : w15.cell? ⟨G, 2, none⟩ = some (.slice A2 (pcs 44 c).length k2) := bG.cell 2
          go_wp2_with fail
          refine (rCheck_any (St.mk false (pcs 44 b) (pcs 44 c)) _ _ HST.out HSZ.out).mono ?_
          rintro e w16 ⟨rfl, hb⟩
          clear q_br0 q_br1 q_br2 q_bG0 q_bG1 q_bG2
          have br : Blk w16 (w.heap.size) 31 #[.bool false, .slice none 0 0, .slice none 0 0] := (br).on hb
          have bG : Blk w16 (G) 31 #[.bool false, .slice A1 (pcs 44 b).length k1, .slice A2 (pcs 44 c).length k2] := (bG).on hb
          have hbz := hb.size
          have HB16 := Lib.hid ((HB15.out).trans (hb.mono (by first | exact Nat.le_refl _ | omega | (simp; done) | (simp; omega))))
          have hz16 : w.heap.size ≤ w16.heap.size := HB16.out.size
          have HS1 := Lib.hid (HS1.out.on hb)
          have HS2 := Lib.hid (HS2.out.on hb)
          clear hb hbz
          have HPR := Lib.hid (show parS s = stP (St.mk false (pcs 44 b) (pcs 44 c)) by rw [par_c HP1.out (by rw [HX1.out, HX2.out]; rfl), HX1.out])
          rcases ck_cases (St.mk false (pcs 44 b) (pcs 44 c)) with hc | hc | hc
          · have HD := Lib.hid (HPR.out.trans (stP_good hc))
            rw [hc]
            clear hc
            have q_br0 : w16.cell? ⟨w.heap.size, 0, none⟩ = some (.bool false) := br.cell 0
            have q_br1 : w16.cell? ⟨w.heap.size, 1, none⟩ = some (.slice none 0 0) := br.cell 1
            have q_br2 : w16.cell? ⟨w.heap.size, 2, none⟩ = some (.slice none 0 0) := br.cell 2
            have q_bG0 : w16.cell? ⟨G, 0, none⟩ = some (.bool false) := bG.cell 0
            have q_bG1 : w16.cell? ⟨G, 1, none⟩ = some (.slice A1 (pcs 44 b).length k1) := bG.cell 1
            have q_bG2 : w16.cell? ⟨G, 2, none⟩ = some (.slice A2 (pcs 44 c).length k2) := bG.cell 2
            have f_br0 : w16.frozen? ⟨w.heap.size, 0, none⟩ = false := br.frozen 0
            have f_br1 : w16.frozen? ⟨w.heap.size, 1, none⟩ = false := br.frozen 1
            have f_br2 : w16.frozen? ⟨w.heap.size, 2, none⟩ = false := br.frozen 2
            go_wp2_with fail
            exact bodyPost_ret (v := .tuple #[.agg #[.bool false, .slice A1 (pcs 44 b).length k1, .slice A2 (pcs 44 c).length k2], .int .i64 0]) (by simp [results, Tryd.results16, go_sem, q_br0, q_br1, q_br2]) rfl (postP_st HD.out ⟨A1, k1, A2, k2, rfl, by rw [set3_size]; exact set3_str HS1.out (fun ad h => Nat.ne_of_gt (Nat.lt_of_lt_of_le hwl (FR1.out ad h))) _ _ _, by rw [set3_size]; exact set3_str HS2.out (fun ad h => Nat.ne_of_gt (Nat.lt_of_lt_of_le hwl (FR2.out ad h))) _ _ _⟩ (fun h => by cases h) (below_set3 (HB16.out) (Nat.le_refl _) _ _ _))
          · have HD := Lib.hid (HPR.out.trans (stP_bad hc (by decide)))
            rw [hc]
            clear hc
            have q_br0 : w16.cell? ⟨w.heap.size, 0, none⟩ = some (.bool false) := br.cell 0
            have q_br1 : w16.cell? ⟨w.heap.size, 1, none⟩ = some (.slice none 0 0) := br.cell 1
            have q_br2 : w16.cell? ⟨w.heap.size, 2, none⟩ = some (.slice none 0 0) := br.cell 2
            have f_br0 : w16.frozen? ⟨w.heap.size, 0, none⟩ = false := br.frozen 0
            have f_br1 : w16.frozen? ⟨w.heap.size, 1, none⟩ = false := br.frozen 1
            have f_br2 : w16.frozen? ⟨w.heap.size, 2, none⟩ = false := br.frozen 2
            go_wp2_with fail
            exact bodyPost_ret (v := .tuple #[.agg #[.bool false, .slice none 0 0, .slice none 0 0], .int .i64 3]) (by simp [results, Tryd.results16, go_sem, q_br0, q_br1, q_br2]) rfl (postP_zero HD.out (below_set3 (HB16.out) (Nat.le_refl _) _ _ _))
          · have HD := Lib.hid (HPR.out.trans (stP_bad hc (by decide)))
            rw [hc]
            clear hc
            have q_br0 : w16.cell? ⟨w.heap.size, 0, none⟩ = some (.bool false) := br.cell 0
            have q_br1 : w16.cell? ⟨w.heap.size, 1, none⟩ = some (.slice none 0 0) := br.cell 1
            have q_br2 : w16.cell? ⟨w.heap.size, 2, none⟩ = some (.slice none 0 0) := br.cell 2
            have f_br0 : w16.frozen? ⟨w.heap.size, 0, none⟩ = false := br.frozen 0
            have f_br1 : w16.frozen? ⟨w.heap.size, 1, none⟩ = false := br.frozen 1
            have f_br2 : w16.frozen? ⟨w.heap.size, 2, none⟩ = false := br.frozen 2
            go_wp2_with fail
            exact bodyPost_ret (v := .tuple #[.agg #[.bool false, .slice none 0 0, .slice none 0 0], .int .i64 4]) (by simp [results, Tryd.results16, go_sem, q_br0, q_br1, q_br2]) rfl (postP_zero HD.out (below_set3 (HB16.out) (Nat.le_refl _) _ _ _))
    · skip
      go_wp2_with fail
      have hgl0 : (⟨g, o, none⟩ : Addr).block < w12.heap.size := hgl
      have hgl1 : (⟨g, o + 1, none⟩ : Addr).block < w12.heap.size := hgl
      have hgl2 : (⟨g, o + 2, none⟩ : Addr).block < w12.heap.size := hgl
      have hwl : w.heap.size < w12.heap.size := br.lt
      go_region_held3 (fun w' => (w'.cell? ⟨g, o, none⟩ = some (.string a) ∧ w'.cell? ⟨g, o + 1, none⟩ = some (.string b) ∧ w'.cell? ⟨g, o + 2, none⟩ = some (.string c)) ∧ Below w12.heap.size w12 w') (first | assumption | exact ⟨⟨q0, q1, q2⟩, (Below.refl _ _).drew⟩ | exact held_step ⟨⟨q0, q1, q2⟩, Below.refl _ _⟩ ((size_new _ _).drew) | exact held_step (by assumption) (size_new _ _) | exact held_set (by assumption) (by assumption) hgl0 hgl1 hgl2) (first | (go_at_call 35; first | ((with_reducible refine (rsb44d b w12 #[.bool false, .slice none 0 0, .slice none 0 0] (Nat.le_trans HA.out.1 (by decide))).mono ?_); rintro e w13 ⟨⟨A1, k1, rfl, hs1, fr1⟩, hb1, bo⟩; have H13 := held_step (by assumption) hb1; have bo : Blk w13 w12.heap.size 31 #[.bool false, .slice none 0 0, .slice none 0 0] := bo; have hGG : w12.heap.size ≤ w12.heap.size := Nat.le_refl _; have bz := bo.lt; have f0 := bo.frozen 0; have f1 := bo.frozen 1; have f2 := bo.frozen 2; have c0 : w13.cell? ⟨w12.heap.size, 0, none⟩ = some (.bool false) := bo.cell 0; have c1 : w13.cell? ⟨w12.heap.size, 1, none⟩ = some (.slice none 0 0) := bo.cell 1; have c2 : w13.cell? ⟨w12.heap.size, 2, none⟩ = some (.slice none 0 0) := bo.cell 2) | ((with_reducible refine (rs44 b _ (Nat.le_trans HA.out.1 (by decide))).mono ?_); rintro e w13 ⟨⟨A1, k1, rfl, hs1, fr1⟩, hb1⟩; have H13 := held_step (by assumption) hb1)) | (go_at_call 35; first | ((with_reducible refine (rsb44 c w13 #[.bool false, .slice none 0 0, .slice none 0 0] (Nat.le_trans HA.out.2 (by decide))).mono ?_); rintro e w14 ⟨⟨A2, k2, rfl, hs2, fr2⟩, hb2, bo⟩; have H14 := held_step (by assumption) hb2; have bo : Blk w14 w13.heap.size 31 #[.bool false, .slice none 0 0, .slice none 0 0] := bo; have hGG : w12.heap.size ≤ w13.heap.size := H13.2.size; have bz := bo.lt; have f0 := bo.frozen 0; have f1 := bo.frozen 1; have f2 := bo.frozen 2; have c0 : w14.cell? ⟨w13.heap.size, 0, none⟩ = some (.bool false) := bo.cell 0; have c1 : w14.cell? ⟨w13.heap.size, 1, none⟩ = some (.slice none 0 0) := bo.cell 1; have c2 : w14.cell? ⟨w13.heap.size, 2, none⟩ = some (.slice none 0 0) := bo.cell 2) | (have bo2 := bo; (with_reducible refine (rs44 c _ (Nat.le_trans HA.out.2 (by decide))).mono ?_); rintro e w14 ⟨⟨A2, k2, rfl, hs2, fr2⟩, hb2⟩; have H14 := held_step (by assumption) hb2; have bo : Blk w14 w12.heap.size 31 #[.bool false, .slice none 0 0, .slice none 0 0] := bo2.on hb2; clear bo2; have bz := bo.lt; have f0 := bo.frozen 0; have f1 := bo.frozen 1; have f2 := bo.frozen 2; have c0 : w14.cell? ⟨w12.heap.size, 0, none⟩ = some (.bool false) := bo.cell 0; have c1 : w14.cell? ⟨w12.heap.size, 1, none⟩ = some (.slice none 0 0) := bo.cell 1; have c2 : w14.cell? ⟨w12.heap.size, 2, none⟩ = some (.slice none 0 0) := bo.cell 2) | ((with_reducible refine (rs44 c _ (Nat.le_trans HA.out.2 (by decide))).mono ?_); rintro e w14 ⟨⟨A2, k2, rfl, hs2, fr2⟩, hb2⟩; have H14 := held_step (by assumption) hb2)))
      · have FIN : Blk (w14.alloc (.cells #[.bool true, .slice A1 (pcs 44 b).length k1, .slice A2 (pcs 44 c).length k2] 31)) (w14.heap.size) 31 #[.bool true, .slice A1 (pcs 44 b).length k1, .slice A2 (pcs 44 c).length k2] ∧ Below w12.heap.size w12 (w14.alloc (.cells #[.bool true, .slice A1 (pcs 44 b).length k1, .slice A2 (pcs 44 c).length k2] 31)) ∧ StrL (w14.alloc (.cells #[.bool true, .slice A1 (pcs 44 b).length k1, .slice A2 (pcs 44 c).length k2] 31)) (w14.alloc (.cells #[.bool true, .slice A1 (pcs 44 b).length k1, .slice A2 (pcs 44 c).length k2] 31)).heap.size A1 (pcs 44 b) ∧ StrL (w14.alloc (.cells #[.bool true, .slice A1 (pcs 44 b).length k1, .slice A2 (pcs 44 c).length k2] 31)) (w14.alloc (.cells #[.bool true, .slice A1 (pcs 44 b).length k1, .slice A2 (pcs 44 c).length k2] 31)).heap.size A2 (pcs 44 c) := ⟨Blk.new w14 _ _, H14.2.alloc H14.2.size _, (hs1.on hb2).on (size_new _ _), hs2.on (size_new _ _)⟩
        have HG : w12.heap.size ≤ w14.heap.size := H14.2.size
        have FR1 := Lib.hid (show Fresh w12.heap.size A1 from fun ad h => fr1 ad h)
        have FR2 := Lib.hid (show Fresh w12.heap.size A2 from fun ad h => Nat.le_trans H13.2.size (fr2 ad h))
        generalize w14.alloc (.cells #[.bool true, .slice A1 (pcs 44 b).length k1, .slice A2 (pcs 44 c).length k2] 31) = w15 at FIN ⊢
        generalize w14.heap.size = G at FIN HG ⊢
        obtain ⟨bG, hB15, hS1, hS2⟩ := FIN
        have HS1 := Lib.hid hS1
        have HS2 := Lib.hid hS2
        have br : Blk w15 w.heap.size 31 #[.bool false, .slice none 0 0, .slice none 0 0] := br.on hB15
        have HB15 := Lib.hid (HB12.out.trans (hB15.mono HB12.out.size))
        have hz15 := HB15.out.size
        have HST := Lib.hid (show StV w15 w15.heap.size (.agg #[.bool true, .slice A1 (pcs 44 b).length k1, .slice A2 (pcs 44 c).length k2]) (St.mk true (pcs 44 b) (pcs 44 c)) from ⟨A1, k1, A2, k2, rfl, hS1, hS2⟩)
        have HSZ := Lib.hid (show SzSt (St.mk true (pcs 44 b) (pcs 44 c)) from ⟨by have := pcs_len 44 b; have := HA.out.1; simp only; omega, by have := pcs_len 44 c; have := HA.out.2; simp only; omega, fun t ht => by have := pcs_size ht; have := HA.out.1; omega, fun t ht => by have := pcs_size ht; have := HA.out.2; omega⟩)
        clear hS1 hS2 hB15 hs1 hs2 hb1 hb2 H13 H14 q0 q1 q2 hst hgl0 hgl1 hgl2
        have q_br0 : w15.cell? ⟨w.heap.size, 0, none⟩ = some (.bool false) := br.cell 0
        have q_br1 : w15.cell? ⟨w.heap.size, 1, none⟩ = some (.slice none 0 0) := br.cell 1
        have q_br2 : w15.cell? ⟨w.heap.size, 2, none⟩ = some (.slice none 0 0) := br.cell 2
        have q_bG0 : w15.cell? ⟨G, 0, none⟩ = some (.bool true) := bG.cell 0
        have q_bG1 : w15.cell? ⟨G, 1, none⟩ = some (.slice A1 (pcs 44 b).length k1) := bG.cell 1
        have q_bG2 : w15.cell? ⟨G, 2, none⟩ = some (.slice A2 (pcs 44 c).length k2) := bG.cell 2
        go_wp2_with fail
        refine (rCheck_any (St.mk true (pcs 44 b) (pcs 44 c)) _ _ HST.out HSZ.out).mono ?_
        rintro e w16 ⟨rfl, hb⟩
        clear q_br0 q_br1 q_br2 q_bG0 q_bG1 q_bG2
        have br : Blk w16 (w.heap.size) 31 #[.bool false, .slice none 0 0, .slice none 0 0] := (br).on hb
        have bG : Blk w16 (G) 31 #[.bool true, .slice A1 (pcs 44 b).length k1, .slice A2 (pcs 44 c).length k2] := (bG).on hb
        have hbz := hb.size
        have HB16 := Lib.hid ((HB15.out).trans (hb.mono (by first | exact Nat.le_refl _ | omega | (simp; done) | (simp; omega))))
        have hz16 : w.heap.size ≤ w16.heap.size := HB16.out.size
        have HS1 := Lib.hid (HS1.out.on hb)
        have HS2 := Lib.hid (HS2.out.on hb)
        clear hb hbz
        have HPR := Lib.hid (show parS s = stP (St.mk true (pcs 44 b) (pcs 44 c)) by rw [par_c HP1.out (by rw [HX1.out]; rfl), HX1.out])
        rcases ck_cases (St.mk true (pcs 44 b) (pcs 44 c)) with hc | hc | hc
        · have HD := Lib.hid (HPR.out.trans (stP_good hc))
          rw [hc]
          clear hc
          have q_br0 : w16.cell? ⟨w.heap.size, 0, none⟩ = some (.bool false) := br.cell 0
          have q_br1 : w16.cell? ⟨w.heap.size, 1, none⟩ = some (.slice none 0 0) := br.cell 1
          have q_br2 : w16.cell? ⟨w.heap.size, 2, none⟩ = some (.slice none 0 0) := br.cell 2
          have q_bG0 : w16.cell? ⟨G, 0, none⟩ = some (.bool true) := bG.cell 0
          have q_bG1 : w16.cell? ⟨G, 1, none⟩ = some (.slice A1 (pcs 44 b).length k1) := bG.cell 1
          have q_bG2 : w16.cell? ⟨G, 2, none⟩ = some (.slice A2 (pcs 44 c).length k2) := bG.cell 2
          have f_br0 : w16.frozen? ⟨w.heap.size, 0, none⟩ = false := br.frozen 0
          have f_br1 : w16.frozen? ⟨w.heap.size, 1, none⟩ = false := br.frozen 1
          have f_br2 : w16.frozen? ⟨w.heap.size, 2, none⟩ = false := br.frozen 2
          go_wp2_with fail
          exact bodyPost_ret (v := .tuple #[.agg #[.bool true, .slice A1 (pcs 44 b).length k1, .slice A2 (pcs 44 c).length k2], .int .i64 0]) (by simp [results, Tryd.results16, go_sem, q_br0, q_br1, q_br2]) rfl (postP_st HD.out ⟨A1, k1, A2, k2, rfl, by rw [set3_size]; exact set3_str HS1.out (fun ad h => Nat.ne_of_gt (Nat.lt_of_lt_of_le hwl (FR1.out ad h))) _ _ _, by rw [set3_size]; exact set3_str HS2.out (fun ad h => Nat.ne_of_gt (Nat.lt_of_lt_of_le hwl (FR2.out ad h))) _ _ _⟩ (fun h => by cases h) (below_set3 (HB16.out) (Nat.le_refl _) _ _ _))
        · have HD := Lib.hid (HPR.out.trans (stP_bad hc (by decide)))
          rw [hc]
          clear hc
          have q_br0 : w16.cell? ⟨w.heap.size, 0, none⟩ = some (.bool false) := br.cell 0
          have q_br1 : w16.cell? ⟨w.heap.size, 1, none⟩ = some (.slice none 0 0) := br.cell 1
          have q_br2 : w16.cell? ⟨w.heap.size, 2, none⟩ = some (.slice none 0 0) := br.cell 2
          have f_br0 : w16.frozen? ⟨w.heap.size, 0, none⟩ = false := br.frozen 0
          have f_br1 : w16.frozen? ⟨w.heap.size, 1, none⟩ = false := br.frozen 1
          have f_br2 : w16.frozen? ⟨w.heap.size, 2, none⟩ = false := br.frozen 2
          go_wp2_with fail
          exact bodyPost_ret (v := .tuple #[.agg #[.bool false, .slice none 0 0, .slice none 0 0], .int .i64 3]) (by simp [results, Tryd.results16, go_sem, q_br0, q_br1, q_br2]) rfl (postP_zero HD.out (below_set3 (HB16.out) (Nat.le_refl _) _ _ _))
        · have HD := Lib.hid (HPR.out.trans (stP_bad hc (by decide)))
          rw [hc]
          clear hc
          have q_br0 : w16.cell? ⟨w.heap.size, 0, none⟩ = some (.bool false) := br.cell 0
          have q_br1 : w16.cell? ⟨w.heap.size, 1, none⟩ = some (.slice none 0 0) := br.cell 1
          have q_br2 : w16.cell? ⟨w.heap.size, 2, none⟩ = some (.slice none 0 0) := br.cell 2
          have f_br0 : w16.frozen? ⟨w.heap.size, 0, none⟩ = false := br.frozen 0
          have f_br1 : w16.frozen? ⟨w.heap.size, 1, none⟩ = false := br.frozen 1
          have f_br2 : w16.frozen? ⟨w.heap.size, 2, none⟩ = false := br.frozen 2
          go_wp2_with fail
          exact bodyPost_ret (v := .tuple #[.agg #[.bool false, .slice none 0 0, .slice none 0 0], .int .i64 4]) (by simp [results, Tryd.results16, go_sem, q_br0, q_br1, q_br2]) rfl (postP_zero HD.out (below_set3 (HB16.out) (Nat.le_refl _) _ _ _))
      · have FIN : Blk (((w14.setCell ⟨w13.heap.size, 0, none⟩ (.bool true)).setCell ⟨w13.heap.size, 1, none⟩ (.slice A1 (pcs 44 b).length k1)).setCell ⟨w13.heap.size, 2, none⟩ (.slice A2 (pcs 44 c).length k2)) (w13.heap.size) 31 #[.bool true, .slice A1 (pcs 44 b).length k1, .slice A2 (pcs 44 c).length k2] ∧ Below w12.heap.size w12 (((w14.setCell ⟨w13.heap.size, 0, none⟩ (.bool true)).setCell ⟨w13.heap.size, 1, none⟩ (.slice A1 (pcs 44 b).length k1)).setCell ⟨w13.heap.size, 2, none⟩ (.slice A2 (pcs 44 c).length k2)) ∧ StrL (((w14.setCell ⟨w13.heap.size, 0, none⟩ (.bool true)).setCell ⟨w13.heap.size, 1, none⟩ (.slice A1 (pcs 44 b).length k1)).setCell ⟨w13.heap.size, 2, none⟩ (.slice A2 (pcs 44 c).length k2)) (((w14.setCell ⟨w13.heap.size, 0, none⟩ (.bool true)).setCell ⟨w13.heap.size, 1, none⟩ (.slice A1 (pcs 44 b).length k1)).setCell ⟨w13.heap.size, 2, none⟩ (.slice A2 (pcs 44 c).length k2)).heap.size A1 (pcs 44 b) ∧ StrL (((w14.setCell ⟨w13.heap.size, 0, none⟩ (.bool true)).setCell ⟨w13.heap.size, 1, none⟩ (.slice A1 (pcs 44 b).length k1)).setCell ⟨w13.heap.size, 2, none⟩ (.slice A2 (pcs 44 c).length k2)) (((w14.setCell ⟨w13.heap.size, 0, none⟩ (.bool true)).setCell ⟨w13.heap.size, 1, none⟩ (.slice A1 (pcs 44 b).length k1)).setCell ⟨w13.heap.size, 2, none⟩ (.slice A2 (pcs 44 c).length k2)).heap.size A2 (pcs 44 c) := ⟨Blk.set3 bo _ _ _, below_set3 H14.2 hGG _ _ _, by rw [set3_size]; exact set3_str (hs1.on ((size_new _ _).trans (hb2.mono (size_new _ _).size))) (fun ad h => Nat.ne_of_lt (hs1.lt (pcs_pos _ _) ad h)) _ _ _, by rw [set3_size]; exact set3_str hs2 (fun ad h => Nat.ne_of_gt (fr2 ad h)) _ _ _⟩
        have HG : w12.heap.size ≤ w13.heap.size := hGG
        have FR1 := Lib.hid (show Fresh w12.heap.size A1 from fun ad h => fr1 ad h)
        have FR2 := Lib.hid (show Fresh w12.heap.size A2 from fun ad h => Nat.le_trans hGG (Nat.le_of_lt (fr2 ad h)))
        generalize ((w14.setCell ⟨w13.heap.size, 0, none⟩ (.bool true)).setCell ⟨w13.heap.size, 1, none⟩ (.slice A1 (pcs 44 b).length k1)).setCell ⟨w13.heap.size, 2, none⟩ (.slice A2 (pcs 44 c).length k2) = w15 at FIN ⊢
        generalize w13.heap.size = G at FIN HG ⊢
        obtain ⟨bG, hB15, hS1, hS2⟩ := FIN
        have HS1 := Lib.hid hS1
        have HS2 := Lib.hid hS2
        have br : Blk w15 w.heap.size 31 #[.bool false, .slice none 0 0, .slice none 0 0] := br.on hB15
        have HB15 := Lib.hid (HB12.out.trans (hB15.mono HB12.out.size))
        have hz15 := HB15.out.size
        have HST := Lib.hid (show StV w15 w15.heap.size (.agg #[.bool true, .slice A1 (pcs 44 b).length k1, .slice A2 (pcs 44 c).length k2]) (St.mk true (pcs 44 b) (pcs 44 c)) from ⟨A1, k1, A2, k2, rfl, hS1, hS2⟩)
        have HSZ := Lib.hid (show SzSt (St.mk true (pcs 44 b) (pcs 44 c)) from ⟨by have := pcs_len 44 b; have := HA.out.1; simp only; omega, by have := pcs_len 44 c; have := HA.out.2; simp only; omega, fun t ht => by have := pcs_size ht; have := HA.out.1; omega, fun t ht => by have := pcs_size ht; have := HA.out.2; omega⟩)
        clear hS1 hS2 hB15 hs1 hs2 hb1 hb2 H13 H14 q0 q1 q2 hst hgl0 hgl1 hgl2
        have q_br0 : w15.cell? ⟨w.heap.size, 0, none⟩ = some (.bool false) := br.cell 0
        have q_br1 : w15.cell? ⟨w.heap.size, 1, none⟩ = some (.slice none 0 0) := br.cell 1
        have q_br2 : w15.cell? ⟨w.heap.size, 2, none⟩ = some (.slice none 0 0) := br.cell 2
        have q_bG0 : w15.cell? ⟨G, 0, none⟩ = some (.bool true) := bG.cell 0
        have q_bG1 : w15.cell? ⟨G, 1, none⟩ = some (.slice A1 (pcs 44 b).length k1) := bG.cell 1
        have q_bG2 : w15.cell? ⟨G, 2, none⟩ = some (.slice A2 (pcs 44 c).length k2) := bG.cell 2
        go_wp2_with fail
        refine (rCheck_any (St.mk true (pcs 44 b) (pcs 44 c)) _ _ HST.out HSZ.out).mono ?_
        rintro e w16 ⟨rfl, hb⟩
        clear q_br0 q_br1 q_br2 q_bG0 q_bG1 q_bG2
        have br : Blk w16 (w.heap.size) 31 #[.bool false, .slice none 0 0, .slice none 0 0] := (br).on hb
        have bG : Blk w16 (G) 31 #[.bool true, .slice A1 (pcs 44 b).length k1, .slice A2 (pcs 44 c).length k2] := (bG).on hb
        have hbz := hb.size
        have HB16 := Lib.hid ((HB15.out).trans (hb.mono (by first | exact Nat.le_refl _ | omega | (simp; done) | (simp; omega))))
        have hz16 : w.heap.size ≤ w16.heap.size := HB16.out.size
        have HS1 := Lib.hid (HS1.out.on hb)
        have HS2 := Lib.hid (HS2.out.on hb)
        clear hb hbz
        have HPR := Lib.hid (show parS s = stP (St.mk true (pcs 44 b) (pcs 44 c)) by rw [par_c HP1.out (by rw [HX1.out]; rfl), HX1.out])
        rcases ck_cases (St.mk true (pcs 44 b) (pcs 44 c)) with hc | hc | hc
        · have HD := Lib.hid (HPR.out.trans (stP_good hc))
          rw [hc]
          clear hc
          have q_br0 : w16.cell? ⟨w.heap.size, 0, none⟩ = some (.bool false) := br.cell 0
          have q_br1 : w16.cell? ⟨w.heap.size, 1, none⟩ = some (.slice none 0 0) := br.cell 1
          have q_br2 : w16.cell? ⟨w.heap.size, 2, none⟩ = some (.slice none 0 0) := br.cell 2
          have q_bG0 : w16.cell? ⟨G, 0, none⟩ = some (.bool true) := bG.cell 0
          have q_bG1 : w16.cell? ⟨G, 1, none⟩ = some (.slice A1 (pcs 44 b).length k1) := bG.cell 1
          have q_bG2 : w16.cell? ⟨G, 2, none⟩ = some (.slice A2 (pcs 44 c).length k2) := bG.cell 2
          have f_br0 : w16.frozen? ⟨w.heap.size, 0, none⟩ = false := br.frozen 0
          have f_br1 : w16.frozen? ⟨w.heap.size, 1, none⟩ = false := br.frozen 1
          have f_br2 : w16.frozen? ⟨w.heap.size, 2, none⟩ = false := br.frozen 2
          go_wp2_with fail
          exact bodyPost_ret (v := .tuple #[.agg #[.bool true, .slice A1 (pcs 44 b).length k1, .slice A2 (pcs 44 c).length k2], .int .i64 0]) (by simp [results, Tryd.results16, go_sem, q_br0, q_br1, q_br2]) rfl (postP_st HD.out ⟨A1, k1, A2, k2, rfl, by rw [set3_size]; exact set3_str HS1.out (fun ad h => Nat.ne_of_gt (Nat.lt_of_lt_of_le hwl (FR1.out ad h))) _ _ _, by rw [set3_size]; exact set3_str HS2.out (fun ad h => Nat.ne_of_gt (Nat.lt_of_lt_of_le hwl (FR2.out ad h))) _ _ _⟩ (fun h => by cases h) (below_set3 (HB16.out) (Nat.le_refl _) _ _ _))
        · have HD := Lib.hid (HPR.out.trans (stP_bad hc (by decide)))
          rw [hc]
          clear hc
          have q_br0 : w16.cell? ⟨w.heap.size, 0, none⟩ = some (.bool false) := br.cell 0
          have q_br1 : w16.cell? ⟨w.heap.size, 1, none⟩ = some (.slice none 0 0) := br.cell 1
          have q_br2 : w16.cell? ⟨w.heap.size, 2, none⟩ = some (.slice none 0 0) := br.cell 2
          have f_br0 : w16.frozen? ⟨w.heap.size, 0, none⟩ = false := br.frozen 0
          have f_br1 : w16.frozen? ⟨w.heap.size, 1, none⟩ = false := br.frozen 1
          have f_br2 : w16.frozen? ⟨w.heap.size, 2, none⟩ = false := br.frozen 2
          go_wp2_with fail
          exact bodyPost_ret (v := .tuple #[.agg #[.bool false, .slice none 0 0, .slice none 0 0], .int .i64 3]) (by simp [results, Tryd.results16, go_sem, q_br0, q_br1, q_br2]) rfl (postP_zero HD.out (below_set3 (HB16.out) (Nat.le_refl _) _ _ _))
        · have HD := Lib.hid (HPR.out.trans (stP_bad hc (by decide)))
          rw [hc]
          clear hc
          have q_br0 : w16.cell? ⟨w.heap.size, 0, none⟩ = some (.bool false) := br.cell 0
          have q_br1 : w16.cell? ⟨w.heap.size, 1, none⟩ = some (.slice none 0 0) := br.cell 1
          have q_br2 : w16.cell? ⟨w.heap.size, 2, none⟩ = some (.slice none 0 0) := br.cell 2
          have f_br0 : w16.frozen? ⟨w.heap.size, 0, none⟩ = false := br.frozen 0
          have f_br1 : w16.frozen? ⟨w.heap.size, 1, none⟩ = false := br.frozen 1
          have f_br2 : w16.frozen? ⟨w.heap.size, 2, none⟩ = false := br.frozen 2
          go_wp2_with fail
          exact bodyPost_ret (v := .tuple #[.agg #[.bool false, .slice none 0 0, .slice none 0 0], .int .i64 4]) (by simp [results, Tryd.results16, go_sem, q_br0, q_br1, q_br2]) rfl (postP_zero HD.out (below_set3 (HB16.out) (Nat.le_refl _) _ _ _))
      · have hz13 : w12.heap.size < w13.heap.size := by have := hb1.size; simp at this; omega
        have FIN : Blk (((w14.setCell ⟨w12.heap.size, 0, none⟩ (.bool true)).setCell ⟨w12.heap.size, 1, none⟩ (.slice A1 (pcs 44 b).length k1)).setCell ⟨w12.heap.size, 2, none⟩ (.slice A2 (pcs 44 c).length k2)) (w12.heap.size) 31 #[.bool true, .slice A1 (pcs 44 b).length k1, .slice A2 (pcs 44 c).length k2] ∧ Below w12.heap.size w12 (((w14.setCell ⟨w12.heap.size, 0, none⟩ (.bool true)).setCell ⟨w12.heap.size, 1, none⟩ (.slice A1 (pcs 44 b).length k1)).setCell ⟨w12.heap.size, 2, none⟩ (.slice A2 (pcs 44 c).length k2)) ∧ StrL (((w14.setCell ⟨w12.heap.size, 0, none⟩ (.bool true)).setCell ⟨w12.heap.size, 1, none⟩ (.slice A1 (pcs 44 b).length k1)).setCell ⟨w12.heap.size, 2, none⟩ (.slice A2 (pcs 44 c).length k2)) (((w14.setCell ⟨w12.heap.size, 0, none⟩ (.bool true)).setCell ⟨w12.heap.size, 1, none⟩ (.slice A1 (pcs 44 b).length k1)).setCell ⟨w12.heap.size, 2, none⟩ (.slice A2 (pcs 44 c).length k2)).heap.size A1 (pcs 44 b) ∧ StrL (((w14.setCell ⟨w12.heap.size, 0, none⟩ (.bool true)).setCell ⟨w12.heap.size, 1, none⟩ (.slice A1 (pcs 44 b).length k1)).setCell ⟨w12.heap.size, 2, none⟩ (.slice A2 (pcs 44 c).length k2)) (((w14.setCell ⟨w12.heap.size, 0, none⟩ (.bool true)).setCell ⟨w12.heap.size, 1, none⟩ (.slice A1 (pcs 44 b).length k1)).setCell ⟨w12.heap.size, 2, none⟩ (.slice A2 (pcs 44 c).length k2)).heap.size A2 (pcs 44 c) := ⟨Blk.set3 bo _ _ _, below_set3 H14.2 hGG _ _ _, by rw [set3_size]; exact set3_str (hs1.on hb2) (fun ad h => Nat.ne_of_gt (fr1 ad h)) _ _ _, by rw [set3_size]; exact set3_str hs2 (fun ad h => Nat.ne_of_gt (Nat.lt_of_lt_of_le hz13 (fr2 ad h))) _ _ _⟩
        have HG : w12.heap.size ≤ w12.heap.size := Nat.le_refl _
        have FR1 := Lib.hid (show Fresh w12.heap.size A1 from fun ad h => Nat.le_of_lt (fr1 ad h))
        have FR2 := Lib.hid (show Fresh w12.heap.size A2 from fun ad h => Nat.le_trans (Nat.le_of_lt hz13) (fr2 ad h))
        generalize ((w14.setCell ⟨w12.heap.size, 0, none⟩ (.bool true)).setCell ⟨w12.heap.size, 1, none⟩ (.slice A1 (pcs 44 b).length k1)).setCell ⟨w12.heap.size, 2, none⟩ (.slice A2 (pcs 44 c).length k2) = w15 at FIN ⊢
        obtain ⟨G, hG⟩ : ∃ G, w12.heap.size = G := ⟨_, rfl⟩
        rw [hG] at FIN
        have FIN : Blk w15 G 31 #[.bool true, .slice A1 (pcs 44 b).length k1, .slice A2 (pcs 44 c).length k2] ∧ Below w12.heap.size w12 w15 ∧ StrL w15 w15.heap.size A1 (pcs 44 b) ∧ StrL w15 w15.heap.size A2 (pcs 44 c) := by rw [hG]; exact FIN
        try rw [hG]
        clear hG
        obtain ⟨bG, hB15, hS1, hS2⟩ := FIN
        have HS1 := Lib.hid hS1
        have HS2 := Lib.hid hS2
        have br : Blk w15 w.heap.size 31 #[.bool false, .slice none 0 0, .slice none 0 0] := br.on hB15
        have HB15 := Lib.hid (HB12.out.trans (hB15.mono HB12.out.size))
        have hz15 := HB15.out.size
        have HST := Lib.hid (show StV w15 w15.heap.size (.agg #[.bool true, .slice A1 (pcs 44 b).length k1, .slice A2 (pcs 44 c).length k2]) (St.mk true (pcs 44 b) (pcs 44 c)) from ⟨A1, k1, A2, k2, rfl, hS1, hS2⟩)
        have HSZ := Lib.hid (show SzSt (St.mk true (pcs 44 b) (pcs 44 c)) from ⟨by have := pcs_len 44 b; have := HA.out.1; simp only; omega, by have := pcs_len 44 c; have := HA.out.2; simp only; omega, fun t ht => by have := pcs_size ht; have := HA.out.1; omega, fun t ht => by have := pcs_size ht; have := HA.out.2; omega⟩)
        clear hS1 hS2 hB15 hs1 hs2 hb1 hb2 H13 H14 q0 q1 q2 hst hgl0 hgl1 hgl2
        have q_br0 : w15.cell? ⟨w.heap.size, 0, none⟩ = some (.bool false) := br.cell 0
        have q_br1 : w15.cell? ⟨w.heap.size, 1, none⟩ = some (.slice none 0 0) := br.cell 1
        have q_br2 : w15.cell? ⟨w.heap.size, 2, none⟩ = some (.slice none 0 0) := br.cell 2
        have q_bG0 : w15.cell? ⟨G, 0, none⟩ = some (.bool true) := bG.cell 0
        have q_bG1 : w15.cell? ⟨G, 1, none⟩ = some (.slice A1 (pcs 44 b).length k1) := bG.cell 1
        have q_bG2 : w15.cell? ⟨G, 2, none⟩ = some (.slice A2 (pcs 44 c).length k2) := bG.cell 2
        go_wp2_with fail
        refine (rCheck_any (St.mk true (pcs 44 b) (pcs 44 c)) _ _ HST.out HSZ.out).mono ?_
        rintro e w16 ⟨rfl, hb⟩
        clear q_br0 q_br1 q_br2 q_bG0 q_bG1 q_bG2
        have br : Blk w16 (w.heap.size) 31 #[.bool false, .slice none 0 0, .slice none 0 0] := (br).on hb
        have bG : Blk w16 (G) 31 #[.bool true, .slice A1 (pcs 44 b).length k1, .slice A2 (pcs 44 c).length k2] := (bG).on hb
        have hbz := hb.size
        have HB16 := Lib.hid ((HB15.out).trans (hb.mono (by first | exact Nat.le_refl _ | omega | (simp; done) | (simp; omega))))
        have hz16 : w.heap.size ≤ w16.heap.size := HB16.out.size
        have HS1 := Lib.hid (HS1.out.on hb)
        have HS2 := Lib.hid (HS2.out.on hb)
        clear hb hbz
        have HPR := Lib.hid (show parS s = stP (St.mk true (pcs 44 b) (pcs 44 c)) by rw [par_c HP1.out (by rw [HX1.out]; rfl), HX1.out])
        rcases ck_cases (St.mk true (pcs 44 b) (pcs 44 c)) with hc | hc | hc
        · have HD := Lib.hid (HPR.out.trans (stP_good hc))
          rw [hc]
          clear hc
          have q_br0 : w16.cell? ⟨w.heap.size, 0, none⟩ = some (.bool false) := br.cell 0
          have q_br1 : w16.cell? ⟨w.heap.size, 1, none⟩ = some (.slice none 0 0) := br.cell 1
          have q_br2 : w16.cell? ⟨w.heap.size, 2, none⟩ = some (.slice none 0 0) := br.cell 2
          have q_bG0 : w16.cell? ⟨G, 0, none⟩ = some (.bool true) := bG.cell 0
          have q_bG1 : w16.cell? ⟨G, 1, none⟩ = some (.slice A1 (pcs 44 b).length k1) := bG.cell 1
          have q_bG2 : w16.cell? ⟨G, 2, none⟩ = some (.slice A2 (pcs 44 c).length k2) := bG.cell 2
          have f_br0 : w16.frozen? ⟨w.heap.size, 0, none⟩ = false := br.frozen 0
          have f_br1 : w16.frozen? ⟨w.heap.size, 1, none⟩ = false := br.frozen 1
          have f_br2 : w16.frozen? ⟨w.heap.size, 2, none⟩ = false := br.frozen 2
          go_wp2_with fail
          exact bodyPost_ret (v := .tuple #[.agg #[.bool true, .slice A1 (pcs 44 b).length k1, .slice A2 (pcs 44 c).length k2], .int .i64 0]) (by simp [results, Tryd.results16, go_sem, q_br0, q_br1, q_br2]) rfl (postP_st HD.out ⟨A1, k1, A2, k2, rfl, by rw [set3_size]; exact set3_str HS1.out (fun ad h => Nat.ne_of_gt (Nat.lt_of_lt_of_le hwl (FR1.out ad h))) _ _ _, by rw [set3_size]; exact set3_str HS2.out (fun ad h => Nat.ne_of_gt (Nat.lt_of_lt_of_le hwl (FR2.out ad h))) _ _ _⟩ (fun h => by cases h) (below_set3 (HB16.out) (Nat.le_refl _) _ _ _))
        · have HD := Lib.hid (HPR.out.trans (stP_bad hc (by decide)))
          rw [hc]
          clear hc
          have q_br0 : w16.cell? ⟨w.heap.size, 0, none⟩ = some (.bool false) := br.cell 0
          have q_br1 : w16.cell? ⟨w.heap.size, 1, none⟩ = some (.slice none 0 0) := br.cell 1
          have q_br2 : w16.cell? ⟨w.heap.size, 2, none⟩ = some (.slice none 0 0) := br.cell 2
          have f_br0 : w16.frozen? ⟨w.heap.size, 0, none⟩ = false := br.frozen 0
          have f_br1 : w16.frozen? ⟨w.heap.size, 1, none⟩ = false := br.frozen 1
          have f_br2 : w16.frozen? ⟨w.heap.size, 2, none⟩ = false := br.frozen 2
          go_wp2_with fail
          exact bodyPost_ret (v := .tuple #[.agg #[.bool false, .slice none 0 0, .slice none 0 0], .int .i64 3]) (by simp [results, Tryd.results16, go_sem, q_br0, q_br1, q_br2]) rfl (postP_zero HD.out (below_set3 (HB16.out) (Nat.le_refl _) _ _ _))
        · have HD := Lib.hid (HPR.out.trans (stP_bad hc (by decide)))
          rw [hc]
          clear hc
          have q_br0 : w16.cell? ⟨w.heap.size, 0, none⟩ = some (.bool false) := br.cell 0
          have q_br1 : w16.cell? ⟨w.heap.size, 1, none⟩ = some (.slice none 0 0) := br.cell 1
          have q_br2 : w16.cell? ⟨w.heap.size, 2, none⟩ = some (.slice none 0 0) := br.cell 2
          have f_br0 : w16.frozen? ⟨w.heap.size, 0, none⟩ = false := br.frozen 0
          have f_br1 : w16.frozen? ⟨w.heap.size, 1, none⟩ = false := br.frozen 1
          have f_br2 : w16.frozen? ⟨w.heap.size, 2, none⟩ = false := br.frozen 2
          go_wp2_with fail
          exact bodyPost_ret (v := .tuple #[.agg #[.bool false, .slice none 0 0, .slice none 0 0], .int .i64 4]) (by simp [results, Tryd.results16, go_sem, q_br0, q_br1, q_br2]) rfl (postP_zero HD.out (below_set3 (HB16.out) (Nat.le_refl _) _ _ _))
  · have HD := Lib.hid (par_a HP1.out h3)
    have h3' : (L1.length : Int) ≠ 3 := by omega
    have q_br0 : w12.cell? ⟨w.heap.size, 0, none⟩ = some (.bool false) := br.cell 0
    have q_br1 : w12.cell? ⟨w.heap.size, 1, none⟩ = some (.slice none 0 0) := br.cell 1
    have q_br2 : w12.cell? ⟨w.heap.size, 2, none⟩ = some (.slice none 0 0) := br.cell 2
    have f_br0 : w12.frozen? ⟨w.heap.size, 0, none⟩ = false := br.frozen 0
    have f_br1 : w12.frozen? ⟨w.heap.size, 1, none⟩ = false := br.frozen 1
    have f_br2 : w12.frozen? ⟨w.heap.size, 2, none⟩ = false := br.frozen 2
    go_wp2_with fail
    exact bodyPost_ret (v := .tuple #[.agg #[.bool false, .slice none 0 0, .slice none 0 0], .int .i64 1]) (by simp [results, Tryd.results16, go_sem, q_br0, q_br1, q_br2]) rfl (postP_zero HD.out (below_set3 (HB12.out) (Nat.le_refl _) _ _ _))
end Go.Proofs.YtcmlgiilifdnfaaDoor
