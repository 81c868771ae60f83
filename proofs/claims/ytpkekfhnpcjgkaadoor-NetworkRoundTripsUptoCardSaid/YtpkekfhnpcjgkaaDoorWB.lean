/- The walk of Parse. -/
import Derived.Test.YtpkekfhnpcjgkaaDoorT1
namespace Go.Proofs.YtpkekfhnpcjgkaaDoor
open Go.RowKit
open Nw
open Go.Sort (grow)

def ct1 (c : UInt8) (s : ByteArray) : ByteArray := ⟨(Lib.cut s.data.toList [c]).1.toArray⟩
def ct2 (c : UInt8) (s : ByteArray) : ByteArray := ⟨(Lib.cut s.data.toList [c]).2.1.toArray⟩
def ct3 (c : UInt8) (s : ByteArray) : Bool := (Lib.cut s.data.toList [c]).2.2
theorem ct_size (c : UInt8) (s : ByteArray) : (ct1 c s).size ≤ s.size ∧ (ct2 c s).size ≤ s.size := by
  unfold ct1 ct2 Lib.cut
  rw [← size_len, ← size_len, ← size_len]
  split
  · simp only [List.length_take, List.length_drop]; omega
  · simp
theorem Cut_c (c : UInt8) (s : ByteArray) (w : World) (hs : s.size < 4294967281) (hX : LaidS w) :
    Calls Tryd.prog 81 #[.string s, .string ⟨#[c]⟩] w fun e w' => e = .returned (.tuple #[.string (ct1 c s), .string (ct2 c s), .bool (ct3 c s)]) ∧ Below w.heap.size w w' := by
  obtain ⟨m, hm⟩ := hX.mx
  refine (Tryd.strings_Cut s ⟨#[c]⟩ m w hs hm).mono ?_
  rintro e w1 ⟨rfl, n, rfl⟩
  exact ⟨rfl, below_drewN' _ _ _⟩
def isAl (s : ByteArray) : Bool := s.toList == [97, 108, 108, 111, 119]
def okE (a b c d : Int) : Bool := a == 0 && b == 0 && c == 0 && d == 0
theorem run_neq_E (W : World) (a b c d : Int) : (binOp .neq 75 (.agg #[.int .i64 a, .int .i64 b, .int .i64 c, .int .i64 d]) (.agg #[.int .i64 0, .int .i64 0, .int .i64 0, .int .i64 0])).run Tryd.prog W = .ok (.bool (!okE a b c d)) W := run_neq_E4 W a b c d
attribute [go_sem ↓] run_neq_E
/-- The end of Parse: the rule read, if all parts are good and its text is the text. -/
def pnE (al : Bool) (A B C D : Int × Int) (s : ByteArray) : Rule × Int :=
  if okE A.2 B.2 C.2 D.2 = true then (if (fmS ⟨al, A.1, B.1, C.1, D.1⟩).2 = 0 ∧ ((fmS ⟨al, A.1, B.1, C.1, D.1⟩).1.toList == s.toList) = true then (⟨al, A.1, B.1, C.1, D.1⟩, 0) else (⟨false, 0, 0, 0, 0⟩, 1)) else (⟨false, 0, 0, 0, 0⟩, 1)
def pnS (s : ByteArray) : Rule × Int :=
  pnE (isAl (ct1 32 s)) (adS (ct1 47 (ct1 32 (ct2 32 s)))) (parI (ct2 47 (ct1 32 (ct2 32 s))).data.toList) (parI (ct1 45 (ct2 32 (ct2 32 s))).data.toList) (parI (ct2 45 (ct2 32 (ct2 32 s))).data.toList) s
def tupN (x : Rule × Int) : Value := .tuple #[.agg #[.bool x.1.al, .int .i64 x.1.ad, .int .i64 x.1.bi, .int .i64 x.1.lo, .int .i64 x.1.hi], .int .i64 x.2]
theorem ret_tupN {x : Rule × Int} {al : Bool} {ad bi lo hi e : Int} (h : x = (⟨al, ad, bi, lo, hi⟩, e)) : Ending.returned (.tuple #[.agg #[.bool al, .int .i64 ad, .int .i64 bi, .int .i64 lo, .int .i64 hi], .int .i64 e]) = .returned (tupN x) := by subst h; rfl
theorem pn1 {al : Bool} {a b c d ea eb ec ed : Int} {s : ByteArray} (h : okE ea eb ec ed = false) : pnE al (a, ea) (b, eb) (c, ec) (d, ed) s = (⟨false, 0, 0, 0, 0⟩, 1) := by unfold pnE; rw [if_neg (fun hh => by rw [h] at hh; cases hh)]
theorem pn2 {al : Bool} {a b c d ea eb ec ed e : Int} {s t : ByteArray} (hf : fmS ⟨al, a, b, c, d⟩ = (t, e)) (h : e ≠ 0) : pnE al (a, ea) (b, eb) (c, ec) (d, ed) s = (⟨false, 0, 0, 0, 0⟩, 1) := by
  unfold pnE; simp only [hf]; rw [if_neg (fun hh : e = 0 ∧ _ => h hh.1)]; simp
theorem pn3 {al : Bool} {a b c d ea eb ec ed e : Int} {s t : ByteArray} (hf : fmS ⟨al, a, b, c, d⟩ = (t, e)) (h : (t.toList == s.toList) = false) : pnE al (a, ea) (b, eb) (c, ec) (d, ed) s = (⟨false, 0, 0, 0, 0⟩, 1) := by
  unfold pnE; simp only [hf]; rw [if_neg (fun hh : e = 0 ∧ _ => by rw [h] at hh; exact absurd hh.2 (by simp))]; simp
theorem pn4 {al : Bool} {a b c d ea eb ec ed : Int} {s t : ByteArray} (h0 : okE ea eb ec ed = true) (hf : fmS ⟨al, a, b, c, d⟩ = (t, 0)) (h : (t.toList == s.toList) = true) : pnE al (a, ea) (b, eb) (c, ec) (d, ed) s = (⟨al, a, b, c, d⟩, 0) := by
  unfold pnE; rw [if_pos h0, hf, if_pos ⟨rfl, h⟩]
set_option maxHeartbeats 4000000 in
set_option maxRecDepth 100000 in
theorem Parse_n (s : ByteArray) (w : World) (hs : s.size < 4294967281) (hX : LaidS w) :
    Calls Tryd.prog 46 #[.string s] w fun e w' => e = .returned (tupN (pnS s)) ∧ Below w.heap.size w w' := by
  have HX := Lib.hid hX
  have HY := Lib.hid (show pnS s = pnE ((ct1 32 s).toList == [97, 108, 108, 111, 119]) (adS (ct1 47 (ct1 32 (ct2 32 s)))) (parI (ct2 47 (ct1 32 (ct2 32 s))).data.toList) (parI (ct1 45 (ct2 32 (ct2 32 s))).data.toList) (parI (ct2 45 (ct2 32 (ct2 32 s))).data.toList) s from rfl)
  obtain ⟨s1, s2⟩ := ct_size 32 s
  obtain ⟨s3, s4⟩ := ct_size 32 (ct2 32 s)
  obtain ⟨s5, s6⟩ := ct_size 47 (ct1 32 (ct2 32 s))
  obtain ⟨s7, s8⟩ := ct_size 45 (ct2 32 (ct2 32 s))
  have HS := Lib.hid (show s.size < 4294967281 ∧ (ct2 32 s).size < 4294967281 ∧ (ct1 32 (ct2 32 s)).size < 4294967281 ∧ (ct2 32 (ct2 32 s)).size < 4294967281 ∧ (ct1 47 (ct1 32 (ct2 32 s))).size < 4294967281 ∧ (ct2 47 (ct1 32 (ct2 32 s))).size < 4294967281 ∧ (ct1 45 (ct2 32 (ct2 32 s))).size < 4294967281 ∧ (ct2 45 (ct2 32 (ct2 32 s))).size < 4294967281 by omega)
  clear hX hs s1 s2 s3 s4 s5 s6 s7 s8
  go_enter Tryd.func46, Tryd.ntmps46
  go_wp2_with fail
  refine (Cut_c 32 _ _ HS.out.1 (HX.out.below ((Below.refl w.heap.size w).alloc (by first | exact Nat.le_refl _ | omega | (simp; done) | (simp; omega)) _))).mono ?_
  rintro e w1 ⟨rfl, hb⟩
  have br : Blk w1 (w.heap.size) 42 #[.bool false, .int .i64 0, .int .i64 0, .int .i64 0, .int .i64 0] := (Blk.new _ _ _).on hb
  have hbz := hb.size
  have HB1 := Lib.hid (((Below.refl w.heap.size w).alloc (by first | exact Nat.le_refl _ | omega | (simp; done) | (simp; omega)) _).trans (hb.mono (by first | exact Nat.le_refl _ | omega | (simp; done) | (simp; omega))))
  have hz1 : w.heap.size ≤ w1.heap.size := HB1.out.size
  clear hb hbz
  go_wp2_with fail
  refine (Cut_c 32 _ _ HS.out.2.1 (HX.out.below (HB1.out))).mono ?_
  rintro e w2 ⟨rfl, hb⟩
  have br : Blk w2 (w.heap.size) 42 #[.bool false, .int .i64 0, .int .i64 0, .int .i64 0, .int .i64 0] := (br).on hb
  have hbz := hb.size
  have HB2 := Lib.hid ((HB1.out).trans (hb.mono (by first | exact Nat.le_refl _ | omega | (simp; done) | (simp; omega))))
  have hz2 : w.heap.size ≤ w2.heap.size := HB2.out.size
  clear hb hbz
  go_wp2_with fail
  refine (Cut_c 47 _ _ HS.out.2.2.1 (HX.out.below (HB2.out))).mono ?_
  rintro e w3 ⟨rfl, hb⟩
  have br : Blk w3 (w.heap.size) 42 #[.bool false, .int .i64 0, .int .i64 0, .int .i64 0, .int .i64 0] := (br).on hb
  have hbz := hb.size
  have HB3 := Lib.hid ((HB2.out).trans (hb.mono (by first | exact Nat.le_refl _ | omega | (simp; done) | (simp; omega))))
  have hz3 : w.heap.size ≤ w3.heap.size := HB3.out.size
  clear hb hbz
  go_wp2_with fail
  refine (Cut_c 45 _ _ HS.out.2.2.2.1 (HX.out.below (HB3.out))).mono ?_
  rintro e w4 ⟨rfl, hb⟩
  have br : Blk w4 (w.heap.size) 42 #[.bool false, .int .i64 0, .int .i64 0, .int .i64 0, .int .i64 0] := (br).on hb
  have hbz := hb.size
  have HB4 := Lib.hid ((HB3.out).trans (hb.mono (by first | exact Nat.le_refl _ | omega | (simp; done) | (simp; omega))))
  have hz4 : w.heap.size ≤ w4.heap.size := HB4.out.size
  clear hb hbz
  go_wp2_with fail
  generalize hal : ((ct1 32 s).toList == [97, 108, 108, 111, 119]) = al at *
  clear hal
  refine (Address_any _ _ HS.out.2.2.2.2.1 (HX.out.below (((HB4.out).alloc (by first | exact Nat.le_refl _ | omega | (simp; done) | (simp; omega)) _).alloc (by first | exact Nat.le_refl _ | omega | (simp; done) | (simp; omega)) _))).mono ?_
  rintro e w5 ⟨rfl, hb⟩
  have n_br_bq : w.heap.size < w4.heap.size := by have := br.lt; omega
  have n_br_be : w.heap.size < w4.heap.size + 1 := by have := br.lt; omega
  have br : Blk w5 (w.heap.size) 42 #[.bool false, .int .i64 0, .int .i64 0, .int .i64 0, .int .i64 0] := (((br).alloc _).alloc _).on hb
  have bq : Blk w5 (w4.heap.size) 42 #[.bool al, .int .i64 0, .int .i64 0, .int .i64 0, .int .i64 0] := ((Blk.new _ _ _).alloc _).on hb
  have be : Blk w5 (w4.heap.size + 1) 75 #[.int .i64 0, .int .i64 0, .int .i64 0, .int .i64 0] := (Blk.new1 _ _ _ _).on hb
  have hbz := hb.size
  have HB5 := Lib.hid ((((HB4.out).alloc (by first | exact Nat.le_refl _ | omega | (simp; done) | (simp; omega)) _).alloc (by first | exact Nat.le_refl _ | omega | (simp; done) | (simp; omega)) _).trans (hb.mono (by first | exact Nat.le_refl _ | omega | (simp; done) | (simp; omega))))
  have hz5 : w.heap.size ≤ w5.heap.size := HB5.out.size
  clear hb hbz
  simp only [tup2]
  generalize adS (ct1 47 (ct1 32 (ct2 32 s))) = A at *
  obtain ⟨a, ea⟩ := A
  have q_br0 : w5.cell? ⟨w.heap.size, 0, none⟩ = some (.bool false) := br.cell 0
  have q_br1 : w5.cell? ⟨w.heap.size, 1, none⟩ = some (.int .i64 0) := br.cell 1
  have q_br2 : w5.cell? ⟨w.heap.size, 2, none⟩ = some (.int .i64 0) := br.cell 2
  have q_br3 : w5.cell? ⟨w.heap.size, 3, none⟩ = some (.int .i64 0) := br.cell 3
  have q_br4 : w5.cell? ⟨w.heap.size, 4, none⟩ = some (.int .i64 0) := br.cell 4
  have q_bq0 : w5.cell? ⟨w4.heap.size, 0, none⟩ = some (.bool al) := bq.cell 0
  have q_bq1 : w5.cell? ⟨w4.heap.size, 1, none⟩ = some (.int .i64 0) := bq.cell 1
  have q_bq2 : w5.cell? ⟨w4.heap.size, 2, none⟩ = some (.int .i64 0) := bq.cell 2
  have q_bq3 : w5.cell? ⟨w4.heap.size, 3, none⟩ = some (.int .i64 0) := bq.cell 3
  have q_bq4 : w5.cell? ⟨w4.heap.size, 4, none⟩ = some (.int .i64 0) := bq.cell 4
  have q_be0 : w5.cell? ⟨w4.heap.size + 1, 0, none⟩ = some (.int .i64 0) := be.cell 0
  have q_be1 : w5.cell? ⟨w4.heap.size + 1, 1, none⟩ = some (.int .i64 0) := be.cell 1
  have q_be2 : w5.cell? ⟨w4.heap.size + 1, 2, none⟩ = some (.int .i64 0) := be.cell 2
  have q_be3 : w5.cell? ⟨w4.heap.size + 1, 3, none⟩ = some (.int .i64 0) := be.cell 3
  have f_br0 : w5.frozen? ⟨w.heap.size, 0, none⟩ = false := br.frozen 0
  have f_br1 : w5.frozen? ⟨w.heap.size, 1, none⟩ = false := br.frozen 1
  have f_br2 : w5.frozen? ⟨w.heap.size, 2, none⟩ = false := br.frozen 2
  have f_br3 : w5.frozen? ⟨w.heap.size, 3, none⟩ = false := br.frozen 3
  have f_br4 : w5.frozen? ⟨w.heap.size, 4, none⟩ = false := br.frozen 4
  have f_bq0 : w5.frozen? ⟨w4.heap.size, 0, none⟩ = false := bq.frozen 0
  have f_bq1 : w5.frozen? ⟨w4.heap.size, 1, none⟩ = false := bq.frozen 1
  have f_bq2 : w5.frozen? ⟨w4.heap.size, 2, none⟩ = false := bq.frozen 2
  have f_bq3 : w5.frozen? ⟨w4.heap.size, 3, none⟩ = false := bq.frozen 3
  have f_bq4 : w5.frozen? ⟨w4.heap.size, 4, none⟩ = false := bq.frozen 4
  have f_be0 : w5.frozen? ⟨w4.heap.size + 1, 0, none⟩ = false := be.frozen 0
  have f_be1 : w5.frozen? ⟨w4.heap.size + 1, 1, none⟩ = false := be.frozen 1
  have f_be2 : w5.frozen? ⟨w4.heap.size + 1, 2, none⟩ = false := be.frozen 2
  have f_be3 : w5.frozen? ⟨w4.heap.size + 1, 3, none⟩ = false := be.frozen 3
  go_wp2_with fail
  clear q_br0 q_br1 q_br2 q_br3 q_br4 q_bq0 q_bq1 q_bq2 q_bq3 q_bq4 q_be0 q_be1 q_be2 q_be3 f_br0 f_br1 f_br2 f_br3 f_br4 f_bq0 f_bq1 f_bq2 f_bq3 f_bq4 f_be0 f_be1 f_be2 f_be3
  have br : Blk (((w5).setCell ⟨w4.heap.size, 1, none⟩ (.int .i64 a)).setCell ⟨w4.heap.size + 1, 0, none⟩ (.int .i64 ea)) (w.heap.size) 42 #[.bool false, .int .i64 0, .int .i64 0, .int .i64 0, .int .i64 0] := ((br).far (p := ⟨w4.heap.size, 1, none⟩) (by show w.heap.size ≠ w4.heap.size; omega) _).far (p := ⟨w4.heap.size + 1, 0, none⟩) (by show w.heap.size ≠ w4.heap.size + 1; omega) _
  have bq : Blk (((w5).setCell ⟨w4.heap.size, 1, none⟩ (.int .i64 a)).setCell ⟨w4.heap.size + 1, 0, none⟩ (.int .i64 ea)) (w4.heap.size) 42 #[.bool al, .int .i64 a, .int .i64 0, .int .i64 0, .int .i64 0] := ((bq).set_ 1 _).far (p := ⟨w4.heap.size + 1, 0, none⟩) (by show w4.heap.size ≠ w4.heap.size + 1; omega) _
  have be : Blk (((w5).setCell ⟨w4.heap.size, 1, none⟩ (.int .i64 a)).setCell ⟨w4.heap.size + 1, 0, none⟩ (.int .i64 ea)) (w4.heap.size + 1) 75 #[.int .i64 ea, .int .i64 0, .int .i64 0, .int .i64 0] := ((be).far (p := ⟨w4.heap.size, 1, none⟩) (by show w4.heap.size + 1 ≠ w4.heap.size; omega) _).set_ 0 _
  have HB6 := Lib.hid (show Below w.heap.size w (((w5).setCell ⟨w4.heap.size, 1, none⟩ (.int .i64 a)).setCell ⟨w4.heap.size + 1, 0, none⟩ (.int .i64 ea)) from ((HB5.out).setCell (p := ⟨w4.heap.size, 1, none⟩) (by show w.heap.size ≤ w4.heap.size; omega) _).setCell (p := ⟨w4.heap.size + 1, 0, none⟩) (by show w.heap.size ≤ w4.heap.size + 1; omega) _)
  generalize ((w5).setCell ⟨w4.heap.size, 1, none⟩ (.int .i64 a)).setCell ⟨w4.heap.size + 1, 0, none⟩ (.int .i64 ea) = w6 at *
  have hz6 : w.heap.size ≤ w6.heap.size := HB6.out.size
  refine (Parse_any (ct2 47 (ct1 32 (ct2 32 s))) _ (by have := HS.out.2.2.2.2.2.1; omega) (HX.out.below (HB6.out)).laid).mono ?_
  rintro e w7 ⟨rfl, hb⟩
  have br : Blk w7 (w.heap.size) 42 #[.bool false, .int .i64 0, .int .i64 0, .int .i64 0, .int .i64 0] := (br).on hb
  have bq : Blk w7 (w4.heap.size) 42 #[.bool al, .int .i64 a, .int .i64 0, .int .i64 0, .int .i64 0] := (bq).on hb
  have be : Blk w7 (w4.heap.size + 1) 75 #[.int .i64 ea, .int .i64 0, .int .i64 0, .int .i64 0] := (be).on hb
  have hbz := hb.size
  have HB7 := Lib.hid ((HB6.out).trans (hb.mono (by first | exact Nat.le_refl _ | omega | (simp; done) | (simp; omega))))
  have hz7 : w.heap.size ≤ w7.heap.size := HB7.out.size
  clear hb hbz
  simp only [tup2]
  generalize parI (ct2 47 (ct1 32 (ct2 32 s))).data.toList = A at *
  obtain ⟨b, eb⟩ := A
  have q_br0 : w7.cell? ⟨w.heap.size, 0, none⟩ = some (.bool false) := br.cell 0
  have q_br1 : w7.cell? ⟨w.heap.size, 1, none⟩ = some (.int .i64 0) := br.cell 1
  have q_br2 : w7.cell? ⟨w.heap.size, 2, none⟩ = some (.int .i64 0) := br.cell 2
  have q_br3 : w7.cell? ⟨w.heap.size, 3, none⟩ = some (.int .i64 0) := br.cell 3
  have q_br4 : w7.cell? ⟨w.heap.size, 4, none⟩ = some (.int .i64 0) := br.cell 4
  have q_bq0 : w7.cell? ⟨w4.heap.size, 0, none⟩ = some (.bool al) := bq.cell 0
  have q_bq1 : w7.cell? ⟨w4.heap.size, 1, none⟩ = some (.int .i64 a) := bq.cell 1
  have q_bq2 : w7.cell? ⟨w4.heap.size, 2, none⟩ = some (.int .i64 0) := bq.cell 2
  have q_bq3 : w7.cell? ⟨w4.heap.size, 3, none⟩ = some (.int .i64 0) := bq.cell 3
  have q_bq4 : w7.cell? ⟨w4.heap.size, 4, none⟩ = some (.int .i64 0) := bq.cell 4
  have q_be0 : w7.cell? ⟨w4.heap.size + 1, 0, none⟩ = some (.int .i64 ea) := be.cell 0
  have q_be1 : w7.cell? ⟨w4.heap.size + 1, 1, none⟩ = some (.int .i64 0) := be.cell 1
  have q_be2 : w7.cell? ⟨w4.heap.size + 1, 2, none⟩ = some (.int .i64 0) := be.cell 2
  have q_be3 : w7.cell? ⟨w4.heap.size + 1, 3, none⟩ = some (.int .i64 0) := be.cell 3
  have f_br0 : w7.frozen? ⟨w.heap.size, 0, none⟩ = false := br.frozen 0
  have f_br1 : w7.frozen? ⟨w.heap.size, 1, none⟩ = false := br.frozen 1
  have f_br2 : w7.frozen? ⟨w.heap.size, 2, none⟩ = false := br.frozen 2
  have f_br3 : w7.frozen? ⟨w.heap.size, 3, none⟩ = false := br.frozen 3
  have f_br4 : w7.frozen? ⟨w.heap.size, 4, none⟩ = false := br.frozen 4
  have f_bq0 : w7.frozen? ⟨w4.heap.size, 0, none⟩ = false := bq.frozen 0
  have f_bq1 : w7.frozen? ⟨w4.heap.size, 1, none⟩ = false := bq.frozen 1
  have f_bq2 : w7.frozen? ⟨w4.heap.size, 2, none⟩ = false := bq.frozen 2
  have f_bq3 : w7.frozen? ⟨w4.heap.size, 3, none⟩ = false := bq.frozen 3
  have f_bq4 : w7.frozen? ⟨w4.heap.size, 4, none⟩ = false := bq.frozen 4
  have f_be0 : w7.frozen? ⟨w4.heap.size + 1, 0, none⟩ = false := be.frozen 0
  have f_be1 : w7.frozen? ⟨w4.heap.size + 1, 1, none⟩ = false := be.frozen 1
  have f_be2 : w7.frozen? ⟨w4.heap.size + 1, 2, none⟩ = false := be.frozen 2
  have f_be3 : w7.frozen? ⟨w4.heap.size + 1, 3, none⟩ = false := be.frozen 3
  go_wp2_with fail
  clear q_br0 q_br1 q_br2 q_br3 q_br4 q_bq0 q_bq1 q_bq2 q_bq3 q_bq4 q_be0 q_be1 q_be2 q_be3 f_br0 f_br1 f_br2 f_br3 f_br4 f_bq0 f_bq1 f_bq2 f_bq3 f_bq4 f_be0 f_be1 f_be2 f_be3
  have br : Blk (((w7).setCell ⟨w4.heap.size, 2, none⟩ (.int .i64 b)).setCell ⟨w4.heap.size + 1, 1, none⟩ (.int .i64 eb)) (w.heap.size) 42 #[.bool false, .int .i64 0, .int .i64 0, .int .i64 0, .int .i64 0] := ((br).far (p := ⟨w4.heap.size, 2, none⟩) (by show w.heap.size ≠ w4.heap.size; omega) _).far (p := ⟨w4.heap.size + 1, 1, none⟩) (by show w.heap.size ≠ w4.heap.size + 1; omega) _
  have bq : Blk (((w7).setCell ⟨w4.heap.size, 2, none⟩ (.int .i64 b)).setCell ⟨w4.heap.size + 1, 1, none⟩ (.int .i64 eb)) (w4.heap.size) 42 #[.bool al, .int .i64 a, .int .i64 b, .int .i64 0, .int .i64 0] := ((bq).set_ 2 _).far (p := ⟨w4.heap.size + 1, 1, none⟩) (by show w4.heap.size ≠ w4.heap.size + 1; omega) _
  have be : Blk (((w7).setCell ⟨w4.heap.size, 2, none⟩ (.int .i64 b)).setCell ⟨w4.heap.size + 1, 1, none⟩ (.int .i64 eb)) (w4.heap.size + 1) 75 #[.int .i64 ea, .int .i64 eb, .int .i64 0, .int .i64 0] := ((be).far (p := ⟨w4.heap.size, 2, none⟩) (by show w4.heap.size + 1 ≠ w4.heap.size; omega) _).set_ 1 _
  have HB8 := Lib.hid (show Below w.heap.size w (((w7).setCell ⟨w4.heap.size, 2, none⟩ (.int .i64 b)).setCell ⟨w4.heap.size + 1, 1, none⟩ (.int .i64 eb)) from ((HB7.out).setCell (p := ⟨w4.heap.size, 2, none⟩) (by show w.heap.size ≤ w4.heap.size; omega) _).setCell (p := ⟨w4.heap.size + 1, 1, none⟩) (by show w.heap.size ≤ w4.heap.size + 1; omega) _)
  generalize ((w7).setCell ⟨w4.heap.size, 2, none⟩ (.int .i64 b)).setCell ⟨w4.heap.size + 1, 1, none⟩ (.int .i64 eb) = w8 at *
  have hz8 : w.heap.size ≤ w8.heap.size := HB8.out.size
  refine (Parse_any (ct1 45 (ct2 32 (ct2 32 s))) _ (by have := HS.out.2.2.2.2.2.2.1; omega) (HX.out.below (HB8.out)).laid).mono ?_
  rintro e w9 ⟨rfl, hb⟩
  have br : Blk w9 (w.heap.size) 42 #[.bool false, .int .i64 0, .int .i64 0, .int .i64 0, .int .i64 0] := (br).on hb
  have bq : Blk w9 (w4.heap.size) 42 #[.bool al, .int .i64 a, .int .i64 b, .int .i64 0, .int .i64 0] := (bq).on hb
  have be : Blk w9 (w4.heap.size + 1) 75 #[.int .i64 ea, .int .i64 eb, .int .i64 0, .int .i64 0] := (be).on hb
  have hbz := hb.size
  have HB9 := Lib.hid ((HB8.out).trans (hb.mono (by first | exact Nat.le_refl _ | omega | (simp; done) | (simp; omega))))
  have hz9 : w.heap.size ≤ w9.heap.size := HB9.out.size
  clear hb hbz
  simp only [tup2]
  generalize parI (ct1 45 (ct2 32 (ct2 32 s))).data.toList = A at *
  obtain ⟨c, ec⟩ := A
  have q_br0 : w9.cell? ⟨w.heap.size, 0, none⟩ = some (.bool false) := br.cell 0
  have q_br1 : w9.cell? ⟨w.heap.size, 1, none⟩ = some (.int .i64 0) := br.cell 1
  have q_br2 : w9.cell? ⟨w.heap.size, 2, none⟩ = some (.int .i64 0) := br.cell 2
  have q_br3 : w9.cell? ⟨w.heap.size, 3, none⟩ = some (.int .i64 0) := br.cell 3
  have q_br4 : w9.cell? ⟨w.heap.size, 4, none⟩ = some (.int .i64 0) := br.cell 4
  have q_bq0 : w9.cell? ⟨w4.heap.size, 0, none⟩ = some (.bool al) := bq.cell 0
  have q_bq1 : w9.cell? ⟨w4.heap.size, 1, none⟩ = some (.int .i64 a) := bq.cell 1
  have q_bq2 : w9.cell? ⟨w4.heap.size, 2, none⟩ = some (.int .i64 b) := bq.cell 2
  have q_bq3 : w9.cell? ⟨w4.heap.size, 3, none⟩ = some (.int .i64 0) := bq.cell 3
  have q_bq4 : w9.cell? ⟨w4.heap.size, 4, none⟩ = some (.int .i64 0) := bq.cell 4
  have q_be0 : w9.cell? ⟨w4.heap.size + 1, 0, none⟩ = some (.int .i64 ea) := be.cell 0
  have q_be1 : w9.cell? ⟨w4.heap.size + 1, 1, none⟩ = some (.int .i64 eb) := be.cell 1
  have q_be2 : w9.cell? ⟨w4.heap.size + 1, 2, none⟩ = some (.int .i64 0) := be.cell 2
  have q_be3 : w9.cell? ⟨w4.heap.size + 1, 3, none⟩ = some (.int .i64 0) := be.cell 3
  have f_br0 : w9.frozen? ⟨w.heap.size, 0, none⟩ = false := br.frozen 0
  have f_br1 : w9.frozen? ⟨w.heap.size, 1, none⟩ = false := br.frozen 1
  have f_br2 : w9.frozen? ⟨w.heap.size, 2, none⟩ = false := br.frozen 2
  have f_br3 : w9.frozen? ⟨w.heap.size, 3, none⟩ = false := br.frozen 3
  have f_br4 : w9.frozen? ⟨w.heap.size, 4, none⟩ = false := br.frozen 4
  have f_bq0 : w9.frozen? ⟨w4.heap.size, 0, none⟩ = false := bq.frozen 0
  have f_bq1 : w9.frozen? ⟨w4.heap.size, 1, none⟩ = false := bq.frozen 1
  have f_bq2 : w9.frozen? ⟨w4.heap.size, 2, none⟩ = false := bq.frozen 2
  have f_bq3 : w9.frozen? ⟨w4.heap.size, 3, none⟩ = false := bq.frozen 3
  have f_bq4 : w9.frozen? ⟨w4.heap.size, 4, none⟩ = false := bq.frozen 4
  have f_be0 : w9.frozen? ⟨w4.heap.size + 1, 0, none⟩ = false := be.frozen 0
  have f_be1 : w9.frozen? ⟨w4.heap.size + 1, 1, none⟩ = false := be.frozen 1
  have f_be2 : w9.frozen? ⟨w4.heap.size + 1, 2, none⟩ = false := be.frozen 2
  have f_be3 : w9.frozen? ⟨w4.heap.size + 1, 3, none⟩ = false := be.frozen 3
  go_wp2_with fail
  clear q_br0 q_br1 q_br2 q_br3 q_br4 q_bq0 q_bq1 q_bq2 q_bq3 q_bq4 q_be0 q_be1 q_be2 q_be3 f_br0 f_br1 f_br2 f_br3 f_br4 f_bq0 f_bq1 f_bq2 f_bq3 f_bq4 f_be0 f_be1 f_be2 f_be3
  have br : Blk (((w9).setCell ⟨w4.heap.size, 3, none⟩ (.int .i64 c)).setCell ⟨w4.heap.size + 1, 2, none⟩ (.int .i64 ec)) (w.heap.size) 42 #[.bool false, .int .i64 0, .int .i64 0, .int .i64 0, .int .i64 0] := ((br).far (p := ⟨w4.heap.size, 3, none⟩) (by show w.heap.size ≠ w4.heap.size; omega) _).far (p := ⟨w4.heap.size + 1, 2, none⟩) (by show w.heap.size ≠ w4.heap.size + 1; omega) _
  have bq : Blk (((w9).setCell ⟨w4.heap.size, 3, none⟩ (.int .i64 c)).setCell ⟨w4.heap.size + 1, 2, none⟩ (.int .i64 ec)) (w4.heap.size) 42 #[.bool al, .int .i64 a, .int .i64 b, .int .i64 c, .int .i64 0] := ((bq).set_ 3 _).far (p := ⟨w4.heap.size + 1, 2, none⟩) (by show w4.heap.size ≠ w4.heap.size + 1; omega) _
  have be : Blk (((w9).setCell ⟨w4.heap.size, 3, none⟩ (.int .i64 c)).setCell ⟨w4.heap.size + 1, 2, none⟩ (.int .i64 ec)) (w4.heap.size + 1) 75 #[.int .i64 ea, .int .i64 eb, .int .i64 ec, .int .i64 0] := ((be).far (p := ⟨w4.heap.size, 3, none⟩) (by show w4.heap.size + 1 ≠ w4.heap.size; omega) _).set_ 2 _
  have HB10 := Lib.hid (show Below w.heap.size w (((w9).setCell ⟨w4.heap.size, 3, none⟩ (.int .i64 c)).setCell ⟨w4.heap.size + 1, 2, none⟩ (.int .i64 ec)) from ((HB9.out).setCell (p := ⟨w4.heap.size, 3, none⟩) (by show w.heap.size ≤ w4.heap.size; omega) _).setCell (p := ⟨w4.heap.size + 1, 2, none⟩) (by show w.heap.size ≤ w4.heap.size + 1; omega) _)
  generalize ((w9).setCell ⟨w4.heap.size, 3, none⟩ (.int .i64 c)).setCell ⟨w4.heap.size + 1, 2, none⟩ (.int .i64 ec) = w10 at *
  have hz10 : w.heap.size ≤ w10.heap.size := HB10.out.size
  refine (Parse_any (ct2 45 (ct2 32 (ct2 32 s))) _ (by have := HS.out.2.2.2.2.2.2.2; omega) (HX.out.below (HB10.out)).laid).mono ?_
  rintro e w11 ⟨rfl, hb⟩
  have br : Blk w11 (w.heap.size) 42 #[.bool false, .int .i64 0, .int .i64 0, .int .i64 0, .int .i64 0] := (br).on hb
  have bq : Blk w11 (w4.heap.size) 42 #[.bool al, .int .i64 a, .int .i64 b, .int .i64 c, .int .i64 0] := (bq).on hb
  have be : Blk w11 (w4.heap.size + 1) 75 #[.int .i64 ea, .int .i64 eb, .int .i64 ec, .int .i64 0] := (be).on hb
  have hbz := hb.size
  have HB11 := Lib.hid ((HB10.out).trans (hb.mono (by first | exact Nat.le_refl _ | omega | (simp; done) | (simp; omega))))
  have hz11 : w.heap.size ≤ w11.heap.size := HB11.out.size
  clear hb hbz
  simp only [tup2]
  generalize parI (ct2 45 (ct2 32 (ct2 32 s))).data.toList = A at *
  obtain ⟨d, ed⟩ := A
  cases hE : okE ea eb ec ed
  · have HD := Lib.hid (HY.out.trans (pn1 hE))
    have q_br0 : w11.cell? ⟨w.heap.size, 0, none⟩ = some (.bool false) := br.cell 0
    have q_br1 : w11.cell? ⟨w.heap.size, 1, none⟩ = some (.int .i64 0) := br.cell 1
    have q_br2 : w11.cell? ⟨w.heap.size, 2, none⟩ = some (.int .i64 0) := br.cell 2
    have q_br3 : w11.cell? ⟨w.heap.size, 3, none⟩ = some (.int .i64 0) := br.cell 3
    have q_br4 : w11.cell? ⟨w.heap.size, 4, none⟩ = some (.int .i64 0) := br.cell 4
    have q_bq0 : w11.cell? ⟨w4.heap.size, 0, none⟩ = some (.bool al) := bq.cell 0
    have q_bq1 : w11.cell? ⟨w4.heap.size, 1, none⟩ = some (.int .i64 a) := bq.cell 1
    have q_bq2 : w11.cell? ⟨w4.heap.size, 2, none⟩ = some (.int .i64 b) := bq.cell 2
    have q_bq3 : w11.cell? ⟨w4.heap.size, 3, none⟩ = some (.int .i64 c) := bq.cell 3
    have q_bq4 : w11.cell? ⟨w4.heap.size, 4, none⟩ = some (.int .i64 0) := bq.cell 4
    have q_be0 : w11.cell? ⟨w4.heap.size + 1, 0, none⟩ = some (.int .i64 ea) := be.cell 0
    have q_be1 : w11.cell? ⟨w4.heap.size + 1, 1, none⟩ = some (.int .i64 eb) := be.cell 1
    have q_be2 : w11.cell? ⟨w4.heap.size + 1, 2, none⟩ = some (.int .i64 ec) := be.cell 2
    have q_be3 : w11.cell? ⟨w4.heap.size + 1, 3, none⟩ = some (.int .i64 0) := be.cell 3
    have f_br0 : w11.frozen? ⟨w.heap.size, 0, none⟩ = false := br.frozen 0
    have f_br1 : w11.frozen? ⟨w.heap.size, 1, none⟩ = false := br.frozen 1
    have f_br2 : w11.frozen? ⟨w.heap.size, 2, none⟩ = false := br.frozen 2
    have f_br3 : w11.frozen? ⟨w.heap.size, 3, none⟩ = false := br.frozen 3
    have f_br4 : w11.frozen? ⟨w.heap.size, 4, none⟩ = false := br.frozen 4
    have f_bq0 : w11.frozen? ⟨w4.heap.size, 0, none⟩ = false := bq.frozen 0
    have f_bq1 : w11.frozen? ⟨w4.heap.size, 1, none⟩ = false := bq.frozen 1
    have f_bq2 : w11.frozen? ⟨w4.heap.size, 2, none⟩ = false := bq.frozen 2
    have f_bq3 : w11.frozen? ⟨w4.heap.size, 3, none⟩ = false := bq.frozen 3
    have f_bq4 : w11.frozen? ⟨w4.heap.size, 4, none⟩ = false := bq.frozen 4
    have f_be0 : w11.frozen? ⟨w4.heap.size + 1, 0, none⟩ = false := be.frozen 0
    have f_be1 : w11.frozen? ⟨w4.heap.size + 1, 1, none⟩ = false := be.frozen 1
    have f_be2 : w11.frozen? ⟨w4.heap.size + 1, 2, none⟩ = false := be.frozen 2
    have f_be3 : w11.frozen? ⟨w4.heap.size + 1, 3, none⟩ = false := be.frozen 3
    go_wp2_with fail
    exact bodyPost_ret (v := .tuple #[.agg #[.bool false, .int .i64 0, .int .i64 0, .int .i64 0, .int .i64 0], .int .i64 1]) (by simp [results, Tryd.results46, go_sem, q_br0, q_br1, q_br2, q_br3, q_br4]) rfl ⟨ret_tupN HD.out, (((((((HB11.out).setCell (p := ⟨w4.heap.size, 4, none⟩) (by show w.heap.size ≤ w4.heap.size; omega) _).setCell (p := ⟨w4.heap.size + 1, 3, none⟩) (by show w.heap.size ≤ w4.heap.size + 1; omega) _).setCell (p := ⟨w.heap.size, 0, none⟩) (Nat.le_refl _) _).setCell (p := ⟨w.heap.size, 1, none⟩) (Nat.le_refl _) _).setCell (p := ⟨w.heap.size, 2, none⟩) (Nat.le_refl _) _).setCell (p := ⟨w.heap.size, 3, none⟩) (Nat.le_refl _) _).setCell (p := ⟨w.heap.size, 4, none⟩) (Nat.le_refl _) _⟩
  · skip
    have q_br0 : w11.cell? ⟨w.heap.size, 0, none⟩ = some (.bool false) := br.cell 0
    have q_br1 : w11.cell? ⟨w.heap.size, 1, none⟩ = some (.int .i64 0) := br.cell 1
    have q_br2 : w11.cell? ⟨w.heap.size, 2, none⟩ = some (.int .i64 0) := br.cell 2
    have q_br3 : w11.cell? ⟨w.heap.size, 3, none⟩ = some (.int .i64 0) := br.cell 3
    have q_br4 : w11.cell? ⟨w.heap.size, 4, none⟩ = some (.int .i64 0) := br.cell 4
    have q_bq0 : w11.cell? ⟨w4.heap.size, 0, none⟩ = some (.bool al) := bq.cell 0
    have q_bq1 : w11.cell? ⟨w4.heap.size, 1, none⟩ = some (.int .i64 a) := bq.cell 1
    have q_bq2 : w11.cell? ⟨w4.heap.size, 2, none⟩ = some (.int .i64 b) := bq.cell 2
    have q_bq3 : w11.cell? ⟨w4.heap.size, 3, none⟩ = some (.int .i64 c) := bq.cell 3
    have q_bq4 : w11.cell? ⟨w4.heap.size, 4, none⟩ = some (.int .i64 0) := bq.cell 4
    have q_be0 : w11.cell? ⟨w4.heap.size + 1, 0, none⟩ = some (.int .i64 ea) := be.cell 0
    have q_be1 : w11.cell? ⟨w4.heap.size + 1, 1, none⟩ = some (.int .i64 eb) := be.cell 1
    have q_be2 : w11.cell? ⟨w4.heap.size + 1, 2, none⟩ = some (.int .i64 ec) := be.cell 2
    have q_be3 : w11.cell? ⟨w4.heap.size + 1, 3, none⟩ = some (.int .i64 0) := be.cell 3
    have f_br0 : w11.frozen? ⟨w.heap.size, 0, none⟩ = false := br.frozen 0
    have f_br1 : w11.frozen? ⟨w.heap.size, 1, none⟩ = false := br.frozen 1
    have f_br2 : w11.frozen? ⟨w.heap.size, 2, none⟩ = false := br.frozen 2
    have f_br3 : w11.frozen? ⟨w.heap.size, 3, none⟩ = false := br.frozen 3
    have f_br4 : w11.frozen? ⟨w.heap.size, 4, none⟩ = false := br.frozen 4
    have f_bq0 : w11.frozen? ⟨w4.heap.size, 0, none⟩ = false := bq.frozen 0
    have f_bq1 : w11.frozen? ⟨w4.heap.size, 1, none⟩ = false := bq.frozen 1
    have f_bq2 : w11.frozen? ⟨w4.heap.size, 2, none⟩ = false := bq.frozen 2
    have f_bq3 : w11.frozen? ⟨w4.heap.size, 3, none⟩ = false := bq.frozen 3
    have f_bq4 : w11.frozen? ⟨w4.heap.size, 4, none⟩ = false := bq.frozen 4
    have f_be0 : w11.frozen? ⟨w4.heap.size + 1, 0, none⟩ = false := be.frozen 0
    have f_be1 : w11.frozen? ⟨w4.heap.size + 1, 1, none⟩ = false := be.frozen 1
    have f_be2 : w11.frozen? ⟨w4.heap.size + 1, 2, none⟩ = false := be.frozen 2
    have f_be3 : w11.frozen? ⟨w4.heap.size + 1, 3, none⟩ = false := be.frozen 3
    go_wp2_with fail
    clear q_br0 q_br1 q_br2 q_br3 q_br4 q_bq0 q_bq1 q_bq2 q_bq3 q_bq4 q_be0 q_be1 q_be2 q_be3 f_br0 f_br1 f_br2 f_br3 f_br4 f_bq0 f_bq1 f_bq2 f_bq3 f_bq4 f_be0 f_be1 f_be2 f_be3
    have br : Blk (((w11).setCell ⟨w4.heap.size, 4, none⟩ (.int .i64 d)).setCell ⟨w4.heap.size + 1, 3, none⟩ (.int .i64 ed)) (w.heap.size) 42 #[.bool false, .int .i64 0, .int .i64 0, .int .i64 0, .int .i64 0] := ((br).far (p := ⟨w4.heap.size, 4, none⟩) (by show w.heap.size ≠ w4.heap.size; omega) _).far (p := ⟨w4.heap.size + 1, 3, none⟩) (by show w.heap.size ≠ w4.heap.size + 1; omega) _
    have bq : Blk (((w11).setCell ⟨w4.heap.size, 4, none⟩ (.int .i64 d)).setCell ⟨w4.heap.size + 1, 3, none⟩ (.int .i64 ed)) (w4.heap.size) 42 #[.bool al, .int .i64 a, .int .i64 b, .int .i64 c, .int .i64 d] := ((bq).set_ 4 _).far (p := ⟨w4.heap.size + 1, 3, none⟩) (by show w4.heap.size ≠ w4.heap.size + 1; omega) _
    have be : Blk (((w11).setCell ⟨w4.heap.size, 4, none⟩ (.int .i64 d)).setCell ⟨w4.heap.size + 1, 3, none⟩ (.int .i64 ed)) (w4.heap.size + 1) 75 #[.int .i64 ea, .int .i64 eb, .int .i64 ec, .int .i64 ed] := ((be).far (p := ⟨w4.heap.size, 4, none⟩) (by show w4.heap.size + 1 ≠ w4.heap.size; omega) _).set_ 3 _
    have HB12 := Lib.hid (show Below w.heap.size w (((w11).setCell ⟨w4.heap.size, 4, none⟩ (.int .i64 d)).setCell ⟨w4.heap.size + 1, 3, none⟩ (.int .i64 ed)) from ((HB11.out).setCell (p := ⟨w4.heap.size, 4, none⟩) (by show w.heap.size ≤ w4.heap.size; omega) _).setCell (p := ⟨w4.heap.size + 1, 3, none⟩) (by show w.heap.size ≤ w4.heap.size + 1; omega) _)
    generalize ((w11).setCell ⟨w4.heap.size, 4, none⟩ (.int .i64 d)).setCell ⟨w4.heap.size + 1, 3, none⟩ (.int .i64 ed) = w12 at *
    have hz12 : w.heap.size ≤ w12.heap.size := HB12.out.size
    refine (Format_n _ _ _ _ _ _ (HX.out.below (HB12.out)).laid).mono ?_
    rintro e w13 ⟨rfl, hb⟩
    have br : Blk w13 (w.heap.size) 42 #[.bool false, .int .i64 0, .int .i64 0, .int .i64 0, .int .i64 0] := (br).on hb
    have bq : Blk w13 (w4.heap.size) 42 #[.bool al, .int .i64 a, .int .i64 b, .int .i64 c, .int .i64 d] := (bq).on hb
    have be : Blk w13 (w4.heap.size + 1) 75 #[.int .i64 ea, .int .i64 eb, .int .i64 ec, .int .i64 ed] := (be).on hb
    have hbz := hb.size
    have HB13 := Lib.hid ((HB12.out).trans (hb.mono (by first | exact Nat.le_refl _ | omega | (simp; done) | (simp; omega))))
    have hz13 : w.heap.size ≤ w13.heap.size := HB13.out.size
    clear hb hbz
    simp only [tup2s]
    generalize hf : fmS ⟨al, a, b, c, d⟩ = F at *
    obtain ⟨t, e⟩ := F
    have HF := Lib.hid hf
    have HE := Lib.hid hE
    clear hf hE
    have q_br0 : w13.cell? ⟨w.heap.size, 0, none⟩ = some (.bool false) := br.cell 0
    have q_br1 : w13.cell? ⟨w.heap.size, 1, none⟩ = some (.int .i64 0) := br.cell 1
    have q_br2 : w13.cell? ⟨w.heap.size, 2, none⟩ = some (.int .i64 0) := br.cell 2
    have q_br3 : w13.cell? ⟨w.heap.size, 3, none⟩ = some (.int .i64 0) := br.cell 3
    have q_br4 : w13.cell? ⟨w.heap.size, 4, none⟩ = some (.int .i64 0) := br.cell 4
    have q_bq0 : w13.cell? ⟨w4.heap.size, 0, none⟩ = some (.bool al) := bq.cell 0
    have q_bq1 : w13.cell? ⟨w4.heap.size, 1, none⟩ = some (.int .i64 a) := bq.cell 1
    have q_bq2 : w13.cell? ⟨w4.heap.size, 2, none⟩ = some (.int .i64 b) := bq.cell 2
    have q_bq3 : w13.cell? ⟨w4.heap.size, 3, none⟩ = some (.int .i64 c) := bq.cell 3
    have q_bq4 : w13.cell? ⟨w4.heap.size, 4, none⟩ = some (.int .i64 d) := bq.cell 4
    have q_be0 : w13.cell? ⟨w4.heap.size + 1, 0, none⟩ = some (.int .i64 ea) := be.cell 0
    have q_be1 : w13.cell? ⟨w4.heap.size + 1, 1, none⟩ = some (.int .i64 eb) := be.cell 1
    have q_be2 : w13.cell? ⟨w4.heap.size + 1, 2, none⟩ = some (.int .i64 ec) := be.cell 2
    have q_be3 : w13.cell? ⟨w4.heap.size + 1, 3, none⟩ = some (.int .i64 ed) := be.cell 3
    have f_br0 : w13.frozen? ⟨w.heap.size, 0, none⟩ = false := br.frozen 0
    have f_br1 : w13.frozen? ⟨w.heap.size, 1, none⟩ = false := br.frozen 1
    have f_br2 : w13.frozen? ⟨w.heap.size, 2, none⟩ = false := br.frozen 2
    have f_br3 : w13.frozen? ⟨w.heap.size, 3, none⟩ = false := br.frozen 3
    have f_br4 : w13.frozen? ⟨w.heap.size, 4, none⟩ = false := br.frozen 4
    have f_bq0 : w13.frozen? ⟨w4.heap.size, 0, none⟩ = false := bq.frozen 0
    have f_bq1 : w13.frozen? ⟨w4.heap.size, 1, none⟩ = false := bq.frozen 1
    have f_bq2 : w13.frozen? ⟨w4.heap.size, 2, none⟩ = false := bq.frozen 2
    have f_bq3 : w13.frozen? ⟨w4.heap.size, 3, none⟩ = false := bq.frozen 3
    have f_bq4 : w13.frozen? ⟨w4.heap.size, 4, none⟩ = false := bq.frozen 4
    have f_be0 : w13.frozen? ⟨w4.heap.size + 1, 0, none⟩ = false := be.frozen 0
    have f_be1 : w13.frozen? ⟨w4.heap.size + 1, 1, none⟩ = false := be.frozen 1
    have f_be2 : w13.frozen? ⟨w4.heap.size + 1, 2, none⟩ = false := be.frozen 2
    have f_be3 : w13.frozen? ⟨w4.heap.size + 1, 3, none⟩ = false := be.frozen 3
    by_cases he : e = 0
    · have heb : (e != 0) = false := by rw [he]; rfl
      cases hq : (t.toList == s.toList)
      · have HD := Lib.hid (HY.out.trans (pn3 HF.out hq))
        clear he
        go_wp2_with fail
        exact bodyPost_ret (v := .tuple #[.agg #[.bool false, .int .i64 0, .int .i64 0, .int .i64 0, .int .i64 0], .int .i64 1]) (by simp [results, Tryd.results46, go_sem, q_br0, q_br1, q_br2, q_br3, q_br4]) rfl ⟨ret_tupN HD.out, (((((HB13.out).setCell (p := ⟨w.heap.size, 0, none⟩) (Nat.le_refl _) _).setCell (p := ⟨w.heap.size, 1, none⟩) (Nat.le_refl _) _).setCell (p := ⟨w.heap.size, 2, none⟩) (Nat.le_refl _) _).setCell (p := ⟨w.heap.size, 3, none⟩) (Nat.le_refl _) _).setCell (p := ⟨w.heap.size, 4, none⟩) (Nat.le_refl _) _⟩
      · have HD := Lib.hid (HY.out.trans (pn4 HE.out (HF.out.trans (by rw [he])) hq))
        clear he
        go_wp2_with fail
        exact bodyPost_ret (v := .tuple #[.agg #[.bool al, .int .i64 a, .int .i64 b, .int .i64 c, .int .i64 d], .int .i64 0]) (by simp [results, Tryd.results46, go_sem, q_br0, q_br1, q_br2, q_br3, q_br4]) rfl ⟨ret_tupN HD.out, (((((HB13.out).setCell (p := ⟨w.heap.size, 0, none⟩) (Nat.le_refl _) _).setCell (p := ⟨w.heap.size, 1, none⟩) (Nat.le_refl _) _).setCell (p := ⟨w.heap.size, 2, none⟩) (Nat.le_refl _) _).setCell (p := ⟨w.heap.size, 3, none⟩) (Nat.le_refl _) _).setCell (p := ⟨w.heap.size, 4, none⟩) (Nat.le_refl _) _⟩
    · have heb : (e != 0) = true := bne_iff_ne.2 he
      have HD := Lib.hid (HY.out.trans (pn2 HF.out he))
      clear he
      go_wp2_with fail
      exact bodyPost_ret (v := .tuple #[.agg #[.bool false, .int .i64 0, .int .i64 0, .int .i64 0, .int .i64 0], .int .i64 1]) (by simp [results, Tryd.results46, go_sem, q_br0, q_br1, q_br2, q_br3, q_br4]) rfl ⟨ret_tupN HD.out, (((((HB13.out).setCell (p := ⟨w.heap.size, 0, none⟩) (Nat.le_refl _) _).setCell (p := ⟨w.heap.size, 1, none⟩) (Nat.le_refl _) _).setCell (p := ⟨w.heap.size, 2, none⟩) (Nat.le_refl _) _).setCell (p := ⟨w.heap.size, 3, none⟩) (Nat.le_refl _) _).setCell (p := ⟨w.heap.size, 4, none⟩) (Nat.le_refl _) _⟩
end Go.Proofs.YtpkekfhnpcjgkaaDoor
