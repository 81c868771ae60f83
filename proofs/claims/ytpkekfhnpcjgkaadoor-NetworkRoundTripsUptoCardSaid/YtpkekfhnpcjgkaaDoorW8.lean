/- The walks of Text and its reference. -/
import Derived.Test.YtpkekfhnpcjgkaaDoorW2
import Derived.Test.YtpkekfhnpcjgkaaDoorJ
namespace Go.Proofs.YtpkekfhnpcjgkaaDoor
open Go.RowKit
open Nw
open Go.Sort (grow)

def itB (n : Int) : ByteArray := ⟨(Lib.itoa n).toArray⟩
/-- The first k parts of an address. -/
def txP (n : Int) : Nat → ByteArray
  | 0 => ⟨#[]⟩
  | 1 => itB (n / 16777216)
  | 2 => itB (n / 16777216) ++ ⟨#[46]⟩ ++ itB (n / 65536 % 256)
  | 3 => itB (n / 16777216) ++ ⟨#[46]⟩ ++ itB (n / 65536 % 256) ++ ⟨#[46]⟩ ++ itB (n / 256 % 256)
  | _ => itB (n / 16777216) ++ ⟨#[46]⟩ ++ itB (n / 65536 % 256) ++ ⟨#[46]⟩ ++ itB (n / 256 % 256) ++ ⟨#[46]⟩ ++ itB (n % 256)
theorem itB_size {n : Int} (h0 : -9000000000000000000 ≤ n) (h1 : n ≤ 9000000000000000000) : (itB n).size ≤ 21 := by
  have := Lib.itoa_length_le n (by omega) (by omega)
  unfold itB
  rw [← size_len]
  simpa using this
theorem dot_size : (⟨#[46]⟩ : ByteArray).size = 1 := rfl
theorem txP_size {n : Int} (h0 : 0 ≤ n) (h1 : n ≤ 4294967295) (k : Nat) : (txP n k).size ≤ 100 := by
  have a := itB_size (n := n / 16777216) (by omega) (by omega)
  have b := itB_size (n := n / 65536 % 256) (by omega) (by omega)
  have c := itB_size (n := n / 256 % 256) (by omega) (by omega)
  have d := itB_size (n := n % 256) (by omega) (by omega)
  unfold txP
  split
  · decide
  all_goals (try simp only [ByteArray.size_append, dot_size])
  all_goals omega
theorem Format_it (n : Int) (w : World) (h0 : -9000000000000000000 ≤ n) (h1 : n ≤ 9000000000000000000) (hX : LaidW w) :
    Calls Tryd.prog 74 #[.int .i64 n] w fun e w' => e = .returned (.string (itB n)) ∧ Below w.heap.size w w' :=
  Format_any n (by omega) (by omega) w hX.tab
theorem rFormat_it (n : Int) (w : World) (h0 : -9000000000000000000 ≤ n) (h1 : n ≤ 9000000000000000000) :
    Calls Tryd.prog 75 #[.int .i64 n] w fun e w' => e = .returned (.string (itB n)) ∧ Below w.heap.size w w' :=
  rFormat_any n w (by omega) (by omega)
def tup2s (x : ByteArray × Int) : Value := .tuple #[.string x.1, .int .i64 x.2]
def txS (n : Int) : ByteArray × Int := if 0 ≤ n ∧ n ≤ 4294967295 then (txP n 4, 0) else (⟨#[]⟩, 2)
theorem txS_no {n : Int} (h : ¬ (0 ≤ n ∧ n ≤ 4294967295)) : txS n = (⟨#[]⟩, 2) := if_neg h
theorem txS_yes {n : Int} (h : 0 ≤ n ∧ n ≤ 4294967295) : txS n = (txP n 4, 0) := if_pos h
theorem ret_tup2s {x : ByteArray × Int} {a : ByteArray} {b : Int} (h : x = (a, b)) : Ending.returned (.tuple #[.string a, .int .i64 b]) = .returned (tup2s x) := by subst h; rfl
theorem and_255 {a : Int} (h0 : 0 ≤ a) (h1 : a ≤ 4294967295) : bits .and .i64 a 255 = a % 256 := by
  have := and_mod (b := 24) h0 h1
  rw [show sz 24 = 256 by decide] at this
  exact this
theorem run_arr4_0 (a b c d : Int) (w : World) : (Instr.index 72 (.agg #[.int .i64 a, .int .i64 b, .int .i64 c, .int .i64 d]) (.int .i64 0)).run Tryd.prog w = .ok (.int .i64 a) w := by
  simp [Instr.index, asIntOf, run_underlying Tryd.underlying72, part, Tryd.sizeOf3, Tryd.isAgg3, go_sem]
theorem run_arr4_1 (a b c d : Int) (w : World) : (Instr.index 72 (.agg #[.int .i64 a, .int .i64 b, .int .i64 c, .int .i64 d]) (.int .i64 1)).run Tryd.prog w = .ok (.int .i64 b) w := by
  simp [Instr.index, asIntOf, run_underlying Tryd.underlying72, part, Tryd.sizeOf3, Tryd.isAgg3, go_sem]
theorem run_arr4_2 (a b c d : Int) (w : World) : (Instr.index 72 (.agg #[.int .i64 a, .int .i64 b, .int .i64 c, .int .i64 d]) (.int .i64 2)).run Tryd.prog w = .ok (.int .i64 c) w := by
  simp [Instr.index, asIntOf, run_underlying Tryd.underlying72, part, Tryd.sizeOf3, Tryd.isAgg3, go_sem]
theorem run_arr4_3 (a b c d : Int) (w : World) : (Instr.index 72 (.agg #[.int .i64 a, .int .i64 b, .int .i64 c, .int .i64 d]) (.int .i64 3)).run Tryd.prog w = .ok (.int .i64 d) w := by
  simp [Instr.index, asIntOf, run_underlying Tryd.underlying72, part, Tryd.sizeOf3, Tryd.isAgg3, go_sem]
attribute [local go_sem] run_arr4_0
attribute [local go_sem] run_arr4_1
attribute [local go_sem] run_arr4_2
attribute [local go_sem] run_arr4_3
set_option maxHeartbeats 2000000 in
set_option maxRecDepth 20000 in
theorem Text_any (n : Int) (w : World) (hX : LaidW w) :
    Calls Tryd.prog 44 #[.int .i64 n] w fun e w' => e = .returned (tup2s (txS n)) ∧ Below w.heap.size w w' := by
  have HX := Lib.hid hX
  clear hX
  by_cases g : 0 ≤ n ∧ n ≤ 4294967295
  · have HD := Lib.hid (txS_yes g)
    have gi := inB_yes g
    have GA := Lib.hid g
    clear g
    go_enter Tryd.func44, Tryd.ntmps44
    go_wp2_with fail
    refine (in_any _ _ _ _).mono ?_
    rintro e wq ⟨rfl, rfl⟩
    rw [gi]
    go_wp2_with fail
    go_loopw [4, 11] (fun s i wr => ((s = .string (txP n 0) ∧ i = .int .i64 0) ∨ (s = .string (txP n 1) ∧ i = .int .i64 1) ∨ (s = .string (txP n 2) ∧ i = .int .i64 2) ∨ (s = .string (txP n 3) ∧ i = .int .i64 3) ∨ (s = .string (txP n 4) ∧ i = .int .i64 4)) ∧ Below w.heap.size w wr) (fun _ i _ => 4 - (intOf i).toNat)
    case atStart => exact ⟨.inl ⟨rfl, rfl⟩, Below.refl _ _⟩
    case round =>
      obtain ⟨hc, hb⟩ := hrel
      have HB := Lib.hid hb
      clear hb
      rcases hc with ⟨rfl, rfl⟩ | ⟨rfl, rfl⟩ | ⟨rfl, rfl⟩ | ⟨rfl, rfl⟩ | ⟨rfl, rfl⟩
      · have hsz := txP_size GA.out.1 GA.out.2 0
        generalize hs0 : txP n 0 = s0 at *
        have HS0 := Lib.hid hs0
        clear hs0
        go_wp2_with fail
        rw [show bits .and .i64 (n / 16777216) 255 = n / 16777216 from by have := GA.out; rw [and_255 (by omega) (by omega)]; omega]
        have hiz := itB_size (n := n / 16777216) (by have := GA.out; omega) (by have := GA.out; omega)
        refine (Format_it (n / 16777216) _ (by have := GA.out; omega) (by have := GA.out; omega) (HX.out.below HB.out)).mono ?_
        rintro e w1 ⟨rfl, hb⟩
        generalize hi0 : itB (n / 16777216) = t0 at *
        have HI0 := Lib.hid hi0
        clear hi0
        have hz := HB.out.size
        have HB1 := Lib.hid (HB.out.trans (hb.mono hz))
        clear hb hz
        go_wp2_with fail
        go_roundw
        case rel => refine ⟨.inr (.inl ⟨?_, rfl⟩), HB1.out⟩; rw [← HS0.out, ← HI0.out]; rfl
        case measure => simp [intOf]
      · have hsz := txP_size GA.out.1 GA.out.2 1
        generalize hs0 : txP n 1 = s0 at *
        have HS0 := Lib.hid hs0
        clear hs0
        go_wp2_with fail
        rw [show bits .and .i64 (n / 65536) 255 = n / 65536 % 256 from by have := GA.out; rw [and_255 (by omega) (by omega)]]
        have hiz := itB_size (n := n / 65536 % 256) (by have := GA.out; omega) (by have := GA.out; omega)
        refine (Format_it (n / 65536 % 256) _ (by have := GA.out; omega) (by have := GA.out; omega) (HX.out.below HB.out)).mono ?_
        rintro e w1 ⟨rfl, hb⟩
        generalize hi0 : itB (n / 65536 % 256) = t0 at *
        have HI0 := Lib.hid hi0
        clear hi0
        have hz := HB.out.size
        have HB1 := Lib.hid (HB.out.trans (hb.mono hz))
        clear hb hz
        go_wp2_with fail
        go_roundw
        case rel => refine ⟨.inr (.inr (.inl ⟨?_, rfl⟩)), HB1.out⟩; rw [← HS0.out, ← HI0.out]; rfl
        case measure => simp [intOf]
      · have hsz := txP_size GA.out.1 GA.out.2 2
        generalize hs0 : txP n 2 = s0 at *
        have HS0 := Lib.hid hs0
        clear hs0
        go_wp2_with fail
        rw [show bits .and .i64 (n / 256) 255 = n / 256 % 256 from by have := GA.out; rw [and_255 (by omega) (by omega)]]
        have hiz := itB_size (n := n / 256 % 256) (by have := GA.out; omega) (by have := GA.out; omega)
        refine (Format_it (n / 256 % 256) _ (by have := GA.out; omega) (by have := GA.out; omega) (HX.out.below HB.out)).mono ?_
        rintro e w1 ⟨rfl, hb⟩
        generalize hi0 : itB (n / 256 % 256) = t0 at *
        have HI0 := Lib.hid hi0
        clear hi0
        have hz := HB.out.size
        have HB1 := Lib.hid (HB.out.trans (hb.mono hz))
        clear hb hz
        go_wp2_with fail
        go_roundw
        case rel => refine ⟨.inr (.inr (.inr (.inl ⟨?_, rfl⟩))), HB1.out⟩; rw [← HS0.out, ← HI0.out]; rfl
        case measure => simp [intOf]
      · have hsz := txP_size GA.out.1 GA.out.2 3
        generalize hs0 : txP n 3 = s0 at *
        have HS0 := Lib.hid hs0
        clear hs0
        go_wp2_with fail
        rw [show bits .and .i64 (n) 255 = n % 256 from by have := GA.out; rw [and_255 (by omega) (by omega)]]
        have hiz := itB_size (n := n % 256) (by have := GA.out; omega) (by have := GA.out; omega)
        refine (Format_it (n % 256) _ (by have := GA.out; omega) (by have := GA.out; omega) (HX.out.below HB.out)).mono ?_
        rintro e w1 ⟨rfl, hb⟩
        generalize hi0 : itB (n % 256) = t0 at *
        have HI0 := Lib.hid hi0
        clear hi0
        have hz := HB.out.size
        have HB1 := Lib.hid (HB.out.trans (hb.mono hz))
        clear hb hz
        go_wp2_with fail
        go_roundw
        case rel => refine ⟨.inr (.inr (.inr (.inr (⟨?_, rfl⟩)))), HB1.out⟩; rw [← HS0.out, ← HI0.out]; rfl
        case measure => simp [intOf]
      · go_wp2_with fail
        go_ret2
        exact ⟨ret_tup2s HD.out, HB.out⟩
  · have HD := Lib.hid (txS_no g)
    have gi := inB_no g
    clear g
    go_enter Tryd.func44, Tryd.ntmps44
    go_wp2_with fail
    refine (in_any _ _ _ _).mono ?_
    rintro e wq ⟨rfl, rfl⟩
    rw [gi]
    go_wp2_with fail
    go_ret2
    exact ⟨ret_tup2s HD.out, Below.refl _ _⟩
theorem tx_parts {n : Int} (g : 0 ≤ n ∧ n ≤ 4294967295) : ∃ x0 x1 x2 x3 y1 y2 : Int, n.tdiv 16777216 = x0 ∧ n.tdiv 65536 = y1 ∧ y1.tmod 256 = x1 ∧ n.tdiv 256 = y2 ∧ y2.tmod 256 = x2 ∧ n.tmod 256 = x3 ∧ 0 ≤ y1 ∧ y1 ≤ 70000 ∧ 0 ≤ y2 ∧ y2 ≤ 17000000 ∧
    txS n = (itB x0 ++ ⟨#[46]⟩ ++ itB x1 ++ ⟨#[46]⟩ ++ itB x2 ++ ⟨#[46]⟩ ++ itB x3, 0) ∧ 0 ≤ x0 ∧ x0 ≤ 255 ∧ 0 ≤ x1 ∧ x1 ≤ 255 ∧ 0 ≤ x2 ∧ x2 ≤ 255 ∧ 0 ≤ x3 ∧ x3 ≤ 255 := by
  refine ⟨n / 16777216, n / 65536 % 256, n / 256 % 256, n % 256, n / 65536, n / 256, Int.tdiv_eq_ediv_of_nonneg g.1, Int.tdiv_eq_ediv_of_nonneg g.1, Int.tmod_eq_emod_of_nonneg (by omega), Int.tdiv_eq_ediv_of_nonneg g.1, Int.tmod_eq_emod_of_nonneg (by omega), Int.tmod_eq_emod_of_nonneg g.1, by omega, by omega, by omega, by omega, txS_yes g, ?_⟩
  omega
set_option maxHeartbeats 2000000 in
set_option maxRecDepth 20000 in
theorem rText_any (n : Int) (w : World) :
    Calls Tryd.prog 45 #[.int .i64 n] w fun e w' => e = .returned (tup2s (txS n)) ∧ Below w.heap.size w w' := by
  by_cases g : 0 ≤ n ∧ n ≤ 4294967295
  · obtain ⟨x0, x1, x2, x3, y1, y2, t1, t2, t3, t4, t5, t6, hy1, hy1', hy2, hy2', HD, hx⟩ := tx_parts g
    obtain ⟨hx0, hx0', hx1, hx1', hx2, hx2', hx3, hx3'⟩ := hx
    have HD := Lib.hid HD
    have gi := inB_yes g
    have GA := Lib.hid g
    clear g
    go_enter Tryd.func45, Tryd.ntmps45
    go_wp2_with fail
    refine (address_any _ _).mono ?_
    rintro e wq ⟨rfl, rfl⟩
    rw [gi]
    go_wp2_with fail
    have z0 := itB_size (n := x0) (by omega) (by omega)
    skip
    refine (rFormat_it x0 _ (by omega) (by omega)).mono ?_
    rintro e w1 ⟨rfl, hb⟩
    have hz := (Below.refl w.heap.size w).size
    have HB0 := Lib.hid ((Below.refl w.heap.size w).trans (hb.mono hz))
    clear hb hz
    go_wp2_with fail
    have z1 := itB_size (n := x1) (by omega) (by omega)
    skip
    refine (rFormat_it x1 _ (by omega) (by omega)).mono ?_
    rintro e w2 ⟨rfl, hb⟩
    have hz := (HB0.out).size
    have HB1 := Lib.hid ((HB0.out).trans (hb.mono hz))
    clear hb hz
    go_wp2_with fail
    have z2 := itB_size (n := x2) (by omega) (by omega)
    skip
    refine (rFormat_it x2 _ (by omega) (by omega)).mono ?_
    rintro e w3 ⟨rfl, hb⟩
    have hz := (HB1.out).size
    have HB2 := Lib.hid ((HB1.out).trans (hb.mono hz))
    clear hb hz
    go_wp2_with fail
    have z3 := itB_size (n := x3) (by omega) (by omega)
    skip
    refine (rFormat_it x3 _ (by omega) (by omega)).mono ?_
    rintro e w4 ⟨rfl, hb⟩
    have hz := (HB2.out).size
    have HB3 := Lib.hid ((HB2.out).trans (hb.mono hz))
    clear hb hz
    go_wp2_with fail
    go_ret2
    exact ⟨ret_tup2s HD.out, HB3.out⟩
  · have HD := Lib.hid (txS_no g)
    have gi := inB_no g
    clear g
    go_enter Tryd.func45, Tryd.ntmps45
    go_wp2_with fail
    refine (address_any _ _).mono ?_
    rintro e wq ⟨rfl, rfl⟩
    rw [gi]
    go_wp2_with fail
    go_ret2
    exact ⟨ret_tup2s HD.out, Below.refl _ _⟩
end Go.Proofs.YtpkekfhnpcjgkaaDoor
