/- The walks of NetworkTexts and NetworkRoundTrips. -/
import Derived.Test.YtpkekfhnpcjgkaaDoorX3
import Derived.Test.YtpkekfhnpcjgkaaDoorWD
namespace Go.Proofs.YtpkekfhnpcjgkaaDoor
open Go.RowKit
open Nw
open Go.Sort (grow)

theorem neN_self (al : Bool) (a b c d : Int) : neN al a b c d al a b c d = false := by simp [neN]
set_option maxHeartbeats 8000000 in
set_option maxRecDepth 100000 in
theorem law_texts (al : Bool) (ad bi lo hi n : Int) (s : ByteArray) (w : World) (hX : LaidS w) (hs : s.size ≤ 1048576) :
    Calls Tryd.prog 9 #[.agg #[.bool al, .int .i64 ad, .int .i64 bi, .int .i64 lo, .int .i64 hi], .int .i64 n, .string s] w fun e w' => e = .returned (.bool true) ∧ Below w.heap.size w w' := by
  have HX := Lib.hid hX
  have Hs := Lib.hid hs
  clear hX hs
  go_enter Tryd.func9, Tryd.ntmps9
  go_wp2_with fail
  refine (Format_n _ _ _ _ _ _ (HX.out.below ((Below.refl w.heap.size w).alloc (by first | exact Nat.le_refl _ | omega | (simp; done) | (simp; omega)) _)).laid).mono ?_
  rintro e w1 ⟨rfl, hb⟩
  have bx : Blk w1 (w.heap.size) 42 #[.bool al, .int .i64 ad, .int .i64 bi, .int .i64 lo, .int .i64 hi] := (Blk.new _ _ _).on hb
  have hbz := hb.size
  have HB1 := Lib.hid (((Below.refl w.heap.size w).alloc (by first | exact Nat.le_refl _ | omega | (simp; done) | (simp; omega)) _).trans (hb.mono (by first | exact Nat.le_refl _ | omega | (simp; done) | (simp; omega))))
  have hz1 : w.heap.size ≤ w1.heap.size := HB1.out.size
  clear hb hbz
  have q_bx0 : w1.cell? ⟨w.heap.size, 0, none⟩ = some (.bool al) := bx.cell 0
  have q_bx1 : w1.cell? ⟨w.heap.size, 1, none⟩ = some (.int .i64 ad) := bx.cell 1
  have q_bx2 : w1.cell? ⟨w.heap.size, 2, none⟩ = some (.int .i64 bi) := bx.cell 2
  have q_bx3 : w1.cell? ⟨w.heap.size, 3, none⟩ = some (.int .i64 lo) := bx.cell 3
  have q_bx4 : w1.cell? ⟨w.heap.size, 4, none⟩ = some (.int .i64 hi) := bx.cell 4
  simp only [tup2s]
  generalize hf : fmS ⟨al, ad, bi, lo, hi⟩ = F at *
  obtain ⟨ft, fe⟩ := F
  have HF := Lib.hid hf
  clear hf
  go_wp2_with fail
  refine (rFormat_n _ _ _ _ _ _).mono ?_
  rintro e w2 ⟨rfl, hb⟩
  clear q_bx0 q_bx1 q_bx2 q_bx3 q_bx4
  have bx : Blk w2 (w.heap.size) 42 #[.bool al, .int .i64 ad, .int .i64 bi, .int .i64 lo, .int .i64 hi] := (bx).on hb
  have hbz := hb.size
  have HB2 := Lib.hid ((HB1.out).trans (hb.mono (by first | exact Nat.le_refl _ | omega | (simp; done) | (simp; omega))))
  have hz2 : w.heap.size ≤ w2.heap.size := HB2.out.size
  clear hb hbz
  rw [HF.out]
  simp only [tup2s]
  go_wp2_with fail
  have r_bx0 := fun d os => cell_regrown (v := .bool al) (bx.cell 0) d os
  have r_bx1 := fun d os => cell_regrown (v := .int .i64 ad) (bx.cell 1) d os
  have r_bx2 := fun d os => cell_regrown (v := .int .i64 bi) (bx.cell 2) d os
  have r_bx3 := fun d os => cell_regrown (v := .int .i64 lo) (bx.cell 3) d os
  have r_bx4 := fun d os => cell_regrown (v := .int .i64 hi) (bx.cell 4) d os
  refine wp_region_quiet_below (by kernel_rfl) (by kernel_rfl) ?_
  repeat (go_big_quiet_step (first | (go_at_call 42; go_must (exact Check_at _ _ _ _ _ _ _ _)) | (go_at_call 43; go_must (exact rCheck_at _ _ _ _ _ _ _ _))))
  refine wpQuiet_nil ?_
  intro _ hw'
  obtain ⟨⟨dq, osq⟩, hw''⟩ := hw'
  subst hw''
  have hb := below_regrown w2 dq osq
  have bx : Blk (Go.Sort.grow (redrawn w2 dq) osq) (w.heap.size) 42 #[.bool al, .int .i64 ad, .int .i64 bi, .int .i64 lo, .int .i64 hi] := bx.on hb
  have HB3 := Lib.hid ((HB2.out).trans (hb.mono (by first | exact Nat.le_refl _ | omega | (simp; done) | (simp; omega))))
  clear hb r_bx0 r_bx1 r_bx2 r_bx3 r_bx4
  generalize Go.Sort.grow (redrawn w2 dq) osq = w3 at *
  have hz3 : w.heap.size ≤ w3.heap.size := HB3.out.size
  go_wp2_with fail
  refine (Text_any n _ (HX.out.below (HB3.out)).laid).mono ?_
  rintro e w4 ⟨rfl, hb⟩
  have bx : Blk w4 (w.heap.size) 42 #[.bool al, .int .i64 ad, .int .i64 bi, .int .i64 lo, .int .i64 hi] := (bx).on hb
  have hbz := hb.size
  have HB4 := Lib.hid ((HB3.out).trans (hb.mono (by first | exact Nat.le_refl _ | omega | (simp; done) | (simp; omega))))
  have hz4 : w.heap.size ≤ w4.heap.size := HB4.out.size
  clear hb hbz
  simp only [tup2s]
  generalize hx : txS n = F at *
  obtain ⟨xt, xe⟩ := F
  have HT := Lib.hid hx
  clear hx
  go_wp2_with fail
  refine (rText_any n _).mono ?_
  rintro e w5 ⟨rfl, hb⟩
  have bx : Blk w5 (w.heap.size) 42 #[.bool al, .int .i64 ad, .int .i64 bi, .int .i64 lo, .int .i64 hi] := (bx).on hb
  have hbz := hb.size
  have HB5 := Lib.hid ((HB4.out).trans (hb.mono (by first | exact Nat.le_refl _ | omega | (simp; done) | (simp; omega))))
  have hz5 : w.heap.size ≤ w5.heap.size := HB5.out.size
  clear hb hbz
  rw [HT.out]
  simp only [tup2s]
  go_wp2_with fail
  refine (Parse_n s _ (by have := Hs.out; omega) (HX.out.below (HB5.out))).mono ?_
  rintro e w6 ⟨rfl, hb⟩
  have bx : Blk w6 (w.heap.size) 42 #[.bool al, .int .i64 ad, .int .i64 bi, .int .i64 lo, .int .i64 hi] := (bx).on hb
  have hbz := hb.size
  have HB6 := Lib.hid ((HB5.out).trans (hb.mono (by first | exact Nat.le_refl _ | omega | (simp; done) | (simp; omega))))
  have hz6 : w.heap.size ≤ w6.heap.size := HB6.out.size
  clear hb hbz
  generalize hp : pnS s = F at *
  have HP := Lib.hid hp
  clear hp
  obtain ⟨⟨al2, ad2, bi2, lo2, hi2⟩, pe⟩ := F
  simp only [tupN]
  go_wp2_with fail
  refine (rParse_n s _ Hs.out).mono ?_
  rintro e w7 ⟨rfl, hb⟩
  have n_bx_bp : w.heap.size < w6.heap.size := by have := bx.lt; omega
  have bx : Blk w7 (w.heap.size) 42 #[.bool al, .int .i64 ad, .int .i64 bi, .int .i64 lo, .int .i64 hi] := ((bx).alloc _).on hb
  have bp : Blk w7 (w6.heap.size) 42 #[.bool al2, .int .i64 ad2, .int .i64 bi2, .int .i64 lo2, .int .i64 hi2] := (Blk.new _ _ _).on hb
  have hbz := hb.size
  have HB7 := Lib.hid (((HB6.out).alloc (by first | exact Nat.le_refl _ | omega | (simp; done) | (simp; omega)) _).trans (hb.mono (by first | exact Nat.le_refl _ | omega | (simp; done) | (simp; omega))))
  have hz7 : w.heap.size ≤ w7.heap.size := HB7.out.size
  clear hb hbz
  rw [pn_eq, HP.out]
  simp only [tupN]
  have hne := neN_self al2 ad2 bi2 lo2 hi2
  have q_bp0 : w7.cell? ⟨w6.heap.size, 0, none⟩ = some (.bool al2) := bp.cell 0
  have q_bp1 : w7.cell? ⟨w6.heap.size, 1, none⟩ = some (.int .i64 ad2) := bp.cell 1
  have q_bp2 : w7.cell? ⟨w6.heap.size, 2, none⟩ = some (.int .i64 bi2) := bp.cell 2
  have q_bp3 : w7.cell? ⟨w6.heap.size, 3, none⟩ = some (.int .i64 lo2) := bp.cell 3
  have q_bp4 : w7.cell? ⟨w6.heap.size, 4, none⟩ = some (.int .i64 hi2) := bp.cell 4
  have l_bp : w6.heap.size < w7.heap.size := bp.lt
  go_wp2_with fail
  refine (Address_any s _ (by have := Hs.out; omega) (HX.out.below ((HB7.out).alloc (by first | exact Nat.le_refl _ | omega | (simp; done) | (simp; omega)) _))).mono ?_
  rintro e w8 ⟨rfl, hb⟩
  have n_bx_bq : w.heap.size < w7.heap.size := by have := bx.lt; omega
  have n_bp_bq : w6.heap.size < w7.heap.size := by have := bp.lt; omega
  clear q_bp0 q_bp1 q_bp2 q_bp3 q_bp4 l_bp
  have bx : Blk w8 (w.heap.size) 42 #[.bool al, .int .i64 ad, .int .i64 bi, .int .i64 lo, .int .i64 hi] := ((bx).alloc _).on hb
  have bp : Blk w8 (w6.heap.size) 42 #[.bool al2, .int .i64 ad2, .int .i64 bi2, .int .i64 lo2, .int .i64 hi2] := ((bp).alloc _).on hb
  have bq : Blk w8 (w7.heap.size) 42 #[.bool al2, .int .i64 ad2, .int .i64 bi2, .int .i64 lo2, .int .i64 hi2] := (Blk.new _ _ _).on hb
  have hbz := hb.size
  have HB8 := Lib.hid (((HB7.out).alloc (by first | exact Nat.le_refl _ | omega | (simp; done) | (simp; omega)) _).trans (hb.mono (by first | exact Nat.le_refl _ | omega | (simp; done) | (simp; omega))))
  have hz8 : w.heap.size ≤ w8.heap.size := HB8.out.size
  clear hb hbz
  simp only [tup2]
  generalize ha : adS s = F at *
  obtain ⟨m, me⟩ := F
  have HA := Lib.hid ha
  clear ha
  go_wp2_with fail
  refine (rAddress_any s _ Hs.out).mono ?_
  rintro e w9 ⟨rfl, hb⟩
  have bx : Blk w9 (w.heap.size) 42 #[.bool al, .int .i64 ad, .int .i64 bi, .int .i64 lo, .int .i64 hi] := (bx).on hb
  have bp : Blk w9 (w6.heap.size) 42 #[.bool al2, .int .i64 ad2, .int .i64 bi2, .int .i64 lo2, .int .i64 hi2] := (bp).on hb
  have bq : Blk w9 (w7.heap.size) 42 #[.bool al2, .int .i64 ad2, .int .i64 bi2, .int .i64 lo2, .int .i64 hi2] := (bq).on hb
  have hbz := hb.size
  have HB9 := Lib.hid ((HB8.out).trans (hb.mono (by first | exact Nat.le_refl _ | omega | (simp; done) | (simp; omega))))
  have hz9 : w.heap.size ≤ w9.heap.size := HB9.out.size
  clear hb hbz
  rw [HA.out]
  simp only [tup2]
  go_wp2_with fail
  refine (awake_any _ (HX.out.below (HB9.out))).mono ?_
  rintro e w10 ⟨rfl, hb⟩
  have bx : Blk w10 (w.heap.size) 42 #[.bool al, .int .i64 ad, .int .i64 bi, .int .i64 lo, .int .i64 hi] := (bx).on hb
  have bp : Blk w10 (w6.heap.size) 42 #[.bool al2, .int .i64 ad2, .int .i64 bi2, .int .i64 lo2, .int .i64 hi2] := (bp).on hb
  have bq : Blk w10 (w7.heap.size) 42 #[.bool al2, .int .i64 ad2, .int .i64 bi2, .int .i64 lo2, .int .i64 hi2] := (bq).on hb
  have hbz := hb.size
  have HB10 := Lib.hid ((HB9.out).trans (hb.mono (by first | exact Nat.le_refl _ | omega | (simp; done) | (simp; omega))))
  have hz10 : w.heap.size ≤ w10.heap.size := HB10.out.size
  clear hb hbz
  go_wp2_with fail
  go_ret
  exact ⟨rfl, HB10.out⟩

theorem tx_cases (n : Int) : (txS n = (txP n 4, 0) ∧ 0 ≤ n ∧ n ≤ 4294967295) ∨ txS n = (⟨#[]⟩, 2) := by
  by_cases h : 0 ≤ n ∧ n ≤ 4294967295
  · exact .inl ⟨txS_yes h, h⟩
  · exact .inr (txS_no h)
theorem fm_cases (r : Rule) : fmS r = (fmP r, 0) ∨ (∃ e : Int, e ≠ 0 ∧ fmS r = (⟨#[]⟩, e)) := by
  by_cases h : r.ck = 0
  · exact .inl (fmS_yes h)
  · exact .inr ⟨r.ck, h, fmS_no h⟩
theorem ad_cases (s : ByteArray) : (∃ m : Int, adS s = (m, 0) ∧ txS m = (s, 0)) ∨ (∃ m e : Int, e ≠ 0 ∧ adS s = (m, e)) := by
  rcases h : adS s with ⟨m, e⟩
  by_cases he : e = 0
  · subst he; exact .inl ⟨m, rfl, ad_ok h⟩
  · exact .inr ⟨m, e, he, rfl⟩
theorem pn_cases (s : ByteArray) : (∃ (al : Bool) (a b c d : Int), pnS s = (⟨al, a, b, c, d⟩, 0) ∧ fmS ⟨al, a, b, c, d⟩ = (s, 0)) ∨ (∃ (al : Bool) (a b c d e : Int), e ≠ 0 ∧ pnS s = (⟨al, a, b, c, d⟩, e)) := by
  rcases h : pnS s with ⟨⟨al, a, b, c, d⟩, e⟩
  by_cases he : e = 0
  · subst he; exact .inl ⟨al, a, b, c, d, rfl, pn_ok h⟩
  · exact .inr ⟨al, a, b, c, d, e, he, rfl⟩
theorem fmP_size {r : Rule} (h : r.ck = 0) : (fmP r).size ≤ 1000 := by
  obtain ⟨h1, h2, h3, h4, h5, h6, h7, h8⟩ := ck_rng9 h
  have e : fmP r = wordB r.al ++ txP r.ad 4 ++ ⟨#[47]⟩ ++ itB r.bi ++ ⟨#[32]⟩ ++ itB r.lo ++ ⟨#[45]⟩ ++ itB r.hi := rfl
  have a := txP_size h1 h2 4
  have b := itB_size (n := r.bi) (by omega) (by omega)
  have c := itB_size (n := r.lo) (by omega) (by omega)
  have d := itB_size (n := r.hi) (by omega) (by omega)
  have g : (wordB r.al).size ≤ 6 := by cases r.al <;> decide
  have g1 : (⟨#[47]⟩ : ByteArray).size = 1 := rfl
  have g2 : (⟨#[32]⟩ : ByteArray).size = 1 := rfl
  have g3 : (⟨#[45]⟩ : ByteArray).size = 1 := rfl
  rw [e]
  simp only [ByteArray.size_append, g1, g2, g3]
  omega
set_option maxHeartbeats 40000000 in
set_option maxRecDepth 100000 in
theorem law_round (al : Bool) (ad bi lo hi n : Int) (s : ByteArray) (w : World) (hX : LaidS w) (hs : s.size ≤ 1048576) :
    Calls Tryd.prog 14 #[.agg #[.bool al, .int .i64 ad, .int .i64 bi, .int .i64 lo, .int .i64 hi], .int .i64 n, .string s] w fun e w' => e = .returned (.bool true) ∧ Below w.heap.size w w' := by
  have HX := Lib.hid hX
  have Hs := Lib.hid hs
  have HNE := Lib.hid neN_self
  clear hX hs
  go_enter Tryd.func14, Tryd.ntmps14
  go_wp2_with fail
  refine (Text_any n _ (HX.out.below ((Below.refl w.heap.size w).alloc (by first | exact Nat.le_refl _ | omega | (simp; done) | (simp; omega)) _)).laid).mono ?_
  rintro e w1 ⟨rfl, hb⟩
  have bx : Blk w1 (w.heap.size) 42 #[.bool al, .int .i64 ad, .int .i64 bi, .int .i64 lo, .int .i64 hi] := (Blk.new _ _ _).on hb
  have hbz := hb.size
  have HB1 := Lib.hid (((Below.refl w.heap.size w).alloc (by first | exact Nat.le_refl _ | omega | (simp; done) | (simp; omega)) _).trans (hb.mono (by first | exact Nat.le_refl _ | omega | (simp; done) | (simp; omega))))
  have hz1 : w.heap.size ≤ w1.heap.size := HB1.out.size
  clear hb hbz
  rcases tx_cases n with ⟨ht, hn⟩ | ht
  case' inl =>
    rw [ht]
    clear ht
    simp only [tup2s]
    have HN := Lib.hid hn
    clear hn
    go_wp2_with fail
    refine (Address_any (txP n 4) _ (by have := txP_size HN.out.1 HN.out.2 4; omega) (HX.out.below (HB1.out))).mono ?_
    rintro e w2 ⟨rfl, hb⟩
    have bx : Blk w2 (w.heap.size) 42 #[.bool al, .int .i64 ad, .int .i64 bi, .int .i64 lo, .int .i64 hi] := (bx).on hb
    have hbz := hb.size
    have HB2 := Lib.hid ((HB1.out).trans (hb.mono (by first | exact Nat.le_refl _ | omega | (simp; done) | (simp; omega))))
    have hz2 : w.heap.size ≤ w2.heap.size := HB2.out.size
    clear hb hbz
    rw [ad_tx HN.out]
    clear HN
    simp only [tup2]
    have HB10 := HB2
    have hz10 := hz2
    generalize w2 = w10 at *
  case' inr =>
    rw [ht]
    clear ht
    simp only [tup2s]
    have HB10 := HB1
    have hz10 := hz1
    generalize w1 = w10 at *
  all_goals
    have q_bx0 : w10.cell? ⟨w.heap.size, 0, none⟩ = some (.bool al) := bx.cell 0
    have q_bx1 : w10.cell? ⟨w.heap.size, 1, none⟩ = some (.int .i64 ad) := bx.cell 1
    have q_bx2 : w10.cell? ⟨w.heap.size, 2, none⟩ = some (.int .i64 bi) := bx.cell 2
    have q_bx3 : w10.cell? ⟨w.heap.size, 3, none⟩ = some (.int .i64 lo) := bx.cell 3
    have q_bx4 : w10.cell? ⟨w.heap.size, 4, none⟩ = some (.int .i64 hi) := bx.cell 4
    go_wp2_with fail
    refine (Format_n _ _ _ _ _ _ (HX.out.below (HB10.out)).laid).mono ?_
    rintro e w11 ⟨rfl, hb⟩
    clear q_bx0 q_bx1 q_bx2 q_bx3 q_bx4
    have bx : Blk w11 (w.heap.size) 42 #[.bool al, .int .i64 ad, .int .i64 bi, .int .i64 lo, .int .i64 hi] := (bx).on hb
    have hbz := hb.size
    have HB11 := Lib.hid ((HB10.out).trans (hb.mono (by first | exact Nat.le_refl _ | omega | (simp; done) | (simp; omega))))
    have hz11 : w.heap.size ≤ w11.heap.size := HB11.out.size
    clear hb hbz
    rcases fm_cases ⟨al, ad, bi, lo, hi⟩ with ht | ⟨e2, he, ht⟩
    case' inl =>
      have HF := Lib.hid ht
      rw [ht]
      clear ht
      simp only [tup2s]
      go_wp2_with fail
      refine (Parse_n (fmP ⟨al, ad, bi, lo, hi⟩) _ (by have := fmP_size (fm_ck HF.out).1; omega) (HX.out.below (HB11.out))).mono ?_
      rintro e w12 ⟨rfl, hb⟩
      have bx : Blk w12 (w.heap.size) 42 #[.bool al, .int .i64 ad, .int .i64 bi, .int .i64 lo, .int .i64 hi] := (bx).on hb
      have hbz := hb.size
      have HB12 := Lib.hid ((HB11.out).trans (hb.mono (by first | exact Nat.le_refl _ | omega | (simp; done) | (simp; omega))))
      have hz12 : w.heap.size ≤ w12.heap.size := HB12.out.size
      clear hb hbz
      rw [pn_fm HF.out]
      clear HF
      simp only [tupN]
      have hne := HNE.out al ad bi lo hi
      have q_bx0 : w12.cell? ⟨w.heap.size, 0, none⟩ = some (.bool al) := bx.cell 0
      have q_bx1 : w12.cell? ⟨w.heap.size, 1, none⟩ = some (.int .i64 ad) := bx.cell 1
      have q_bx2 : w12.cell? ⟨w.heap.size, 2, none⟩ = some (.int .i64 bi) := bx.cell 2
      have q_bx3 : w12.cell? ⟨w.heap.size, 3, none⟩ = some (.int .i64 lo) := bx.cell 3
      have q_bx4 : w12.cell? ⟨w.heap.size, 4, none⟩ = some (.int .i64 hi) := bx.cell 4
      have l_bx : w.heap.size < w12.heap.size := bx.lt
      go_wp2_with fail
      have n_bx_bp : w.heap.size < w12.heap.size := by have := bx.lt; omega
      clear q_bx0 q_bx1 q_bx2 q_bx3 q_bx4 l_bx
      have bx : Blk ((w12).alloc (.cells #[.bool al, .int .i64 ad, .int .i64 bi, .int .i64 lo, .int .i64 hi] 42)) (w.heap.size) 42 #[.bool al, .int .i64 ad, .int .i64 bi, .int .i64 lo, .int .i64 hi] := (bx).alloc _
      have bp : Blk ((w12).alloc (.cells #[.bool al, .int .i64 ad, .int .i64 bi, .int .i64 lo, .int .i64 hi] 42)) (w12.heap.size) 42 #[.bool al, .int .i64 ad, .int .i64 bi, .int .i64 lo, .int .i64 hi] := Blk.new _ _ _
      have HB13 := Lib.hid (show Below w.heap.size w ((w12).alloc (.cells #[.bool al, .int .i64 ad, .int .i64 bi, .int .i64 lo, .int .i64 hi] 42)) from (HB12.out).alloc (by first | exact Nat.le_refl _ | omega | (simp; done) | (simp; omega)) _)
      generalize (w12).alloc (.cells #[.bool al, .int .i64 ad, .int .i64 bi, .int .i64 lo, .int .i64 hi] 42) = w13 at *
      have hz13 : w.heap.size ≤ w13.heap.size := HB13.out.size
      clear hne
      clear bp
      have HB20 := HB13
      have hz20 := hz13
      generalize w13 = w20 at *
    case' inr =>
      rw [ht]
      clear ht
      simp only [tup2s]
      have heb : (e2 == 0) = false := beq_eq_false_iff_ne.2 he
      clear he
      have HB20 := HB11
      have hz20 := hz11
      generalize w11 = w20 at *
  all_goals
    go_wp2_with fail
    refine (Address_any s _ (by have := Hs.out; omega) (HX.out.below (HB20.out))).mono ?_
    rintro e w21 ⟨rfl, hb⟩
    have bx : Blk w21 (w.heap.size) 42 #[.bool al, .int .i64 ad, .int .i64 bi, .int .i64 lo, .int .i64 hi] := (bx).on hb
    have hbz := hb.size
    have HB21 := Lib.hid ((HB20.out).trans (hb.mono (by first | exact Nat.le_refl _ | omega | (simp; done) | (simp; omega))))
    have hz21 : w.heap.size ≤ w21.heap.size := HB21.out.size
    clear hb hbz
    rcases ad_cases s with ⟨m, ht, hm⟩ | ⟨m, e3, he, ht⟩
    case' inl =>
      rw [ht]
      clear ht
      simp only [tup2]
      have HM := Lib.hid hm
      clear hm
      go_wp2_with fail
      refine (Text_any m _ (HX.out.below (HB21.out)).laid).mono ?_
      rintro e w22 ⟨rfl, hb⟩
      have bx : Blk w22 (w.heap.size) 42 #[.bool al, .int .i64 ad, .int .i64 bi, .int .i64 lo, .int .i64 hi] := (bx).on hb
      have hbz := hb.size
      have HB22 := Lib.hid ((HB21.out).trans (hb.mono (by first | exact Nat.le_refl _ | omega | (simp; done) | (simp; omega))))
      have hz22 : w.heap.size ≤ w22.heap.size := HB22.out.size
      clear hb hbz
      rw [HM.out]
      clear HM
      simp only [tup2s]
      have HB30 := HB22
      have hz30 := hz22
      generalize w22 = w30 at *
    case' inr =>
      rw [ht]
      clear ht
      simp only [tup2]
      have heb3 : (e3 == 0) = false := beq_eq_false_iff_ne.2 he
      clear he
      have HB30 := HB21
      have hz30 := hz21
      generalize w21 = w30 at *
  all_goals
    go_wp2_with fail
    refine (Parse_n s _ (by have := Hs.out; omega) (HX.out.below (HB30.out))).mono ?_
    rintro e w31 ⟨rfl, hb⟩
    have bx : Blk w31 (w.heap.size) 42 #[.bool al, .int .i64 ad, .int .i64 bi, .int .i64 lo, .int .i64 hi] := (bx).on hb
    have hbz := hb.size
    have HB31 := Lib.hid ((HB30.out).trans (hb.mono (by first | exact Nat.le_refl _ | omega | (simp; done) | (simp; omega))))
    have hz31 : w.heap.size ≤ w31.heap.size := HB31.out.size
    clear hb hbz
    rcases pn_cases s with ⟨al2, ad2, bi2, lo2, hi2, ht, hm⟩ | ⟨al2, ad2, bi2, lo2, hi2, e4, he, ht⟩
    case' inl =>
      rw [ht]
      clear ht
      simp only [tupN]
      have HM := Lib.hid hm
      clear hm
      go_wp2_with fail
      refine (Format_n _ _ _ _ _ _ (HX.out.below ((HB31.out).alloc (by first | exact Nat.le_refl _ | omega | (simp; done) | (simp; omega)) _)).laid).mono ?_
      rintro e w32 ⟨rfl, hb⟩
      have n_bx_bp : w.heap.size < w31.heap.size := by have := bx.lt; omega
      have bx : Blk w32 (w.heap.size) 42 #[.bool al, .int .i64 ad, .int .i64 bi, .int .i64 lo, .int .i64 hi] := ((bx).alloc _).on hb
      have bp : Blk w32 (w31.heap.size) 42 #[.bool al2, .int .i64 ad2, .int .i64 bi2, .int .i64 lo2, .int .i64 hi2] := (Blk.new _ _ _).on hb
      have hbz := hb.size
      have HB32 := Lib.hid (((HB31.out).alloc (by first | exact Nat.le_refl _ | omega | (simp; done) | (simp; omega)) _).trans (hb.mono (by first | exact Nat.le_refl _ | omega | (simp; done) | (simp; omega))))
      have hz32 : w.heap.size ≤ w32.heap.size := HB32.out.size
      clear hb hbz
      rw [HM.out]
      clear HM
      simp only [tup2s]
      go_wp2_with fail
      refine (awake_any _ (HX.out.below (HB32.out))).mono ?_
      rintro e w33 ⟨rfl, hb⟩
      have bx : Blk w33 (w.heap.size) 42 #[.bool al, .int .i64 ad, .int .i64 bi, .int .i64 lo, .int .i64 hi] := (bx).on hb
      have bp : Blk w33 (w31.heap.size) 42 #[.bool al2, .int .i64 ad2, .int .i64 bi2, .int .i64 lo2, .int .i64 hi2] := (bp).on hb
      have hbz := hb.size
      have HB33 := Lib.hid ((HB32.out).trans (hb.mono (by first | exact Nat.le_refl _ | omega | (simp; done) | (simp; omega))))
      have hz33 : w.heap.size ≤ w33.heap.size := HB33.out.size
      clear hb hbz
      go_wp2_with fail
      go_ret
      exact ⟨rfl, HB33.out⟩
    case' inr =>
      rw [ht]
      clear ht
      simp only [tupN]
      have heb4 : (e4 == 0) = false := beq_eq_false_iff_ne.2 he
      clear he
      go_wp2_with fail
      refine (awake_any _ (HX.out.below ((HB31.out).alloc (by first | exact Nat.le_refl _ | omega | (simp; done) | (simp; omega)) _))).mono ?_
      rintro e w32 ⟨rfl, hb⟩
      have n_bx_bp : w.heap.size < w31.heap.size := by have := bx.lt; omega
      have bx : Blk w32 (w.heap.size) 42 #[.bool al, .int .i64 ad, .int .i64 bi, .int .i64 lo, .int .i64 hi] := ((bx).alloc _).on hb
      have bp : Blk w32 (w31.heap.size) 42 #[.bool al2, .int .i64 ad2, .int .i64 bi2, .int .i64 lo2, .int .i64 hi2] := (Blk.new _ _ _).on hb
      have hbz := hb.size
      have HB32 := Lib.hid (((HB31.out).alloc (by first | exact Nat.le_refl _ | omega | (simp; done) | (simp; omega)) _).trans (hb.mono (by first | exact Nat.le_refl _ | omega | (simp; done) | (simp; omega))))
      have hz32 : w.heap.size ≤ w32.heap.size := HB32.out.size
      clear hb hbz
      go_wp2_with fail
      go_ret
      exact ⟨rfl, HB32.out⟩
end Go.Proofs.YtpkekfhnpcjgkaaDoor
