/- The walks of Format and its reference. -/
import Derived.Test.YtpkekfhnpcjgkaaDoorW8
namespace Go.Proofs.YtpkekfhnpcjgkaaDoor
open Go.RowKit
open Nw
open Go.Sort (grow)

def wordB (al : Bool) : ByteArray := if al then ⟨#[97, 108, 108, 111, 119, 32]⟩ else ⟨#[100, 101, 110, 121, 32]⟩
def fmP (r : Rule) : ByteArray := wordB r.al ++ txP r.ad 4 ++ ⟨#[47]⟩ ++ itB r.bi ++ ⟨#[32]⟩ ++ itB r.lo ++ ⟨#[45]⟩ ++ itB r.hi
def fmS (r : Rule) : ByteArray × Int := if r.ck = 0 then (fmP r, 0) else (⟨#[]⟩, r.ck)
theorem fmS_no {r : Rule} (h : r.ck ≠ 0) : fmS r = (⟨#[]⟩, r.ck) := if_neg h
theorem fmS_yes {r : Rule} (h : r.ck = 0) : fmS r = (fmP r, 0) := if_pos h
theorem ck_rng9 {r : Rule} (h : r.ck = 0) : 0 ≤ r.ad ∧ r.ad ≤ 4294967295 ∧ 0 ≤ r.bi ∧ r.bi ≤ 32 ∧ 1 ≤ r.lo ∧ r.lo ≤ 65535 ∧ r.lo ≤ r.hi ∧ r.hi ≤ 65535 := r.rng_iff.1 (r.ok_iff.1 (r.ck_ok.1 h)).1
theorem fmP_cut {al : Bool} {ad bi lo hi : Int} {a b c d e : ByteArray} (ha : wordB al = a) (hb : txP ad 4 = b) (hc : itB bi = c) (hd : itB lo = d) (he : itB hi = e) :
    fmP ⟨al, ad, bi, lo, hi⟩ = a ++ b ++ ⟨#[47]⟩ ++ c ++ ⟨#[32]⟩ ++ d ++ ⟨#[45]⟩ ++ e := by subst ha hb hc hd he; rfl
theorem size5 : (⟨#[97, 108, 108, 111, 119]⟩ : ByteArray).size = 5 := rfl
theorem size4 : (⟨#[100, 101, 110, 121]⟩ : ByteArray).size = 4 := rfl
theorem size6 : (⟨#[97, 108, 108, 111, 119, 32]⟩ : ByteArray).size = 6 := rfl
theorem size5' : (⟨#[100, 101, 110, 121, 32]⟩ : ByteArray).size = 5 := rfl
theorem word_yes : (⟨#[97, 108, 108, 111, 119]⟩ : ByteArray) ++ ⟨#[32]⟩ = ⟨#[97, 108, 108, 111, 119, 32]⟩ := by decide
theorem word_no : (⟨#[100, 101, 110, 121]⟩ : ByteArray) ++ ⟨#[32]⟩ = ⟨#[100, 101, 110, 121, 32]⟩ := by decide
theorem Format_i (n : Int) (W : World) (d : Nat) (os : Array Obj) (h : 0 ≤ n ∧ n ≤ 65535) (hX : LaidW W) :
    Calls Tryd.prog 74 #[.int .i64 n] (grow (redrawn W d) os) fun e w' => e = .returned (.string (itB n)) ∧ ∃ p : Regrown, w' = grow (redrawn W p.d) p.os :=
  Calls.regrown_of (Format_it n _ (by omega) (by omega) (hX.below (below_regrown W d os)))
theorem rFormat_i (n : Int) (W : World) (d : Nat) (os : Array Obj) (h : 0 ≤ n ∧ n ≤ 65535) :
    Calls Tryd.prog 75 #[.int .i64 n] (grow (redrawn W d) os) fun e w' => e = .returned (.string (itB n)) ∧ ∃ p : Regrown, w' = grow (redrawn W p.d) p.os :=
  Calls.regrown_of (rFormat_it n _ (by omega) (by omega))
set_option maxHeartbeats 2000000 in
set_option maxRecDepth 100000 in
theorem Format_n (al : Bool) (ad bi lo hi : Int) (w : World) (hX : LaidW w) :
    Calls Tryd.prog 40 #[.agg #[.bool al, .int .i64 ad, .int .i64 bi, .int .i64 lo, .int .i64 hi]] w fun e w' => e = .returned (tup2s (fmS (Rule.mk al ad bi lo hi))) ∧ Below w.heap.size w w' := by
  have HX := Lib.hid hX
  clear hX
  by_cases g : (Rule.mk al ad bi lo hi).ck = 0
  · have hr := ck_rng9 g
    obtain ⟨h1, h2, h3, h4, h5, h6, h7, h8⟩ := hr
    simp only at h1 h2 h3 h4 h5 h6 h7 h8
    obtain ⟨hbi, hlo, hhi⟩ : (0 ≤ bi ∧ bi ≤ 65535) ∧ (0 ≤ lo ∧ lo ≤ 65535) ∧ (0 ≤ hi ∧ hi ≤ 65535) := by omega
    have hlow := itB_size (n := lo) (by omega) (by omega)
    have hhiw := itB_size (n := hi) (by omega) (by omega)
    have hbiw := itB_size (n := bi) (by omega) (by omega)
    have htxw := txP_size h1 h2 4
    have HG := Lib.hid g
    have HT := Lib.hid (txS_yes (n := ad) ⟨h1, h2⟩)
    have HQ := Lib.hid (And.intro hbi (And.intro hlo hhi))
    clear g h1 h2 h3 h4 h5 h6 h7 h8
    generalize e4 : txP ad 4 = ta at *
    have HE := Lib.hid e4
    clear e4
    cases al
    · have HD := Lib.hid (show fmS (Rule.mk false ad bi lo hi) = (⟨#[100, 101, 110, 121, 32]⟩ ++ ta ++ ⟨#[47]⟩ ++ itB bi ++ ⟨#[32]⟩ ++ itB lo ++ ⟨#[45]⟩ ++ itB hi, 0) by rw [fmS_yes HG.out, fmP_cut (a := ⟨#[100, 101, 110, 121, 32]⟩) rfl HE.out rfl rfl rfl])
      have hsw := size4
      have hsw2 := size5'
      go_enter Tryd.func40, Tryd.ntmps40
      go_wp2_with fail
      refine (Check_any _ _ _ _ _ _).mono ?_
      rintro e w1 ⟨rfl, hb⟩
      have ba : Blk w1 (w.heap.size) 42 #[.bool false, .int .i64 ad, .int .i64 bi, .int .i64 lo, .int .i64 hi] := (Blk.new _ _ _).on hb
      have hbz := hb.size
      have HB1 := Lib.hid (((Below.refl w.heap.size w).alloc (by first | exact Nat.le_refl _ | omega | (simp; done) | (simp; omega)) _).trans (hb.mono (by first | exact Nat.le_refl _ | omega | (simp; done) | (simp; omega))))
      have hz1 : w.heap.size ≤ w1.heap.size := HB1.out.size
      clear hb hbz
      rw [HG.out]
      have q_ba0 : w1.cell? ⟨w.heap.size, 0, none⟩ = some (.bool false) := ba.cell 0
      have q_ba1 : w1.cell? ⟨w.heap.size, 1, none⟩ = some (.int .i64 ad) := ba.cell 1
      have q_ba2 : w1.cell? ⟨w.heap.size, 2, none⟩ = some (.int .i64 bi) := ba.cell 2
      have q_ba3 : w1.cell? ⟨w.heap.size, 3, none⟩ = some (.int .i64 lo) := ba.cell 3
      have q_ba4 : w1.cell? ⟨w.heap.size, 4, none⟩ = some (.int .i64 hi) := ba.cell 4
      go_wp2_with fail
      refine (Text_any _ _ (HX.out.below (HB1.out))).mono ?_
      rintro e w2 ⟨rfl, hb⟩
      clear q_ba0 q_ba1 q_ba2 q_ba3 q_ba4
      have ba : Blk w2 (w.heap.size) 42 #[.bool false, .int .i64 ad, .int .i64 bi, .int .i64 lo, .int .i64 hi] := (ba).on hb
      have hbz := hb.size
      have HB2 := Lib.hid ((HB1.out).trans (hb.mono (by first | exact Nat.le_refl _ | omega | (simp; done) | (simp; omega))))
      have hz2 : w.heap.size ≤ w2.heap.size := HB2.out.size
      clear hb hbz
      rw [HT.out]
      simp only [tup2s]
      have HF := Lib.hid (fun n d os h => Format_i n w2 d os h (HX.out.below (HB2.out)))
      go_wp2_with fail
      have r_ba0 := fun d os => cell_regrown (v := .bool false) (ba.cell 0) d os
      have r_ba1 := fun d os => cell_regrown (v := .int .i64 ad) (ba.cell 1) d os
      have r_ba2 := fun d os => cell_regrown (v := .int .i64 bi) (ba.cell 2) d os
      have r_ba3 := fun d os => cell_regrown (v := .int .i64 lo) (ba.cell 3) d os
      have r_ba4 := fun d os => cell_regrown (v := .int .i64 hi) (ba.cell 4) d os
      refine wp_region_quiet_below (by kernel_rfl) (by kernel_rfl) ?_
      repeat (go_big_quiet_step ((go_at_call 74; go_must (exact HF.out _ _ _ (by omega)))))
      refine wpQuiet_nil ?_
      intro _ hw'
      obtain ⟨⟨dq, osq⟩, hw''⟩ := hw'
      subst hw''
      have hb := below_regrown w2 dq osq
      have ba : Blk (Go.Sort.grow (redrawn w2 dq) osq) (w.heap.size) 42 #[.bool false, .int .i64 ad, .int .i64 bi, .int .i64 lo, .int .i64 hi] := ba.on hb
      have HB3 := Lib.hid ((HB2.out).trans (hb.mono (by first | exact Nat.le_refl _ | omega | (simp; done) | (simp; omega))))
      clear hb r_ba0 r_ba1 r_ba2 r_ba3 r_ba4
      generalize Go.Sort.grow (redrawn w2 dq) osq = w3 at *
      have hz3 : w.heap.size ≤ w3.heap.size := HB3.out.size
      go_wp2_with fail
      go_ret2
      exact ⟨ret_tup2s (HD.out.trans (by rw [word_no])), HB3.out⟩
    · have HD := Lib.hid (show fmS (Rule.mk true ad bi lo hi) = (⟨#[97, 108, 108, 111, 119, 32]⟩ ++ ta ++ ⟨#[47]⟩ ++ itB bi ++ ⟨#[32]⟩ ++ itB lo ++ ⟨#[45]⟩ ++ itB hi, 0) by rw [fmS_yes HG.out, fmP_cut (a := ⟨#[97, 108, 108, 111, 119, 32]⟩) rfl HE.out rfl rfl rfl])
      have hsw := size5
      have hsw2 := size6
      go_enter Tryd.func40, Tryd.ntmps40
      go_wp2_with fail
      refine (Check_any _ _ _ _ _ _).mono ?_
      rintro e w1 ⟨rfl, hb⟩
      have ba : Blk w1 (w.heap.size) 42 #[.bool true, .int .i64 ad, .int .i64 bi, .int .i64 lo, .int .i64 hi] := (Blk.new _ _ _).on hb
      have hbz := hb.size
      have HB1 := Lib.hid (((Below.refl w.heap.size w).alloc (by first | exact Nat.le_refl _ | omega | (simp; done) | (simp; omega)) _).trans (hb.mono (by first | exact Nat.le_refl _ | omega | (simp; done) | (simp; omega))))
      have hz1 : w.heap.size ≤ w1.heap.size := HB1.out.size
      clear hb hbz
      rw [HG.out]
      have q_ba0 : w1.cell? ⟨w.heap.size, 0, none⟩ = some (.bool true) := ba.cell 0
      have q_ba1 : w1.cell? ⟨w.heap.size, 1, none⟩ = some (.int .i64 ad) := ba.cell 1
      have q_ba2 : w1.cell? ⟨w.heap.size, 2, none⟩ = some (.int .i64 bi) := ba.cell 2
      have q_ba3 : w1.cell? ⟨w.heap.size, 3, none⟩ = some (.int .i64 lo) := ba.cell 3
      have q_ba4 : w1.cell? ⟨w.heap.size, 4, none⟩ = some (.int .i64 hi) := ba.cell 4
      go_wp2_with fail
      refine (Text_any _ _ (HX.out.below (HB1.out))).mono ?_
      rintro e w2 ⟨rfl, hb⟩
      clear q_ba0 q_ba1 q_ba2 q_ba3 q_ba4
      have ba : Blk w2 (w.heap.size) 42 #[.bool true, .int .i64 ad, .int .i64 bi, .int .i64 lo, .int .i64 hi] := (ba).on hb
      have hbz := hb.size
      have HB2 := Lib.hid ((HB1.out).trans (hb.mono (by first | exact Nat.le_refl _ | omega | (simp; done) | (simp; omega))))
      have hz2 : w.heap.size ≤ w2.heap.size := HB2.out.size
      clear hb hbz
      rw [HT.out]
      simp only [tup2s]
      have HF := Lib.hid (fun n d os h => Format_i n w2 d os h (HX.out.below (HB2.out)))
      go_wp2_with fail
      have r_ba0 := fun d os => cell_regrown (v := .bool true) (ba.cell 0) d os
      have r_ba1 := fun d os => cell_regrown (v := .int .i64 ad) (ba.cell 1) d os
      have r_ba2 := fun d os => cell_regrown (v := .int .i64 bi) (ba.cell 2) d os
      have r_ba3 := fun d os => cell_regrown (v := .int .i64 lo) (ba.cell 3) d os
      have r_ba4 := fun d os => cell_regrown (v := .int .i64 hi) (ba.cell 4) d os
      refine wp_region_quiet_below (by kernel_rfl) (by kernel_rfl) ?_
      repeat (go_big_quiet_step ((go_at_call 74; go_must (exact HF.out _ _ _ (by omega)))))
      refine wpQuiet_nil ?_
      intro _ hw'
      obtain ⟨⟨dq, osq⟩, hw''⟩ := hw'
      subst hw''
      have hb := below_regrown w2 dq osq
      have ba : Blk (Go.Sort.grow (redrawn w2 dq) osq) (w.heap.size) 42 #[.bool true, .int .i64 ad, .int .i64 bi, .int .i64 lo, .int .i64 hi] := ba.on hb
      have HB3 := Lib.hid ((HB2.out).trans (hb.mono (by first | exact Nat.le_refl _ | omega | (simp; done) | (simp; omega))))
      clear hb r_ba0 r_ba1 r_ba2 r_ba3 r_ba4
      generalize Go.Sort.grow (redrawn w2 dq) osq = w3 at *
      have hz3 : w.heap.size ≤ w3.heap.size := HB3.out.size
      go_wp2_with fail
      go_ret2
      exact ⟨ret_tup2s (HD.out.trans (by rw [word_yes])), HB3.out⟩
  · have HD := Lib.hid (fmS_no g)
    have gb : ((Rule.mk al ad bi lo hi).ck != 0) = true := bne_iff_ne.2 g
    clear g
    go_enter Tryd.func40, Tryd.ntmps40
    go_wp2_with fail
    refine (Check_any _ _ _ _ _ _).mono ?_
    rintro e w1 ⟨rfl, hb⟩
    have ba : Blk w1 (w.heap.size) 42 #[.bool al, .int .i64 ad, .int .i64 bi, .int .i64 lo, .int .i64 hi] := (Blk.new _ _ _).on hb
    have hbz := hb.size
    have HB1 := Lib.hid (((Below.refl w.heap.size w).alloc (by first | exact Nat.le_refl _ | omega | (simp; done) | (simp; omega)) _).trans (hb.mono (by first | exact Nat.le_refl _ | omega | (simp; done) | (simp; omega))))
    have hz1 : w.heap.size ≤ w1.heap.size := HB1.out.size
    clear hb hbz
    generalize (Rule.mk al ad bi lo hi).ck = c at *
    go_wp2_with fail
    go_ret2
    exact ⟨ret_tup2s HD.out, HB1.out⟩
set_option maxHeartbeats 2000000 in
set_option maxRecDepth 100000 in
theorem rFormat_n (al : Bool) (ad bi lo hi : Int) (w : World) :
    Calls Tryd.prog 41 #[.agg #[.bool al, .int .i64 ad, .int .i64 bi, .int .i64 lo, .int .i64 hi]] w fun e w' => e = .returned (tup2s (fmS (Rule.mk al ad bi lo hi))) ∧ Below w.heap.size w w' := by
  by_cases g : (Rule.mk al ad bi lo hi).ck = 0
  · have hr := ck_rng9 g
    obtain ⟨h1, h2, h3, h4, h5, h6, h7, h8⟩ := hr
    simp only at h1 h2 h3 h4 h5 h6 h7 h8
    obtain ⟨hbi, hlo, hhi⟩ : (0 ≤ bi ∧ bi ≤ 65535) ∧ (0 ≤ lo ∧ lo ≤ 65535) ∧ (0 ≤ hi ∧ hi ≤ 65535) := by omega
    have hlow := itB_size (n := lo) (by omega) (by omega)
    have hhiw := itB_size (n := hi) (by omega) (by omega)
    have hbiw := itB_size (n := bi) (by omega) (by omega)
    have htxw := txP_size h1 h2 4
    have HG := Lib.hid g
    have HT := Lib.hid (txS_yes (n := ad) ⟨h1, h2⟩)
    have HQ := Lib.hid (And.intro hbi (And.intro hlo hhi))
    clear g h1 h2 h3 h4 h5 h6 h7 h8
    generalize e4 : txP ad 4 = ta at *
    have HE := Lib.hid e4
    clear e4
    cases al
    · have HD := Lib.hid (show fmS (Rule.mk false ad bi lo hi) = (⟨#[100, 101, 110, 121, 32]⟩ ++ ta ++ ⟨#[47]⟩ ++ itB bi ++ ⟨#[32]⟩ ++ itB lo ++ ⟨#[45]⟩ ++ itB hi, 0) by rw [fmS_yes HG.out, fmP_cut (a := ⟨#[100, 101, 110, 121, 32]⟩) rfl HE.out rfl rfl rfl])
      have hsw := size5'
      go_enter Tryd.func41, Tryd.ntmps41
      go_wp2_with fail
      refine (rCheck_any _ _ _ _ _ _).mono ?_
      rintro e w1 ⟨rfl, hb⟩
      have ba : Blk w1 (w.heap.size) 42 #[.bool false, .int .i64 ad, .int .i64 bi, .int .i64 lo, .int .i64 hi] := (Blk.new _ _ _).on hb
      have hbz := hb.size
      have HB1 := Lib.hid (((Below.refl w.heap.size w).alloc (by first | exact Nat.le_refl _ | omega | (simp; done) | (simp; omega)) _).trans (hb.mono (by first | exact Nat.le_refl _ | omega | (simp; done) | (simp; omega))))
      have hz1 : w.heap.size ≤ w1.heap.size := HB1.out.size
      clear hb hbz
      rw [HG.out]
      have q_ba0 : w1.cell? ⟨w.heap.size, 0, none⟩ = some (.bool false) := ba.cell 0
      have q_ba1 : w1.cell? ⟨w.heap.size, 1, none⟩ = some (.int .i64 ad) := ba.cell 1
      have q_ba2 : w1.cell? ⟨w.heap.size, 2, none⟩ = some (.int .i64 bi) := ba.cell 2
      have q_ba3 : w1.cell? ⟨w.heap.size, 3, none⟩ = some (.int .i64 lo) := ba.cell 3
      have q_ba4 : w1.cell? ⟨w.heap.size, 4, none⟩ = some (.int .i64 hi) := ba.cell 4
      go_wp2_with fail
      refine (rText_any _ _).mono ?_
      rintro e w2 ⟨rfl, hb⟩
      clear q_ba0 q_ba1 q_ba2 q_ba3 q_ba4
      have ba : Blk w2 (w.heap.size) 42 #[.bool false, .int .i64 ad, .int .i64 bi, .int .i64 lo, .int .i64 hi] := (ba).on hb
      have hbz := hb.size
      have HB2 := Lib.hid ((HB1.out).trans (hb.mono (by first | exact Nat.le_refl _ | omega | (simp; done) | (simp; omega))))
      have hz2 : w.heap.size ≤ w2.heap.size := HB2.out.size
      clear hb hbz
      rw [HT.out]
      simp only [tup2s]
      have HF := Lib.hid (fun n d os h => rFormat_i n w2 d os h)
      go_wp2_with fail
      have r_ba0 := fun d os => cell_regrown (v := .bool false) (ba.cell 0) d os
      have r_ba1 := fun d os => cell_regrown (v := .int .i64 ad) (ba.cell 1) d os
      have r_ba2 := fun d os => cell_regrown (v := .int .i64 bi) (ba.cell 2) d os
      have r_ba3 := fun d os => cell_regrown (v := .int .i64 lo) (ba.cell 3) d os
      have r_ba4 := fun d os => cell_regrown (v := .int .i64 hi) (ba.cell 4) d os
      refine wp_region_quiet_below (by kernel_rfl) (by kernel_rfl) ?_
      repeat (go_big_quiet_step ((go_at_call 75; go_must (exact HF.out _ _ _ (by omega)))))
      refine wpQuiet_nil ?_
      intro _ hw'
      obtain ⟨⟨dq, osq⟩, hw''⟩ := hw'
      subst hw''
      have hb := below_regrown w2 dq osq
      have ba : Blk (Go.Sort.grow (redrawn w2 dq) osq) (w.heap.size) 42 #[.bool false, .int .i64 ad, .int .i64 bi, .int .i64 lo, .int .i64 hi] := ba.on hb
      have HB3 := Lib.hid ((HB2.out).trans (hb.mono (by first | exact Nat.le_refl _ | omega | (simp; done) | (simp; omega))))
      clear hb r_ba0 r_ba1 r_ba2 r_ba3 r_ba4
      generalize Go.Sort.grow (redrawn w2 dq) osq = w3 at *
      have hz3 : w.heap.size ≤ w3.heap.size := HB3.out.size
      go_wp2_with fail
      go_ret2
      exact ⟨ret_tup2s HD.out, HB3.out⟩
    · have HD := Lib.hid (show fmS (Rule.mk true ad bi lo hi) = (⟨#[97, 108, 108, 111, 119, 32]⟩ ++ ta ++ ⟨#[47]⟩ ++ itB bi ++ ⟨#[32]⟩ ++ itB lo ++ ⟨#[45]⟩ ++ itB hi, 0) by rw [fmS_yes HG.out, fmP_cut (a := ⟨#[97, 108, 108, 111, 119, 32]⟩) rfl HE.out rfl rfl rfl])
      have hsw := size6
      go_enter Tryd.func41, Tryd.ntmps41
      go_wp2_with fail
      refine (rCheck_any _ _ _ _ _ _).mono ?_
      rintro e w1 ⟨rfl, hb⟩
      have ba : Blk w1 (w.heap.size) 42 #[.bool true, .int .i64 ad, .int .i64 bi, .int .i64 lo, .int .i64 hi] := (Blk.new _ _ _).on hb
      have hbz := hb.size
      have HB1 := Lib.hid (((Below.refl w.heap.size w).alloc (by first | exact Nat.le_refl _ | omega | (simp; done) | (simp; omega)) _).trans (hb.mono (by first | exact Nat.le_refl _ | omega | (simp; done) | (simp; omega))))
      have hz1 : w.heap.size ≤ w1.heap.size := HB1.out.size
      clear hb hbz
      rw [HG.out]
      have q_ba0 : w1.cell? ⟨w.heap.size, 0, none⟩ = some (.bool true) := ba.cell 0
      have q_ba1 : w1.cell? ⟨w.heap.size, 1, none⟩ = some (.int .i64 ad) := ba.cell 1
      have q_ba2 : w1.cell? ⟨w.heap.size, 2, none⟩ = some (.int .i64 bi) := ba.cell 2
      have q_ba3 : w1.cell? ⟨w.heap.size, 3, none⟩ = some (.int .i64 lo) := ba.cell 3
      have q_ba4 : w1.cell? ⟨w.heap.size, 4, none⟩ = some (.int .i64 hi) := ba.cell 4
      go_wp2_with fail
      refine (rText_any _ _).mono ?_
      rintro e w2 ⟨rfl, hb⟩
      clear q_ba0 q_ba1 q_ba2 q_ba3 q_ba4
      have ba : Blk w2 (w.heap.size) 42 #[.bool true, .int .i64 ad, .int .i64 bi, .int .i64 lo, .int .i64 hi] := (ba).on hb
      have hbz := hb.size
      have HB2 := Lib.hid ((HB1.out).trans (hb.mono (by first | exact Nat.le_refl _ | omega | (simp; done) | (simp; omega))))
      have hz2 : w.heap.size ≤ w2.heap.size := HB2.out.size
      clear hb hbz
      rw [HT.out]
      simp only [tup2s]
      have HF := Lib.hid (fun n d os h => rFormat_i n w2 d os h)
      go_wp2_with fail
      have r_ba0 := fun d os => cell_regrown (v := .bool true) (ba.cell 0) d os
      have r_ba1 := fun d os => cell_regrown (v := .int .i64 ad) (ba.cell 1) d os
      have r_ba2 := fun d os => cell_regrown (v := .int .i64 bi) (ba.cell 2) d os
      have r_ba3 := fun d os => cell_regrown (v := .int .i64 lo) (ba.cell 3) d os
      have r_ba4 := fun d os => cell_regrown (v := .int .i64 hi) (ba.cell 4) d os
      refine wp_region_quiet_below (by kernel_rfl) (by kernel_rfl) ?_
      repeat (go_big_quiet_step ((go_at_call 75; go_must (exact HF.out _ _ _ (by omega)))))
      refine wpQuiet_nil ?_
      intro _ hw'
      obtain ⟨⟨dq, osq⟩, hw''⟩ := hw'
      subst hw''
      have hb := below_regrown w2 dq osq
      have ba : Blk (Go.Sort.grow (redrawn w2 dq) osq) (w.heap.size) 42 #[.bool true, .int .i64 ad, .int .i64 bi, .int .i64 lo, .int .i64 hi] := ba.on hb
      have HB3 := Lib.hid ((HB2.out).trans (hb.mono (by first | exact Nat.le_refl _ | omega | (simp; done) | (simp; omega))))
      clear hb r_ba0 r_ba1 r_ba2 r_ba3 r_ba4
      generalize Go.Sort.grow (redrawn w2 dq) osq = w3 at *
      have hz3 : w.heap.size ≤ w3.heap.size := HB3.out.size
      go_wp2_with fail
      go_ret2
      exact ⟨ret_tup2s HD.out, HB3.out⟩
  · have HD := Lib.hid (fmS_no g)
    have gb : ((Rule.mk al ad bi lo hi).ck != 0) = true := bne_iff_ne.2 g
    clear g
    go_enter Tryd.func41, Tryd.ntmps41
    go_wp2_with fail
    refine (rCheck_any _ _ _ _ _ _).mono ?_
    rintro e w1 ⟨rfl, hb⟩
    have ba : Blk w1 (w.heap.size) 42 #[.bool al, .int .i64 ad, .int .i64 bi, .int .i64 lo, .int .i64 hi] := (Blk.new _ _ _).on hb
    have hbz := hb.size
    have HB1 := Lib.hid (((Below.refl w.heap.size w).alloc (by first | exact Nat.le_refl _ | omega | (simp; done) | (simp; omega)) _).trans (hb.mono (by first | exact Nat.le_refl _ | omega | (simp; done) | (simp; omega))))
    have hz1 : w.heap.size ≤ w1.heap.size := HB1.out.size
    clear hb hbz
    generalize (Rule.mk al ad bi lo hi).ck = c at *
    go_wp2_with fail
    go_ret2
    exact ⟨ret_tup2s HD.out, HB1.out⟩
end Go.Proofs.YtpkekfhnpcjgkaaDoor
