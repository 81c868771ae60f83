/- The walk of awake. -/
import Derived.Test.YtpkekfhnpcjgkaaDoorT2
namespace Go.Proofs.YtpkekfhnpcjgkaaDoor
open Go.RowKit
open Nw
open Go.Sort (grow)

theorem fieldsN : Tryd.prog.underlying 42 = some (.struct (Tryd.prog.fieldsOf 42)) := by kernel_rfl
theorem stoodN : Tryd.prog.stoodInHeld 42 = false := by kernel_rfl
def neN (al : Bool) (a b c d : Int) (al2 : Bool) (a2 b2 c2 d2 : Int) : Bool := !(al == al2 && a == a2 && b == b2 && c == c2 && d == d2)
theorem run_neq_N (W : World) (al : Bool) (a b c d : Int) (al2 : Bool) (a2 b2 c2 d2 : Int) : (binOp .neq 42 (.agg #[.bool al, .int .i64 a, .int .i64 b, .int .i64 c, .int .i64 d]) (.agg #[.bool al2, .int .i64 a2, .int .i64 b2, .int .i64 c2, .int .i64 d2])).run Tryd.prog W = .ok (.bool (neN al a b c d al2 a2 b2 c2 d2)) W := by
  rw [run_neq_struct, run_equalIn_struct _ _ _ _ _ fieldsN stoodN]
  unfold neN
  simp [go_sem]
  by_cases h0 : al = al2 <;> by_cases h1 : a = a2 <;> by_cases h2 : b = b2 <;> by_cases h3 : c = c2 <;> by_cases h4 : d = d2 <;> simp [h0, h1, h2, h3, h4]
attribute [go_sem ↓] run_neq_N
theorem Check_is (al : Bool) (ad bi lo hi v : Int) (W : World) (d : Nat) (os : Array Obj) (h : (Rule.mk al ad bi lo hi).ck = v) :
    Calls Tryd.prog 42 #[.agg #[.bool al, .int .i64 ad, .int .i64 bi, .int .i64 lo, .int .i64 hi]] (grow (redrawn W d) os) fun e w' => e = .returned (.int .i64 v) ∧ ∃ p : Regrown, w' = grow (redrawn W p.d) p.os := by
  subst h; exact Check_at al ad bi lo hi W d os
theorem Covers_is (al : Bool) (ad bi lo hi : Int) (al2 : Bool) (ad2 bi2 lo2 hi2 : Int) (v : Bool) (W : World) (d : Nat) (os : Array Obj) (h : (Rule.mk al ad bi lo hi).cv ⟨al2, ad2, bi2, lo2, hi2⟩ = v) :
    Calls Tryd.prog 58 #[.agg #[.bool al, .int .i64 ad, .int .i64 bi, .int .i64 lo, .int .i64 hi], .agg #[.bool al2, .int .i64 ad2, .int .i64 bi2, .int .i64 lo2, .int .i64 hi2]] (grow (redrawn W d) os) fun e w' => e = .returned (.bool v) ∧ ∃ p : Regrown, w' = grow (redrawn W p.d) p.os := by
  subst h; exact Calls.regrown_of (Covers_any _ _ _ _ _ _ _ _ _ _ _)
theorem Matches_is (al : Bool) (ad bi lo hi a p : Int) (v : Bool) (W : World) (d : Nat) (os : Array Obj) (h : (Rule.mk al ad bi lo hi).mt a p = v) :
    Calls Tryd.prog 56 #[.agg #[.bool al, .int .i64 ad, .int .i64 bi, .int .i64 lo, .int .i64 hi], .int .i64 a, .int .i64 p] (grow (redrawn W d) os) fun e w' => e = .returned (.bool v) ∧ ∃ p : Regrown, w' = grow (redrawn W p.d) p.os := by
  subst h; exact Calls.regrown_of (Matches_any _ _ _ _ _ _ _ _)
theorem aw_c1' : (Rule.mk true 167772160 8 80 443).cv ⟨true, 167838208, 24, 80, 80⟩ = true := aw_c1
theorem aw_c2' : (Rule.mk true 167838208 24 80 80).cv ⟨true, 167772160, 8, 80, 443⟩ = false := aw_c2
theorem rules_new {w : World} {B : Nat} {g : Nat} (h : Blk w g 42 #[.bool false, .int .i64 167837696, .int .i64 16, .int .i64 1, .int .i64 65535, .bool true, .int .i64 167772160, .int .i64 8, .int .i64 80, .int .i64 443, .bool true, .int .i64 167838208, .int .i64 24, .int .i64 80, .int .i64 80]) (hg : g < B) : RulesAt w B (some ⟨g, 0, none⟩) [aw0, aw1, aw2] := by
  refine ⟨rfl, fun _ => ⟨g, 0, rfl, hg, fun j u hu => ?_⟩⟩
  rw [h.cell, Nat.zero_add, ← hu, show List.flatMap rcells [aw0, aw1, aw2] = [.bool false, .int .i64 167837696, .int .i64 16, .int .i64 1, .int .i64 65535, .bool true, .int .i64 167772160, .int .i64 8, .int .i64 80, .int .i64 443, .bool true, .int .i64 167838208, .int .i64 24, .int .i64 80, .int .i64 80] from rfl]
  exact List.getElem?_toArray
theorem aw_Dead (w : World) (g : Nat) (h : Blk w g 42 #[.bool false, .int .i64 167837696, .int .i64 16, .int .i64 1, .int .i64 65535, .bool true, .int .i64 167772160, .int .i64 8, .int .i64 80, .int .i64 443, .bool true, .int .i64 167838208, .int .i64 24, .int .i64 80, .int .i64 80]) :
    Calls Tryd.prog 54 #[.slice (some ⟨g, 0, none⟩) 3 3] w fun e w' => (∃ b cp cd, e = .returned (.slice (some ⟨b, 0, none⟩) 1 cp) ∧ Blk w' b 3 cd ∧ cd[0]? = some (.int .i64 2)) ∧ Below w.heap.size w w' := by
  refine (Dead_any (some ⟨g, 0, none⟩) 3 [aw0, aw1, aw2] w (rules_new h h.lt) (by decide) (by decide)).mono ?_
  rintro e w' ⟨v, rfl, ho, hb⟩
  refine ⟨?_, hb⟩
  rw [show ([aw0, aw1, aw2] : List Rule).length = 3 from rfl, aw_dead] at ho
  rcases ho with ⟨-, ⟨-, h1⟩ | ⟨b, cp, cs, rfl, -, hs, hc⟩⟩
  · simp at h1
  · exact ⟨b, cp, cs, rfl, hs, by have := congrArg (·[0]?) hc.2.2.2; simpa [ivals] using this⟩
theorem aw_Dec (w : World) (g : Nat) (a p : Int) (x : Bool × Int) (h : Blk w g 42 #[.bool false, .int .i64 167837696, .int .i64 16, .int .i64 1, .int .i64 65535, .bool true, .int .i64 167772160, .int .i64 8, .int .i64 80, .int .i64 443, .bool true, .int .i64 167838208, .int .i64 24, .int .i64 80, .int .i64 80]) (hx : decI [aw0, aw1, aw2] a p = x) :
    Calls Tryd.prog 51 #[.slice (some ⟨g, 0, none⟩) 3 3, .int .i64 a, .int .i64 p] w fun e w' => e = .returned (aggD x) ∧ Below w.heap.size w w' := by
  subst hx
  exact Decide_any (some ⟨g, 0, none⟩) 3 [aw0, aw1, aw2] a p w (rules_new h h.lt) (by decide)
set_option maxHeartbeats 4000000 in
set_option maxRecDepth 100000 in
theorem awake_any (w : World) (hX : LaidS w) : Calls Tryd.prog 50 #[] w fun e w' => e = .returned (.bool true) ∧ Below w.heap.size w w' := by
  have HX := Lib.hid hX
  clear hX
  go_enter Tryd.func50, Tryd.ntmps50
  go_wp2_with fail
  refine (Format_n true 167772160 8 80 443 _ (HX.out.below ((Below.refl w.heap.size w).alloc (by first | exact Nat.le_refl _ | omega | (simp; done) | (simp; omega)) _)).laid).mono ?_
  rintro e w1 ⟨rfl, hb⟩
  have bl : Blk w1 (w.heap.size) 42 #[.bool false, .int .i64 167837696, .int .i64 16, .int .i64 1, .int .i64 65535, .bool true, .int .i64 167772160, .int .i64 8, .int .i64 80, .int .i64 443, .bool true, .int .i64 167838208, .int .i64 24, .int .i64 80, .int .i64 80] := (Blk.new _ _ _).on hb
  have hbz := hb.size
  have HB1 := Lib.hid (((Below.refl w.heap.size w).alloc (by first | exact Nat.le_refl _ | omega | (simp; done) | (simp; omega)) _).trans (hb.mono (by first | exact Nat.le_refl _ | omega | (simp; done) | (simp; omega))))
  have hz1 : w.heap.size ≤ w1.heap.size := HB1.out.size
  clear hb hbz
  rw [show fmS ⟨true, 167772160, 8, 80, 443⟩ = _ from aw_fm]
  simp only [tup2s]
  go_wp2_with fail
  refine (Text_any 167772161 _ (HX.out.below (HB1.out)).laid).mono ?_
  rintro e w2 ⟨rfl, hb⟩
  have bl : Blk w2 (w.heap.size) 42 #[.bool false, .int .i64 167837696, .int .i64 16, .int .i64 1, .int .i64 65535, .bool true, .int .i64 167772160, .int .i64 8, .int .i64 80, .int .i64 443, .bool true, .int .i64 167838208, .int .i64 24, .int .i64 80, .int .i64 80] := (bl).on hb
  have hbz := hb.size
  have HB2 := Lib.hid ((HB1.out).trans (hb.mono (by first | exact Nat.le_refl _ | omega | (simp; done) | (simp; omega))))
  have hz2 : w.heap.size ≤ w2.heap.size := HB2.out.size
  clear hb hbz
  rw [aw_tx]
  simp only [tup2s]
  go_wp2_with fail
  refine (Address_any ⟨#[49, 48, 46, 49, 46, 50, 46, 51]⟩ _ (by decide) (HX.out.below (HB2.out))).mono ?_
  rintro e w3 ⟨rfl, hb⟩
  have bl : Blk w3 (w.heap.size) 42 #[.bool false, .int .i64 167837696, .int .i64 16, .int .i64 1, .int .i64 65535, .bool true, .int .i64 167772160, .int .i64 8, .int .i64 80, .int .i64 443, .bool true, .int .i64 167838208, .int .i64 24, .int .i64 80, .int .i64 80] := (bl).on hb
  have hbz := hb.size
  have HB3 := Lib.hid ((HB2.out).trans (hb.mono (by first | exact Nat.le_refl _ | omega | (simp; done) | (simp; omega))))
  have hz3 : w.heap.size ≤ w3.heap.size := HB3.out.size
  clear hb hbz
  rw [aw_ad]
  simp only [tup2]
  go_wp2_with fail
  refine (Parse_n ⟨#[100, 101, 110, 121, 32, 49, 48, 46, 49, 46, 48, 46, 48, 47, 49, 54, 32, 49, 45, 54, 53, 53, 51, 53]⟩ _ (by decide) (HX.out.below (HB3.out))).mono ?_
  rintro e w4 ⟨rfl, hb⟩
  have bl : Blk w4 (w.heap.size) 42 #[.bool false, .int .i64 167837696, .int .i64 16, .int .i64 1, .int .i64 65535, .bool true, .int .i64 167772160, .int .i64 8, .int .i64 80, .int .i64 443, .bool true, .int .i64 167838208, .int .i64 24, .int .i64 80, .int .i64 80] := (bl).on hb
  have hbz := hb.size
  have HB4 := Lib.hid ((HB3.out).trans (hb.mono (by first | exact Nat.le_refl _ | omega | (simp; done) | (simp; omega))))
  have hz4 : w.heap.size ≤ w4.heap.size := HB4.out.size
  clear hb hbz
  rw [aw_p1]
  simp only [tupN, aw0]
  go_wp2_with fail
  refine (Parse_n ⟨#[100, 101, 110, 121, 32, 49, 48, 46, 49, 46, 48, 46, 49, 47, 49, 54, 32, 49, 45, 54, 53, 53, 51, 53]⟩ _ (by decide) (HX.out.below ((HB4.out).alloc (by first | exact Nat.le_refl _ | omega | (simp; done) | (simp; omega)) _))).mono ?_
  rintro e w5 ⟨rfl, hb⟩
  have n_bl_bp : w.heap.size < w4.heap.size := by have := bl.lt; omega
  have bl : Blk w5 (w.heap.size) 42 #[.bool false, .int .i64 167837696, .int .i64 16, .int .i64 1, .int .i64 65535, .bool true, .int .i64 167772160, .int .i64 8, .int .i64 80, .int .i64 443, .bool true, .int .i64 167838208, .int .i64 24, .int .i64 80, .int .i64 80] := ((bl).alloc _).on hb
  have bp : Blk w5 (w4.heap.size) 42 #[.bool false, .int .i64 167837696, .int .i64 16, .int .i64 1, .int .i64 65535] := (Blk.new _ _ _).on hb
  have hbz := hb.size
  have HB5 := Lib.hid (((HB4.out).alloc (by first | exact Nat.le_refl _ | omega | (simp; done) | (simp; omega)) _).trans (hb.mono (by first | exact Nat.le_refl _ | omega | (simp; done) | (simp; omega))))
  have hz5 : w.heap.size ≤ w5.heap.size := HB5.out.size
  clear hb hbz
  rw [aw_p2]
  simp only [tupN]
  go_wp2_with fail
  refine (Address_any ⟨#[49, 48, 46, 49, 46, 50, 46, 48, 51]⟩ _ (by decide) (HX.out.below (HB5.out))).mono ?_
  rintro e w6 ⟨rfl, hb⟩
  have bl : Blk w6 (w.heap.size) 42 #[.bool false, .int .i64 167837696, .int .i64 16, .int .i64 1, .int .i64 65535, .bool true, .int .i64 167772160, .int .i64 8, .int .i64 80, .int .i64 443, .bool true, .int .i64 167838208, .int .i64 24, .int .i64 80, .int .i64 80] := (bl).on hb
  have bp : Blk w6 (w4.heap.size) 42 #[.bool false, .int .i64 167837696, .int .i64 16, .int .i64 1, .int .i64 65535] := (bp).on hb
  have hbz := hb.size
  have HB6 := Lib.hid ((HB5.out).trans (hb.mono (by first | exact Nat.le_refl _ | omega | (simp; done) | (simp; omega))))
  have hz6 : w.heap.size ≤ w6.heap.size := HB6.out.size
  clear hb hbz
  rw [aw_ad2]
  simp only [tup2]
  have hne : neN false 167837696 16 1 65535 false 167837696 16 1 65535 = false := by decide
  go_wp2_with fail
  have r_bl0 := fun d os => cell_regrown (v := .bool false) (bl.cell 0) d os
  have r_bl1 := fun d os => cell_regrown (v := .int .i64 167837696) (bl.cell 1) d os
  have r_bl2 := fun d os => cell_regrown (v := .int .i64 16) (bl.cell 2) d os
  have r_bl3 := fun d os => cell_regrown (v := .int .i64 1) (bl.cell 3) d os
  have r_bl4 := fun d os => cell_regrown (v := .int .i64 65535) (bl.cell 4) d os
  have r_bl5 := fun d os => cell_regrown (v := .bool true) (bl.cell 5) d os
  have r_bl6 := fun d os => cell_regrown (v := .int .i64 167772160) (bl.cell 6) d os
  have r_bl7 := fun d os => cell_regrown (v := .int .i64 8) (bl.cell 7) d os
  have r_bl8 := fun d os => cell_regrown (v := .int .i64 80) (bl.cell 8) d os
  have r_bl9 := fun d os => cell_regrown (v := .int .i64 443) (bl.cell 9) d os
  have r_bl10 := fun d os => cell_regrown (v := .bool true) (bl.cell 10) d os
  have r_bl11 := fun d os => cell_regrown (v := .int .i64 167838208) (bl.cell 11) d os
  have r_bl12 := fun d os => cell_regrown (v := .int .i64 24) (bl.cell 12) d os
  have r_bl13 := fun d os => cell_regrown (v := .int .i64 80) (bl.cell 13) d os
  have r_bl14 := fun d os => cell_regrown (v := .int .i64 80) (bl.cell 14) d os
  have r_bp0 := fun d os => cell_regrown (v := .bool false) (bp.cell 0) d os
  have r_bp1 := fun d os => cell_regrown (v := .int .i64 167837696) (bp.cell 1) d os
  have r_bp2 := fun d os => cell_regrown (v := .int .i64 16) (bp.cell 2) d os
  have r_bp3 := fun d os => cell_regrown (v := .int .i64 1) (bp.cell 3) d os
  have r_bp4 := fun d os => cell_regrown (v := .int .i64 65535) (bp.cell 4) d os
  refine wp_region_quiet_below (by kernel_rfl) (by kernel_rfl) ?_
  repeat (go_big_quiet_step ((go_at_call 42; go_must (exact Check_is _ _ _ _ _ _ _ _ _ (by first | rw [aw_ck3] | rw [show (Rule.mk true 167838208 24 80 80).ck = 0 from aw_ck2])))))
  refine wpQuiet_nil ?_
  intro _ hw'
  obtain ⟨⟨dq, osq⟩, hw''⟩ := hw'
  subst hw''
  have hb := below_regrown w6 dq osq
  have bl : Blk (Go.Sort.grow (redrawn w6 dq) osq) (w.heap.size) 42 #[.bool false, .int .i64 167837696, .int .i64 16, .int .i64 1, .int .i64 65535, .bool true, .int .i64 167772160, .int .i64 8, .int .i64 80, .int .i64 443, .bool true, .int .i64 167838208, .int .i64 24, .int .i64 80, .int .i64 80] := bl.on hb
  have bp : Blk (Go.Sort.grow (redrawn w6 dq) osq) (w4.heap.size) 42 #[.bool false, .int .i64 167837696, .int .i64 16, .int .i64 1, .int .i64 65535] := bp.on hb
  have HB7 := Lib.hid ((HB6.out).trans (hb.mono (by first | exact Nat.le_refl _ | omega | (simp; done) | (simp; omega))))
  clear hb r_bl0 r_bl1 r_bl2 r_bl3 r_bl4 r_bl5 r_bl6 r_bl7 r_bl8 r_bl9 r_bl10 r_bl11 r_bl12 r_bl13 r_bl14 r_bp0 r_bp1 r_bp2 r_bp3 r_bp4
  generalize Go.Sort.grow (redrawn w6 dq) osq = w7 at *
  have hz7 : w.heap.size ≤ w7.heap.size := HB7.out.size
  go_wp2_with fail
  refine (aw_Dead _ _ bl).mono ?_
  rintro e w8 ⟨⟨db, cp, cd, rfl, hbd, hcd⟩, hb⟩
  have bl : Blk w8 (w.heap.size) 42 #[.bool false, .int .i64 167837696, .int .i64 16, .int .i64 1, .int .i64 65535, .bool true, .int .i64 167772160, .int .i64 8, .int .i64 80, .int .i64 443, .bool true, .int .i64 167838208, .int .i64 24, .int .i64 80, .int .i64 80] := (bl).on hb
  have bp : Blk w8 (w4.heap.size) 42 #[.bool false, .int .i64 167837696, .int .i64 16, .int .i64 1, .int .i64 65535] := (bp).on hb
  have hbz := hb.size
  have HB8 := Lib.hid ((HB7.out).trans (hb.mono (by first | exact Nat.le_refl _ | omega | (simp; done) | (simp; omega))))
  have hz8 : w.heap.size ≤ w8.heap.size := HB8.out.size
  clear hb hbz
  have bd := hbd
  clear hbd
  go_wp2_with fail
  refine (aw_Dec _ _ _ _ _ bl aw_d1).mono ?_
  rintro e w9 ⟨rfl, hb⟩
  have bl : Blk w9 (w.heap.size) 42 #[.bool false, .int .i64 167837696, .int .i64 16, .int .i64 1, .int .i64 65535, .bool true, .int .i64 167772160, .int .i64 8, .int .i64 80, .int .i64 443, .bool true, .int .i64 167838208, .int .i64 24, .int .i64 80, .int .i64 80] := (bl).on hb
  have bp : Blk w9 (w4.heap.size) 42 #[.bool false, .int .i64 167837696, .int .i64 16, .int .i64 1, .int .i64 65535] := (bp).on hb
  have bd : Blk w9 (db) 3 cd := (bd).on hb
  have hbz := hb.size
  have HB9 := Lib.hid ((HB8.out).trans (hb.mono (by first | exact Nat.le_refl _ | omega | (simp; done) | (simp; omega))))
  have hz9 : w.heap.size ≤ w9.heap.size := HB9.out.size
  clear hb hbz
  simp only [aggD]
  go_wp2_with fail
  refine (aw_Dec _ _ _ _ _ (bl.alloc _) aw_d2).mono ?_
  rintro e w10 ⟨rfl, hb⟩
  have n_bl_b1 : w.heap.size < w9.heap.size := by have := bl.lt; omega
  have n_bp_b1 : w4.heap.size < w9.heap.size := by have := bp.lt; omega
  have n_bd_b1 : db < w9.heap.size := by have := bd.lt; omega
  have bl : Blk w10 (w.heap.size) 42 #[.bool false, .int .i64 167837696, .int .i64 16, .int .i64 1, .int .i64 65535, .bool true, .int .i64 167772160, .int .i64 8, .int .i64 80, .int .i64 443, .bool true, .int .i64 167838208, .int .i64 24, .int .i64 80, .int .i64 80] := ((bl).alloc _).on hb
  have bp : Blk w10 (w4.heap.size) 42 #[.bool false, .int .i64 167837696, .int .i64 16, .int .i64 1, .int .i64 65535] := ((bp).alloc _).on hb
  have bd : Blk w10 (db) 3 cd := ((bd).alloc _).on hb
  have b1 : Blk w10 (w9.heap.size) 53 #[.bool false, .int .i64 0] := (Blk.new _ _ _).on hb
  have hbz := hb.size
  have HB10 := Lib.hid (((HB9.out).alloc (by first | exact Nat.le_refl _ | omega | (simp; done) | (simp; omega)) _).trans (hb.mono (by first | exact Nat.le_refl _ | omega | (simp; done) | (simp; omega))))
  have hz10 : w.heap.size ≤ w10.heap.size := HB10.out.size
  clear hb hbz
  simp only [aggD]
  go_wp2_with fail
  refine (aw_Dec _ _ _ _ _ (bl.alloc _) aw_d3).mono ?_
  rintro e w11 ⟨rfl, hb⟩
  have n_bl_b2 : w.heap.size < w10.heap.size := by have := bl.lt; omega
  have n_bp_b2 : w4.heap.size < w10.heap.size := by have := bp.lt; omega
  have n_bd_b2 : db < w10.heap.size := by have := bd.lt; omega
  have n_b1_b2 : w9.heap.size < w10.heap.size := by have := b1.lt; omega
  have bl : Blk w11 (w.heap.size) 42 #[.bool false, .int .i64 167837696, .int .i64 16, .int .i64 1, .int .i64 65535, .bool true, .int .i64 167772160, .int .i64 8, .int .i64 80, .int .i64 443, .bool true, .int .i64 167838208, .int .i64 24, .int .i64 80, .int .i64 80] := ((bl).alloc _).on hb
  have bp : Blk w11 (w4.heap.size) 42 #[.bool false, .int .i64 167837696, .int .i64 16, .int .i64 1, .int .i64 65535] := ((bp).alloc _).on hb
  have bd : Blk w11 (db) 3 cd := ((bd).alloc _).on hb
  have b1 : Blk w11 (w9.heap.size) 53 #[.bool false, .int .i64 0] := ((b1).alloc _).on hb
  have b2 : Blk w11 (w10.heap.size) 53 #[.bool true, .int .i64 1] := (Blk.new _ _ _).on hb
  have hbz := hb.size
  have HB11 := Lib.hid (((HB10.out).alloc (by first | exact Nat.le_refl _ | omega | (simp; done) | (simp; omega)) _).trans (hb.mono (by first | exact Nat.le_refl _ | omega | (simp; done) | (simp; omega))))
  have hz11 : w.heap.size ≤ w11.heap.size := HB11.out.size
  clear hb hbz
  simp only [aggD]
  go_wp2_with fail
  have n_bl_b3 : w.heap.size < w11.heap.size := by have := bl.lt; omega
  have n_bp_b3 : w4.heap.size < w11.heap.size := by have := bp.lt; omega
  have n_bd_b3 : db < w11.heap.size := by have := bd.lt; omega
  have n_b1_b3 : w9.heap.size < w11.heap.size := by have := b1.lt; omega
  have n_b2_b3 : w10.heap.size < w11.heap.size := by have := b2.lt; omega
  have bl : Blk ((w11).alloc (.cells #[.bool false, .int .i64 (-1)] 53)) (w.heap.size) 42 #[.bool false, .int .i64 167837696, .int .i64 16, .int .i64 1, .int .i64 65535, .bool true, .int .i64 167772160, .int .i64 8, .int .i64 80, .int .i64 443, .bool true, .int .i64 167838208, .int .i64 24, .int .i64 80, .int .i64 80] := (bl).alloc _
  have bp : Blk ((w11).alloc (.cells #[.bool false, .int .i64 (-1)] 53)) (w4.heap.size) 42 #[.bool false, .int .i64 167837696, .int .i64 16, .int .i64 1, .int .i64 65535] := (bp).alloc _
  have bd : Blk ((w11).alloc (.cells #[.bool false, .int .i64 (-1)] 53)) (db) 3 cd := (bd).alloc _
  have b1 : Blk ((w11).alloc (.cells #[.bool false, .int .i64 (-1)] 53)) (w9.heap.size) 53 #[.bool false, .int .i64 0] := (b1).alloc _
  have b2 : Blk ((w11).alloc (.cells #[.bool false, .int .i64 (-1)] 53)) (w10.heap.size) 53 #[.bool true, .int .i64 1] := (b2).alloc _
  have b3 : Blk ((w11).alloc (.cells #[.bool false, .int .i64 (-1)] 53)) (w11.heap.size) 53 #[.bool false, .int .i64 (-1)] := Blk.new _ _ _
  have HB12 := Lib.hid (show Below w.heap.size w ((w11).alloc (.cells #[.bool false, .int .i64 (-1)] 53)) from (HB11.out).alloc (by first | exact Nat.le_refl _ | omega | (simp; done) | (simp; omega)) _)
  generalize (w11).alloc (.cells #[.bool false, .int .i64 (-1)] 53) = w12 at *
  have hz12 : w.heap.size ≤ w12.heap.size := HB12.out.size
  have r_bl0 := fun d os => cell_regrown (v := .bool false) (bl.cell 0) d os
  have r_bl1 := fun d os => cell_regrown (v := .int .i64 167837696) (bl.cell 1) d os
  have r_bl2 := fun d os => cell_regrown (v := .int .i64 16) (bl.cell 2) d os
  have r_bl3 := fun d os => cell_regrown (v := .int .i64 1) (bl.cell 3) d os
  have r_bl4 := fun d os => cell_regrown (v := .int .i64 65535) (bl.cell 4) d os
  have r_bl5 := fun d os => cell_regrown (v := .bool true) (bl.cell 5) d os
  have r_bl6 := fun d os => cell_regrown (v := .int .i64 167772160) (bl.cell 6) d os
  have r_bl7 := fun d os => cell_regrown (v := .int .i64 8) (bl.cell 7) d os
  have r_bl8 := fun d os => cell_regrown (v := .int .i64 80) (bl.cell 8) d os
  have r_bl9 := fun d os => cell_regrown (v := .int .i64 443) (bl.cell 9) d os
  have r_bl10 := fun d os => cell_regrown (v := .bool true) (bl.cell 10) d os
  have r_bl11 := fun d os => cell_regrown (v := .int .i64 167838208) (bl.cell 11) d os
  have r_bl12 := fun d os => cell_regrown (v := .int .i64 24) (bl.cell 12) d os
  have r_bl13 := fun d os => cell_regrown (v := .int .i64 80) (bl.cell 13) d os
  have r_bl14 := fun d os => cell_regrown (v := .int .i64 80) (bl.cell 14) d os
  have r_b10 := fun d os => cell_regrown (v := .bool false) (b1.cell 0) d os
  have r_b11 := fun d os => cell_regrown (v := .int .i64 0) (b1.cell 1) d os
  have r_b20 := fun d os => cell_regrown (v := .bool true) (b2.cell 0) d os
  have r_b21 := fun d os => cell_regrown (v := .int .i64 1) (b2.cell 1) d os
  have r_b30 := fun d os => cell_regrown (v := .bool false) (b3.cell 0) d os
  have r_b31 := fun d os => cell_regrown (v := .int .i64 (-1)) (b3.cell 1) d os
  simp only [List.append]
  have r_bd := fun d os => cell_regrown (v := .int .i64 2) ((bd.cell 0).trans hcd) d os
  refine wp_region_quiet_below (by kernel_rfl) (by kernel_rfl) ?_
  repeat (go_big_quiet_step (first | (go_at_call 58; go_must (exact Covers_is _ _ _ _ _ _ _ _ _ _ _ _ _ _ (by first | rw [aw_c1'] | rw [aw_c2']))) | (go_at_call 56; go_must (exact Matches_is _ _ _ _ _ _ _ _ _ _ _ aw_m))))
  refine wpQuiet_nil ?_
  intro _ hw'
  obtain ⟨⟨dq, osq⟩, hw''⟩ := hw'
  subst hw''
  have hb := below_regrown w12 dq osq
  have bl : Blk (Go.Sort.grow (redrawn w12 dq) osq) (w.heap.size) 42 #[.bool false, .int .i64 167837696, .int .i64 16, .int .i64 1, .int .i64 65535, .bool true, .int .i64 167772160, .int .i64 8, .int .i64 80, .int .i64 443, .bool true, .int .i64 167838208, .int .i64 24, .int .i64 80, .int .i64 80] := bl.on hb
  have bp : Blk (Go.Sort.grow (redrawn w12 dq) osq) (w4.heap.size) 42 #[.bool false, .int .i64 167837696, .int .i64 16, .int .i64 1, .int .i64 65535] := bp.on hb
  have bd : Blk (Go.Sort.grow (redrawn w12 dq) osq) (db) 3 cd := bd.on hb
  have b1 : Blk (Go.Sort.grow (redrawn w12 dq) osq) (w9.heap.size) 53 #[.bool false, .int .i64 0] := b1.on hb
  have b2 : Blk (Go.Sort.grow (redrawn w12 dq) osq) (w10.heap.size) 53 #[.bool true, .int .i64 1] := b2.on hb
  have b3 : Blk (Go.Sort.grow (redrawn w12 dq) osq) (w11.heap.size) 53 #[.bool false, .int .i64 (-1)] := b3.on hb
  have HB13 := Lib.hid ((HB12.out).trans (hb.mono (by first | exact Nat.le_refl _ | omega | (simp; done) | (simp; omega))))
  clear hb r_bl0 r_bl1 r_bl2 r_bl3 r_bl4 r_bl5 r_bl6 r_bl7 r_bl8 r_bl9 r_bl10 r_bl11 r_bl12 r_bl13 r_bl14 r_b10 r_b11 r_b20 r_b21 r_b30 r_b31
  generalize Go.Sort.grow (redrawn w12 dq) osq = w13 at *
  have hz13 : w.heap.size ≤ w13.heap.size := HB13.out.size
  clear r_bd
  go_wp2_with fail
  go_ret
  exact ⟨rfl, HB13.out⟩
end Go.Proofs.YtpkekfhnpcjgkaaDoor
