/- The example of the chapter. -/
import Derived.Test.YtmpaogmfceldjaaDoorKWH
namespace Go.Proofs.YtmpaogmfceldjaaDoor
open Go.RowKit
open Go.Sort (grow)

/-- A pool that this call has made. -/
structure PX (w0 w : World) (p m : Nat) (s : PS) : Prop where
  pool : ∃ A c, PoolAt w w0.heap.size p m A c s
  ok : s.ok
  bt : s.bt ≤ 1000000
  below : Below w0.heap.size w0 w
theorem PoolTo.out {w w' : World} {B p m c : Nat} {A : Option Addr} {s t : PS} (h : PoolAt w B p m A c s) (ht : PoolTo w B p m A t w') (hB : B ≤ w.heap.size) : (∃ A' c', PoolAt w' B p m A' c' t) ∧ Below B w w' := by
  obtain ⟨A', c', h1, h2, _⟩ := ht
  exact ⟨⟨A', c', h1⟩, h2.toBelow (fun k hk => (h.foot_lt k hk).1) hB⟩
theorem PX.to {w0 w w' : World} {p m : Nat} {A : Option Addr} {c : Nat} {s t : PS} (h : PX w0 w p m s) (hP : PoolAt w w0.heap.size p m A c s) (ht : PoolTo w w0.heap.size p m A t w') (hok : t.ok) (hbt : t.bt ≤ 1000000) : PX w0 w' p m t := by
  obtain ⟨h1, h2⟩ := ht.out hP h.below.size
  exact ⟨h1, hok, hbt, h.below.trans h2⟩
theorem PX.on {w0 w w' : World} {p m : Nat} {s : PS} (h : PX w0 w p m s) (hb : Below w.heap.size w w') : PX w0 w' p m s := by
  obtain ⟨A, c, hP⟩ := h.pool
  exact ⟨⟨A, c, hP.below hb⟩, h.ok, h.bt, h.below.trans (hb.mono h.below.size)⟩
theorem PX.laid {w0 w : World} {p m : Nat} {s : PS} (h : PX w0 w p m s) (hl : LaidW w0) : LaidW w := hl.below h.below
section
variable {w0 w : World} {p m : Nat} {s t : PS}
theorem acq_px (h : PX w0 w p m s) (hl : LaidW w0) {now : Int} {a : ByteArray} {b n : Int} (e : acqS s now = (t, a, b, n)) (hbt : t.bt ≤ 1000000) :
    Calls Tryd.prog 11 #[.pointer (some ⟨p, 0, none⟩), .int .i64 now] w fun r w' => r = .returned (.tuple #[.string a, .int .i64 b, .int .i64 n]) ∧ PX w0 w' p m t := by
  obtain ⟨A, c, hP⟩ := h.pool
  refine (Acquire_any hP h.ok h.bt (h.laid hl) now).mono ?_
  rintro r w' ⟨rfl, ht⟩
  have ho := (acq_ok h.ok now).1
  rw [e] at ht ho
  exact ⟨by unfold tup3; rw [e], h.to hP ht ho hbt⟩
theorem rel_px (h : PX w0 w p m s) {id : ByteArray} {now n : Int} (e : relS s id now = (t, n)) (hbt : t.bt ≤ 1000000) (hid : id.size ≤ 9223372036854775807) :
    Calls Tryd.prog 13 #[.pointer (some ⟨p, 0, none⟩), .string id, .int .i64 now] w fun r w' => r = .returned (.int .i64 n) ∧ PX w0 w' p m t := by
  obtain ⟨A, c, hP⟩ := h.pool
  refine (Release_any hP h.ok id hid now).mono ?_
  rintro r w' ⟨rfl, ht⟩
  have ho := (rel_ok h.ok id now).1
  rw [e] at ht ho
  exact ⟨by rw [e], h.to hP ht ho hbt⟩
theorem cra_px (h : PX w0 w p m s) {id : ByteArray} {now n : Int} (e : craS s id now = (t, n)) (hbt : t.bt ≤ 1000000) (hid : id.size ≤ 9223372036854775807) :
    Calls Tryd.prog 18 #[.pointer (some ⟨p, 0, none⟩), .string id, .int .i64 now] w fun r w' => r = .returned (.int .i64 n) ∧ PX w0 w' p m t := by
  obtain ⟨A, c, hP⟩ := h.pool
  refine (Crash_any hP h.ok id hid now).mono ?_
  rintro r w' ⟨rfl, ht⟩
  have ho := (cra_ok h.ok id now).1
  rw [e] at ht ho
  exact ⟨by rw [e], h.to hP ht ho hbt⟩
theorem exp_px (h : PX w0 w p m s) {now : Int} {l : List ByteArray} (e : expS s now = (t, l)) (hbt : t.bt ≤ 1000000) :
    Calls Tryd.prog 16 #[.pointer (some ⟨p, 0, none⟩), .int .i64 now] w fun r w' => ∃ pv cv, r = .returned (.slice pv l.length cv) ∧ OwnS w' w.heap.size (.slice pv l.length cv) l ∧ PX w0 w' p m t := by
  obtain ⟨A, c, hP⟩ := h.pool
  refine (Expire_any hP h.ok now).mono ?_
  rintro r w' ⟨v, rfl, hv, ht⟩
  have ho := (exp_ok h.ok now).1
  rw [e] at ht ho hv
  obtain ⟨pv, cv, rfl⟩ := own_slice hv
  exact ⟨pv, cv, rfl, hv, h.to hP ht ho hbt⟩
theorem cnt_px (h : PX w0 w p m s) {a b : Nat} (h1 : busyN s.l = a) (h2 : s.l.length - busyN s.l = b) :
    Calls Tryd.prog 20 #[.pointer (some ⟨p, 0, none⟩)] w fun r w' => r = .returned (.tuple #[.int .i64 a, .int .i64 b]) ∧ PX w0 w' p m s := by
  obtain ⟨A, c, hP⟩ := h.pool
  refine (Counts_any hP h.ok).mono ?_
  rintro r w' ⟨rfl, hb⟩
  exact ⟨by rw [← h1, ← h2], h.on hb⟩
theorem lst_px (h : PX w0 w p m s) :
    Calls Tryd.prog 23 #[.pointer (some ⟨p, 0, none⟩)] w fun r w' => ∃ pv cv, r = .returned (.slice pv s.l.length cv) ∧ OwnL w' w.heap.size (.slice pv s.l.length cv) s.l ∧ Below w.heap.size w w' ∧ PX w0 w' p m s := by
  obtain ⟨A, c, hP⟩ := h.pool
  refine (List_any hP h.ok).mono ?_
  rintro r w' ⟨v, rfl, hv, hb⟩
  obtain ⟨pv, cv, rfl⟩ := own_slice hv
  exact ⟨pv, cv, rfl, hv, hb, h.on hb⟩
theorem col_px (h : PX w0 w p m s) :
    Calls Tryd.prog 25 #[.pointer (some ⟨p, 0, none⟩)] w fun r w' => r = .returned (.int .i64 s.bt) ∧ PX w0 w' p m s := by
  obtain ⟨A, c, hP⟩ := h.pool
  refine (Colds_any hP h.ok.mx.1).mono ?_
  rintro r w' ⟨rfl, rfl⟩
  exact ⟨rfl, h⟩
end
def aw0 : PS := ⟨⟨#[112]⟩, ⟨2, 10, 2, 3⟩, 0, 0, []⟩
def aw1 : PS := ⟨⟨#[112]⟩, ⟨2, 10, 2, 3⟩, 0, 1, [⟨⟨#[112, 46, 48]⟩, 3, 3, 1⟩]⟩
def aw2 : PS := ⟨⟨#[112]⟩, ⟨2, 10, 2, 3⟩, 1, 2, [⟨⟨#[112, 46, 48]⟩, 3, 3, 1⟩, ⟨⟨#[112, 46, 49]⟩, 3, 4, 1⟩]⟩
def aw3 : PS := ⟨⟨#[112]⟩, ⟨2, 10, 2, 3⟩, 5, 2, [⟨⟨#[112, 46, 48]⟩, 2, 5, 1⟩, ⟨⟨#[112, 46, 49]⟩, 3, 4, 1⟩]⟩
def aw4 : PS := ⟨⟨#[112]⟩, ⟨2, 10, 2, 3⟩, 6, 2, [⟨⟨#[112, 46, 48]⟩, 3, 6, 2⟩, ⟨⟨#[112, 46, 49]⟩, 3, 4, 1⟩]⟩
def aw5 : PS := ⟨⟨#[112]⟩, ⟨2, 10, 2, 3⟩, 7, 2, [⟨⟨#[112, 46, 49]⟩, 3, 4, 1⟩]⟩
def aw6 : PS := ⟨⟨#[112]⟩, ⟨2, 10, 2, 3⟩, 7, 2, [⟨⟨#[112, 46, 49]⟩, 2, 7, 1⟩]⟩
def aw7 : PS := ⟨⟨#[112]⟩, ⟨2, 10, 2, 3⟩, 16, 2, [⟨⟨#[112, 46, 49]⟩, 2, 7, 1⟩]⟩
def aw8 : PS := ⟨⟨#[112]⟩, ⟨2, 10, 2, 3⟩, 17, 2, []⟩
theorem awa_0_0 : acqS aw0 0 = (aw1, ⟨#[112, 46, 48]⟩, 3, 0) := by kernel_rfl
theorem awa_1_1 : acqS aw1 1 = (aw2, ⟨#[112, 46, 49]⟩, 4, 0) := by kernel_rfl
theorem awa_2_2 : acqS aw2 2 = (aw2, ⟨#[]⟩, 0, 17) := by kernel_rfl
theorem awa_3_6 : acqS aw3 6 = (aw4, ⟨#[112, 46, 48]⟩, 6, 0) := by kernel_rfl
theorem awr_2_0_2 : relS aw2 ⟨#[112, 46, 48]⟩ 2 = (aw2, 11) := by kernel_rfl
theorem awr_2_0_5 : relS aw2 ⟨#[112, 46, 48]⟩ 5 = (aw3, 0) := by kernel_rfl
theorem awr_3_0_5 : relS aw3 ⟨#[112, 46, 48]⟩ 5 = (aw3, 10) := by kernel_rfl
theorem awr_4_0_7 : relS aw4 ⟨#[112, 46, 48]⟩ 7 = (aw5, 0) := by kernel_rfl
theorem awr_5_1_7 : relS aw5 ⟨#[112, 46, 49]⟩ 7 = (aw6, 0) := by kernel_rfl
theorem awe_6 : expS aw6 16 = (aw7, []) := by kernel_rfl
theorem awe_7 : expS aw7 17 = (aw8, [⟨#[112, 46, 49]⟩]) := by kernel_rfl
theorem awc_8 : craS aw8 ⟨#[112, 46, 49]⟩ 17 = (aw8, 5) := by kernel_rfl
theorem OwnS.one {w : World} {base : Nat} (x : ByteArray) (hb : base ≤ w.heap.size) : OwnS (w.alloc (.cells #[.string x] 9)) base (.slice (some ⟨w.heap.size, 0, none⟩) 1 1) [x] := ⟨rfl, .inr ⟨w.heap.size, 1, #[.string x], rfl, hb, heap_alloc_new _ _, by simp [maxLen, svals]⟩⟩
theorem awn_0 : newE ⟨#[112]⟩ ⟨2, 10, 2, 3⟩ = 0 := by kernel_rfl
theorem awn_1 : newE ⟨#[112]⟩ ⟨0, 0, 0, 0⟩ = 2 := by kernel_rfl
theorem awn_2 : newE ⟨#[]⟩ ⟨0, 0, 0, 0⟩ = 4 := by kernel_rfl
theorem new_px {w : World} : Calls Tryd.prog 7 #[.string ⟨#[112]⟩, .agg #[.int .i64 2, .int .i64 10, .int .i64 2, .int .i64 3]] w fun r w' => ∃ p m, r = .returned (.tuple #[.pointer (some ⟨p, 0, none⟩), .int .i64 0]) ∧ PX w w' p m aw0 := by
  refine (New_any ⟨#[112]⟩ 2 10 2 3 w (by decide)).mono ?_
  rintro r w' (⟨h, _⟩ | ⟨_, p, m, rfl, hP, hb⟩)
  · exact absurd awn_0 h
  · exact ⟨p, m, rfl, ⟨none, 0, hP⟩, new_ok awn_0, by decide, hb⟩
theorem new_bad {nm : ByteArray} {n : Int} (h : newE nm ⟨0, 0, 0, 0⟩ = n) (hn : n ≠ 0) (hs : nm.size ≤ 9223372036854775807) (w : World) : Calls Tryd.prog 7 #[.string nm, .agg #[.int .i64 0, .int .i64 0, .int .i64 0, .int .i64 0]] w fun r w' => r = .returned (.tuple #[.pointer none, .int .i64 n]) ∧ Below w.heap.size w w' := by
  subst h
  refine (New_any nm 0 0 0 0 w hs).mono ?_
  rintro r w' (⟨_, rfl, hb⟩ | ⟨h, _⟩)
  · exact ⟨rfl, hb⟩
  · exact absurd h hn
set_option maxHeartbeats 16000000 in
set_option maxRecDepth 100000 in
theorem awake_any (w : World) (hl : LaidW w) : Calls Tryd.prog 9 #[] w fun e w' => e = .returned (.bool true) ∧ Below w.heap.size w w' := by
  have HL := Lib.hid hl
  clear hl
  go_enter Tryd.func9, Tryd.ntmps9
  go_wp2_with fail
  refine new_px.mono ?_
  rintro e w1 ⟨p, m, rfl, hx⟩
  go_wp2_with fail
  refine (acq_px hx HL.out awa_0_0 (by decide)).mono ?_
  rintro e w2 ⟨rfl, hx⟩
  go_wp2_with fail
  refine (acq_px hx HL.out awa_1_1 (by decide)).mono ?_
  rintro e w3 ⟨rfl, hx⟩
  go_wp2_with fail
  refine (acq_px hx HL.out awa_2_2 (by decide)).mono ?_
  rintro e w4 ⟨rfl, hx⟩
  go_wp2_with fail
  refine (rel_px hx awr_2_0_2 (by decide) (by decide)).mono ?_
  rintro e w5 ⟨rfl, hx⟩
  go_wp2_with fail
  refine (rel_px hx awr_2_0_5 (by decide) (by decide)).mono ?_
  rintro e w6 ⟨rfl, hx⟩
  go_wp2_with fail
  refine (rel_px hx awr_3_0_5 (by decide) (by decide)).mono ?_
  rintro e w7 ⟨rfl, hx⟩
  go_wp2_with fail
  refine (acq_px hx HL.out awa_3_6 (by decide)).mono ?_
  rintro e w8 ⟨rfl, hx⟩
  go_wp2_with fail
  refine (cnt_px hx (a := 2) (b := 0) rfl rfl).mono ?_
  rintro e w9 ⟨rfl, hx⟩
  go_wp2_with fail
  refine (rel_px hx awr_4_0_7 (by decide) (by decide)).mono ?_
  rintro e w10 ⟨rfl, hx⟩
  go_wp2_with fail
  refine (rel_px hx awr_5_1_7 (by decide) (by decide)).mono ?_
  rintro e w11 ⟨rfl, hx⟩
  go_wp2_with fail
  refine (exp_px hx awe_6 (by decide)).mono ?_
  rintro e w12 ⟨pv, cv, rfl, -, hx⟩
  go_wp2_with fail
  obtain ⟨A, c, hP⟩ := hx.pool
  refine (List_any hP hx.ok).mono ?_
  rintro e w13 ⟨v, rfl, hol, hb⟩
  obtain ⟨pl, cl, rfl⟩ := own_slice hol
  have hfl := fun k hk => (hP.foot_lt k hk).2
  have hx := hx.on hb
  have hP := hP.below hb
  clear hb
  have q7 : ∃ g, pl = some ⟨g, 0, none⟩ ∧ w12.heap.size ≤ g ∧ g < w13.heap.size ∧ w13.cell? ⟨g, 0, none⟩ = some (.string ⟨#[112, 46, 49]⟩) ∧ w13.cell? ⟨g, 1, none⟩ = some (.int .i64 2) ∧ w13.cell? ⟨g, 2, none⟩ = some (.int .i64 7) ∧ w13.cell? ⟨g, 3, none⟩ = some (.int .i64 1) := by
    obtain ⟨g, cap, hg, hg0, hg1, q⟩ := OwnL.at_ hol (by decide)
    injection hg with hg _ _
    obtain ⟨l0, l1, l2, l3⟩ := q 0 _ rfl
    exact ⟨g, hg, hg0, hg1, l0, l1, l2, l3⟩
  obtain ⟨g, rfl, hg0, hg1, l0, l1, l2, l3⟩ := q7
  clear hol
  go_wp2_with fail
  refine (Expire_any hP hx.ok 17).mono ?_
  rintro e w14 ⟨v, rfl, hv, ht⟩
  rw [awe_7] at hv ht
  have hcell : ∀ j, w14.cell? ⟨g, j, none⟩ = w13.cell? ⟨g, j, none⟩ := fun j => by
    obtain ⟨A', c', _, hc, _⟩ := ht
    exact hc.cell (p := ⟨g, j, none⟩) hg1 (fun hk => by have := hfl g hk; omega)
  have l0 := (hcell 0).trans l0
  have l1 := (hcell 1).trans l1
  have l2 := (hcell 2).trans l2
  have l3 := (hcell 3).trans l3
  have hx : PX w w14 p m aw8 := hx.to hP ht (by have := (exp_ok hx.ok 17).1; rw [awe_7] at this; exact this) (by decide)
  have hg2 : g < w14.heap.size := block_lt_of_cell l0
  clear hcell hP hfl ht
  obtain ⟨pv, cv, rfl⟩ := own_slice hv
  have HV := Lib.hid hv
  clear hv
  go_wp2_with fail
  refine (new_bad awn_1 (by decide) (by decide) _).mono ?_
  rintro e w15 ⟨rfl, hb⟩
  have hx := hx.on hb
  have HV := Lib.hid (HV.out.on hb)
  have l0 := (hb.cell (p := ⟨g, 0, none⟩) hg2).trans l0
  have l1 := (hb.cell (p := ⟨g, 1, none⟩) hg2).trans l1
  have l2 := (hb.cell (p := ⟨g, 2, none⟩) hg2).trans l2
  have l3 := (hb.cell (p := ⟨g, 3, none⟩) hg2).trans l3
  have hg2 : g < w15.heap.size := block_lt_of_cell l0
  clear hb
  go_wp2_with fail
  refine (new_bad awn_2 (by decide) (by decide) _).mono ?_
  rintro e w16 ⟨rfl, hb⟩
  have hx := hx.on hb
  have HV := Lib.hid (HV.out.on hb)
  have l0 := (hb.cell (p := ⟨g, 0, none⟩) hg2).trans l0
  have l1 := (hb.cell (p := ⟨g, 1, none⟩) hg2).trans l1
  have l2 := (hb.cell (p := ⟨g, 2, none⟩) hg2).trans l2
  have l3 := (hb.cell (p := ⟨g, 3, none⟩) hg2).trans l3
  have hg2 : g < w16.heap.size := block_lt_of_cell l0
  clear hb
  have HX := Lib.hid hx
  clear hx
  go_wp2_with fail
  refine (SameS_any (l := [⟨#[112, 46, 49]⟩]) (HV.out.on ((Below.refl _ _).alloc (Nat.le_refl _) _)) (OwnS.one (w := w16) _ (Nat.le_refl _)) (by decide)).mono ?_
  rintro e w17 ⟨rfl, hb⟩
  have HX := Lib.hid (HX.out.on (((Below.refl _ _).alloc (Nat.le_refl _) _).trans (hb.mono (by simp))))
  clear hb HV l0 l1 l2 l3
  go_wp2_with fail
  refine (col_px HX.out).mono ?_
  rintro e w18 ⟨rfl, hx⟩
  go_wp2_with fail
  refine (lst_px hx).mono ?_
  rintro e w19 ⟨pl, cl, rfl, -, -, hx⟩
  go_wp2_with fail
  refine (cra_px hx awc_8 (by decide) (by decide)).mono ?_
  rintro e w20 ⟨rfl, hx⟩
  go_wp2_with fail
  go_ret
  exact ⟨rfl, hx.below⟩
end Go.Proofs.YtmpaogmfceldjaaDoor
