/- cron: the law CronParses. -/
import Derived.Test.YtnagnaekcphpiaaDoorCP
import Derived.Test.YtnagnaekcphpiaaDoorCX
namespace Go.Proofs.YtnagnaekcphpiaaDoor
open Go.RowKit
open Go.Sort (grow)

set_option maxHeartbeats 4000000 in
set_option maxRecDepth 20000 in
theorem CronParses_any (s : ByteArray) (m : Int) (w : World) (hs : s.size ≤ 9223372036854775807) (hm : w.cell? ⟨0, 0, none⟩ = some (.int .i64 m)) : Calls Tryd.prog 3 #[.string s] w fun e w' => e = .returned (.bool true) ∧ Below w.heap.size w w' := by
  have HM := Lib.hid hm
  have hw0 := block_lt_of_cell hm
  clear hm
  go_enter Tryd.func3, Tryd.ntmps3
  by_cases h0 : 4100 < s.size
  · have t0 : decide ((4100 : Int) < s.size) = true := decide_eq_true (by omega)
    go_wp2_with fail
    refine (awake_any m _ (((Below.refl w.heap.size w).cell (p := ⟨0, 0, none⟩) hw0).trans HM.out)).mono ?_
    rintro e w1 ⟨rfl, hb⟩
    have hbz := hb.size
    have HB1 := Lib.hid ((Below.refl w.heap.size w).trans (hb.mono (by first | exact Nat.le_refl _ | omega | (simp; done) | (simp; omega))))
    have hz1 : w.heap.size ≤ w1.heap.size := HB1.out.size
    clear hb hbz
    go_wp2_with fail
    go_ret
    exact ⟨rfl, HB1.out⟩
  · have t0 : decide ((4100 : Int) < s.size) = false := decide_eq_false (by omega)
    go_wp2_with fail
    refine (Parse_any s m _ hs (((Below.refl w.heap.size w).cell (p := ⟨0, 0, none⟩) hw0).trans HM.out)).mono ?_
    rintro e w1 ⟨rfl, hb⟩
    have hbz := hb.size
    have HB1 := Lib.hid ((Below.refl w.heap.size w).trans (hb.mono (by first | exact Nat.le_refl _ | omega | (simp; done) | (simp; omega))))
    have hz1 : w.heap.size ≤ w1.heap.size := HB1.out.size
    clear hb hbz
    obtain ⟨⟨c, n⟩, hq⟩ : ∃ q, parseS s = q := ⟨_, rfl⟩
    rw [hq]
    unfold tupC
    dsimp only
    have HQ := Lib.hid hq
    clear hq
    go_wp2_with fail
    refine (rParse_any s _ (by omega)).mono ?_
    rintro e w2 ⟨rfl, hb⟩
    have b1 : Blk w2 (w1.heap.size) 25 #[.int .u64 c.mi, .int .u64 c.ho, .int .u64 c.da] := (Blk.new _ _ _).on hb
    have hbz := hb.size
    have HB2 := Lib.hid (((HB1.out).alloc (by first | exact Nat.le_refl _ | omega | (simp; done) | (simp; omega)) _).trans (hb.mono (by first | exact Nat.le_refl _ | omega | (simp; done) | (simp; omega))))
    have hz2 : w.heap.size ≤ w2.heap.size := HB2.out.size
    clear hb hbz
    rw [HQ.out]
    unfold tupC
    dsimp only
    have qq0 : ((w2).alloc (.cells #[.int .u64 c.mi, .int .u64 c.ho, .int .u64 c.da] 25)).cell? ⟨w1.heap.size, 0, none⟩ = some (.int .u64 c.mi) := (b1.alloc _).cell 0
    have qq1 : ((w2).alloc (.cells #[.int .u64 c.mi, .int .u64 c.ho, .int .u64 c.da] 25)).cell? ⟨w1.heap.size, 1, none⟩ = some (.int .u64 c.ho) := (b1.alloc _).cell 1
    have qq2 : ((w2).alloc (.cells #[.int .u64 c.mi, .int .u64 c.ho, .int .u64 c.da] 25)).cell? ⟨w1.heap.size, 2, none⟩ = some (.int .u64 c.da) := (b1.alloc _).cell 2
    have he := eqC_self c.mi c.ho c.da
    go_wp2_with fail
    refine (awake_any m _ ((((HB2.out).alloc (by first | exact Nat.le_refl _ | omega | (simp; done) | (simp; omega)) _).cell (p := ⟨0, 0, none⟩) hw0).trans HM.out)).mono ?_
    rintro e w3 ⟨rfl, hb⟩
    clear qq0 qq1 qq2
    have b1 : Blk w3 (w1.heap.size) 25 #[.int .u64 c.mi, .int .u64 c.ho, .int .u64 c.da] := ((b1).alloc _).on hb
    have b2 : Blk w3 (w2.heap.size) 25 #[.int .u64 c.mi, .int .u64 c.ho, .int .u64 c.da] := (Blk.new _ _ _).on hb
    have hbz := hb.size
    have HB3 := Lib.hid (((HB2.out).alloc (by first | exact Nat.le_refl _ | omega | (simp; done) | (simp; omega)) _).trans (hb.mono (by first | exact Nat.le_refl _ | omega | (simp; done) | (simp; omega))))
    have hz3 : w.heap.size ≤ w3.heap.size := HB3.out.size
    clear hb hbz
    go_wp2_with fail
    go_ret
    exact ⟨rfl, HB3.out⟩
theorem law_Parses (s : ByteArray) (w : World) (hX : LaidP w) (hs : s.size ≤ 9223372036854775807) : Calls Tryd.prog 3 #[.string s] w fun e w' => e = .returned (.bool true) ∧ Below w.heap.size w w' := by
  obtain ⟨m, hm⟩ := hX
  exact CronParses_any s m w hs hm
end Go.Proofs.YtnagnaekcphpiaaDoor
