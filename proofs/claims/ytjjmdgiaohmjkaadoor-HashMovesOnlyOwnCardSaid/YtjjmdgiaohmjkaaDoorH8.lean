/- The walks of the table, and of Crc. -/
import Derived.Test.YtjjmdgiaohmjkaaDoorH7
import Derived.Laws.Rows
import Derived.Laws.CopyOwn
namespace Go.Proofs.YtjjmdgiaohmjkaaDoor
open Go.RowKit
open Go.Sort (grow)

set_option maxHeartbeats 4000000 in
set_option maxRecDepth 20000 in
theorem table_any (w : World) : Calls Tryd.prog 32 #[] w fun e w' => e = .returned (.agg (tabA 256)) ∧ Below w.heap.size w w' := by
  have HT := Lib.hid tab_zero
  have bk0 : Blk ((w.alloc (.cells Tryd.zeroCells55 55)).alloc (.cells Tryd.zeroCells55 55)) w.heap.size 55 (tabA 0) := by rw [← tab_zero]; exact (Blk.new _ _ _).alloc _
  have bk1 : Blk ((w.alloc (.cells Tryd.zeroCells55 55)).alloc (.cells Tryd.zeroCells55 55)) (w.heap.size + 1) 55 (tabA 0) := by rw [← tab_zero]; exact Blk.new1 _ _ _ _
  have hbw : Below w.heap.size w ((w.alloc (.cells Tryd.zeroCells55 55)).alloc (.cells Tryd.zeroCells55 55)) := ((Below.refl _ _).alloc (Nat.le_refl _) _).alloc (by simp) _
  have B0 := Lib.hid bk0
  have B1 := Lib.hid bk1
  have BW := Lib.hid hbw
  clear bk0 bk1 hbw
  go_enter Tryd.func32, Tryd.ntmps32
  go_wp2_with fail
  generalize (w.alloc (.cells Tryd.zeroCells55 55)).alloc (.cells Tryd.zeroCells55 55) = W at *
  go_loopw [5] (fun i wr => ∃ k : Nat, k ≤ 256 ∧ i = .int .i64 k ∧ Blk wr (w.heap.size + 1) 55 (tabA k) ∧ Blk wr w.heap.size 55 (tabA 0) ∧ Below w.heap.size w wr) (fun i _ => 256 - (intOf i).toNat)
  case atStart => exact ⟨0, by omega, rfl, B1.out, B0.out, BW.out⟩
  case round =>
    obtain ⟨k, hk, rfl, hb1, hb0, hbr⟩ := hrel
    obtain ⟨wo, rfl⟩ : ∃ wo : World, wo = wr := ⟨_, rfl⟩
    have HB := Lib.hid hbr
    have BA := Lib.hid hb0
    have BB := Lib.hid hb1
    have hl1 := hb1.lt
    have hki : (k : Int) ≤ 256 := by omega
    have hk0 : (0 : Int) ≤ k := by omega
    clear hbr hb0
    by_cases hlt : k < 256
    · have hfz := hb1.frozen k
      have hce : wo.cell? ⟨w.heap.size + 1, k, none⟩ = some (.int .u32 0) := by
        rw [hb1.cell, tabA_at hlt, if_neg (by omega)]; rfl
      have HST := Lib.hid (tabA_set hlt)
      have hkw : (k : Int) % 4294967296 = k := by omega
      have hklt : (k : Int) < 256 := by omega
      clear hb1
      go_wp2_with fail
      go_loop [3, 4, 10] (fun r lo j => ∃ q t : Nat, q ≤ 8 ∧ j = .int .i64 q ∧ r = .int .u32 t ∧ t = crN q k ∧ t < 4294967296) (fun _ _ j => 8 - (intOf j).toNat)
      case atStart => exact ⟨0, k, by omega, rfl, rfl, rfl, by omega⟩
      case round =>
        obtain ⟨q, t, hq, rfl, rfl, ht, htl⟩ := hrel
        by_cases hq8 : q < 8
        · have ha := a32 t htl
          rcases Nat.mod_two_eq_zero_or_one t with h2 | h2
          · have HT := Lib.hid (show crN (q + 1) k = t / 2 by rw [ht]; exact crN_ev (by rw [← ht]; exact h2))
            rw [h2] at ha
            have HA := Lib.hid ht
            clear ht h2
            go_wp2_with fail
            go_round
            case rel => exact ⟨q + 1, t / 2, by omega, by go_num, by go_num, HT.out.symm, by omega⟩
            case measure => simp [intOf]; omega
          · have HT := Lib.hid (show crN (q + 1) k = (t / 2) ^^^ 3988292384 by rw [ht]; exact crN_odd (by rw [← ht]; exact h2))
            have hx2 := x32 (t / 2) 3988292384 (by omega) (by omega)
            have HL : Hid ((t / 2) ^^^ 3988292384 < 4294967296) := Nat.xor_lt_two_pow (n := 32) (by omega) (by omega)
            rw [h2] at ha
            have HA := Lib.hid ht
            have HX2 := Lib.hid hx2
            clear ht h2 hx2
            go_wp2_with fail
            go_round
            case rel => exact ⟨q + 1, (t / 2) ^^^ 3988292384, by omega, by go_num, by rw [← HX2.out]; go_num, HT.out.symm, HL.out⟩
            case measure => simp [intOf]; omega
        · obtain rfl : q = 8 := by omega
          have HT := Lib.hid ht
          clear ht
          go_wp2_with fail
          go_roundw
          case rel => exact ⟨k + 1, by omega, by go_num, by rw [← HST.out, ← HT.out]; exact BB.out.set_ k _, BA.out.far (p := ⟨w.heap.size + 1, k, none⟩) (by show w.heap.size ≠ w.heap.size + 1; omega) _, HB.out.setCell (p := ⟨w.heap.size + 1, k, none⟩) (by show w.heap.size ≤ w.heap.size + 1; omega) _⟩
          case measure => simp [intOf]; omega
    · obtain rfl : k = 256 := by omega
      have hsz : (Tryd.prog.info? 55).map (·.size) = some (tabA 256).size := by rw [tabA_size]; kernel_rfl
      have HSZ := Lib.hid hsz
      have HS1 := Lib.hid (show (tabA 0).size = (tabA 256).size by rw [tabA_size, tabA_size])
      have HS2 := Lib.hid (show (tabA 256).all (·.oneCell') = true by kernel_rfl)
      clear hsz
      go_wp2_with (first
        | (refine wpList_load_row rfl 55 (.tmp 1) rfl (w.heap.size + 1) rfl 55 (tabA 256) (0, 0) _ BB.out Tryd.underlying55 rfl HSZ.out ?_)
        | (refine wpList_store_row rfl 55 (.tmp 0) (.tmp 25) rfl w.heap.size (tabA 256) rfl rfl 55 (tabA 0) BA.out HSZ.out HS1.out HS2.out ?_))
      have hg2 : (wo.setRow w.heap.size (tabA 256)).heap[w.heap.size]? = some (.cells (tabA 256) 55 (0, 0)) := setRow_heap wo _ _ _ _ _ BA.out
      exact bodyPost_ret (results_cell_row rfl _ _ w.heap.size 55 (tabA 256) (0, 0) _ rfl hg2 Tryd.underlying55 rfl HSZ.out) rfl ⟨rfl, below_setRow HB.out (Nat.le_refl _) _⟩

/-! ### Crc -/
theorem xor_lt256 {a b : Nat} (ha : a < 256) (hb : b < 256) : a ^^^ b < 256 := Nat.xor_lt_two_pow (n := 8) (by omega) (by omega)
theorem crL_tab (s : ByteArray) (k : Nat) (h : k < s.size) : crL (s.data.toList.take (k + 1)) = crN 8 (crL (s.data.toList.take k) % 256 ^^^ s[k].toNat) ^^^ (crL (s.data.toList.take k) / 256) := by
  rw [take_snoc s k h, crL_snoc, crS_table]
set_option maxHeartbeats 2000000 in
set_option maxRecDepth 20000 in
theorem Crc_any (s : ByteArray) (w : World) (hs : s.size ≤ 9223372036854775807) : Calls Tryd.prog 18 #[.string s] w fun e w' => e = .returned (.int .u32 (crcI s.data.toList)) ∧ Below w.heap.size w w' := by
  have HS1 := Lib.hid (show (Tryd.prog.info? 55).map (·.size) = some (tabA 256).size by rw [tabA_size]; kernel_rfl)
  have HS2 := Lib.hid (show Tryd.zeroCells55.size = (tabA 256).size by rw [tab_zero, tabA_size, tabA_size])
  have HS3 := Lib.hid (show (tabA 256).all (·.oneCell') = true by kernel_rfl)
  go_enter Tryd.func18, Tryd.ntmps18
  go_wp2_with fail
  refine (table_any w).mono ?_
  rintro e w1 ⟨rfl, hb⟩
  have HB := Lib.hid hb
  have hz := hb.size
  have BK := Lib.hid (setRow_heap (w1.alloc (.cells Tryd.zeroCells55 55)) w1.heap.size _ (tabA 256) _ _ (heap_alloc_new w1 _))
  have HB2 := Lib.hid (below_setRow (cs := tabA 256) (HB.out.alloc hz (.cells Tryd.zeroCells55 55)) hz)
  clear hb
  go_wp2_with (refine wpList_store_row rfl 55 (.tmp 3) (.tmp 6) rfl w1.heap.size (tabA 256) rfl rfl 55 Tryd.zeroCells55 (heap_alloc_new w1 _) HS1.out HS2.out HS3.out ?_)
  generalize (w1.alloc (.cells Tryd.zeroCells55 55)).setRow w1.heap.size (tabA 256) = W at *
  have hlW : w1.heap.size < W.heap.size := (Array.getElem?_eq_some_iff.1 BK.out).1
  go_loop [4, 5, 9] (fun h _ i => ∃ k m : Nat, k ≤ s.size ∧ i = .int .i64 k ∧ h = .int .u32 m ∧ m = crL (s.data.toList.take k) ∧ m < 4294967296) (fun _ _ i => s.size - (intOf i).toNat)
  case atStart => exact ⟨0, 4294967295, Nat.zero_le _, rfl, rfl, rfl, by decide⟩
  case round =>
    obtain ⟨k, m, hk, rfl, rfl, hm, hml⟩ := hrel
    by_cases hp : k < s.size
    · have hst := crL_tab s k hp
      rw [← hm] at hst
      have hbl := s[k].toNat_lt
      obtain ⟨j, hj⟩ : ∃ j, j = m % 256 ^^^ s[k].toNat := ⟨_, rfl⟩
      have hj256 : j < 256 := by rw [hj]; exact xor_lt256 (by omega) (by omega)
      have hx := x8 (m % 256) s[k].toNat (by omega) (by omega)
      rw [← hj, show ((m % 256 : Nat) : Int) = (m : Int) % 256 by omega] at hx
      rw [← hj] at hst
      have hcj : W.cell? ⟨w1.heap.size, j, none⟩ = some (.int .u32 (crN 8 j : Nat)) := by
        rw [cell_of_row W _ _ _ _ _ BK.out, tabA_at hj256, if_pos hj256]
      have hcl := crN_lt (r := j) (by omega) 8
      have hx2 := x32 (crN 8 j) (m / 256) hcl (by omega)
      have HL := Lib.hid (show crN 8 j ^^^ (m / 256) < 4294967296 from Nat.xor_lt_two_pow (n := 32) (by omega) (by omega))
      have HST := Lib.hid hst
      have HM := Lib.hid hm
      have hji : (j : Int) < 256 := by omega
      have hj0 : (0 : Int) ≤ j := by omega
      have HX2 := Lib.hid hx2
      clear hst hm hj hx2
      go_wp2_with fail
      go_round
      case rel => exact ⟨k + 1, crN 8 j ^^^ (m / 256), by omega, by go_num, by rw [← HX2.out]; go_num, HST.out.symm, HL.out⟩
      case measure => simp [intOf]; omega
    · obtain rfl : k = s.size := by omega
      rw [take_size] at hm
      have HN := Lib.hid (show bits .xor .u32 4294967295 (m : Int) = crcI s.data.toList by rw [n32 m hml, hm]; rfl)
      clear hm hml hs
      generalize (m : Int) = mi at *
      go_wp2_with fail
      go_ret
      exact ⟨ret_int HN.out, HB2.out⟩
end Go.Proofs.YtjjmdgiaohmjkaaDoor
