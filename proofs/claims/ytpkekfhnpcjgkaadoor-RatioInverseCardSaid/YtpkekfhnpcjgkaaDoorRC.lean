/- The walk of the reference's Parse. -/
import Derived.Test.YtpkekfhnpcjgkaaDoorRB
namespace Go.Proofs.YtpkekfhnpcjgkaaDoor
open Go.RowKit
open Rt

set_option maxHeartbeats 2000000 in
theorem qrParse_any (s : ByteArray) (w : World) (hs : s.size ≤ 140737488351232) :
    Calls Tryd.prog 29 #[.string s] w fun e w' => e = .returned (tupR (prS s)) ∧ Below w.heap.size w w' := by
  go_enter Tryd.func29, Tryd.ntmps29
  go_wp2_with fail
  have br : Blk ((w).alloc (.cells #[.int .i64 0, .int .i64 0] 23)) (w.heap.size) 23 #[.int .i64 0, .int .i64 0] := Blk.new _ _ _
  have HB1 := Lib.hid (show Below w.heap.size w ((w).alloc (.cells #[.int .i64 0, .int .i64 0] 23)) from (Below.refl w.heap.size w).alloc (by first | exact Nat.le_refl _ | omega | (simp; done) | (simp; omega)) _)
  generalize (w).alloc (.cells #[.int .i64 0, .int .i64 0] 23) = w1 at *
  have hz1 : w.heap.size ≤ w1.heap.size := HB1.out.size
  go_loop [4] (fun i => ∃ k : Nat, k ≤ s.size ∧ i = .int .i64 k ∧ NoB 47 s.data.toList k) (fun i => s.size - (intOf i).toNat)
  case atStart => exact ⟨0, Nat.zero_le _, rfl, NoB.zero _ _⟩
  case round =>
    obtain ⟨k, hk, rfl, hno⟩ := hrel
    by_cases hlt : k < s.size
    · by_cases hc : s[k].toNat = 47
      · have hb : ((s[k].toNat : Int) == 47) = true := by rw [hc]; rfl
        have hb2 : ((s[k].toNat : Int) != 47) = false := by rw [hc]; rfl
        have HN := Lib.hid (prS_at hno hlt hc)
        have hsz := cut_sizes s k hlt
        have HZ := Lib.hid (show (s.extract 0 k).size ≤ 140737488351232 ∧ (s.extract (k + 1) s.size).size ≤ 140737488351232 by omega)
        clear hsz hno hc
        go_wp2_with fail
        refine (rParse_any (s.extract 0 k) _ HZ.out.1).mono ?_
        rintro e w2 ⟨rfl, hb⟩
        have br : Blk w2 (w.heap.size) 23 #[.int .i64 0, .int .i64 0] := (br).on hb
        have hbz := hb.size
        have HB2 := Lib.hid ((HB1.out).trans (hb.mono (by first | exact Nat.le_refl _ | omega | (simp; done) | (simp; omega))))
        have hz2 : w.heap.size ≤ w2.heap.size := HB2.out.size
        clear hb hbz
        simp only [tup2]
        generalize parI (s.extract 0 k).data.toList = A at *
        obtain ⟨a, e⟩ := A
        by_cases he : e = 0
        · subst he
          go_wp2_with fail
          refine (rParse_any (s.extract (k + 1) s.size) _ HZ.out.2).mono ?_
          rintro e w3 ⟨rfl, hb⟩
          have br : Blk w3 (w.heap.size) 23 #[.int .i64 0, .int .i64 0] := (br).on hb
          have hbz := hb.size
          have HB3 := Lib.hid ((HB2.out).trans (hb.mono (by first | exact Nat.le_refl _ | omega | (simp; done) | (simp; omega))))
          have hz3 : w.heap.size ≤ w3.heap.size := HB3.out.size
          clear hb hbz
          simp only [tup2]
          generalize parI (s.extract (k + 1) s.size).data.toList = B at *
          obtain ⟨b, g⟩ := B
          by_cases hg : g = 0
          · subst hg
            go_wp2_with fail
            refine (qrFormat_any a b _).mono ?_
            rintro e w4 ⟨rfl, hb⟩
            have br : Blk w4 (w.heap.size) 23 #[.int .i64 0, .int .i64 0] := ((br).alloc _).on hb
            have bx : Blk w4 (w3.heap.size) 23 #[.int .i64 a, .int .i64 b] := (Blk.new _ _ _).on hb
            have hbz := hb.size
            have HB4 := Lib.hid (((HB3.out).alloc (by first | exact Nat.le_refl _ | omega | (simp; done) | (simp; omega)) _).trans (hb.mono (by first | exact Nat.le_refl _ | omega | (simp; done) | (simp; omega))))
            have hz4 : w.heap.size ≤ w4.heap.size := HB4.out.size
            clear hb hbz
            have q_br0 : w4.cell? ⟨w.heap.size, 0, none⟩ = some (.int .i64 0) := br.cell 0
            have q_br1 : w4.cell? ⟨w.heap.size, 1, none⟩ = some (.int .i64 0) := br.cell 1
            have q_bx0 : w4.cell? ⟨w3.heap.size, 0, none⟩ = some (.int .i64 a) := bx.cell 0
            have q_bx1 : w4.cell? ⟨w3.heap.size, 1, none⟩ = some (.int .i64 b) := bx.cell 1
            have f_br0 : w4.frozen? ⟨w.heap.size, 0, none⟩ = false := br.frozen 0
            have f_br1 : w4.frozen? ⟨w.heap.size, 1, none⟩ = false := br.frozen 1
            cases hq : ((fmB a b).toList == s.toList)
            · have HD := Lib.hid (HN.out.trans (pr3 hq))
              go_wp2_with fail
              exact bodyPost_ret (v := .tuple #[.agg #[.int .i64 0, .int .i64 0], .int .i64 1]) (by simp [results, Tryd.results29, go_sem, q_br0, q_br1]) rfl ⟨ret_tupR HD.out, below_set2 (HB4.out) (by first | exact Nat.le_refl _ | omega | (simp; done) | (simp; omega)) _ _⟩
            · have HD := Lib.hid (HN.out.trans (pr4 hq))
              go_wp2_with fail
              exact bodyPost_ret (v := .tuple #[.agg #[.int .i64 a, .int .i64 b], .int .i64 0]) (by simp [results, Tryd.results29, go_sem, q_br0, q_br1]) rfl ⟨ret_tupR HD.out, below_set2 (HB4.out) (by first | exact Nat.le_refl _ | omega | (simp; done) | (simp; omega)) _ _⟩
          · have hbg : (g != 0) = true := by rw [bne_iff_ne]; exact hg
            have HD := Lib.hid (HN.out.trans (pr2 hg))
            clear hg
            have q_br0 : w3.cell? ⟨w.heap.size, 0, none⟩ = some (.int .i64 0) := br.cell 0
            have q_br1 : w3.cell? ⟨w.heap.size, 1, none⟩ = some (.int .i64 0) := br.cell 1
            have f_br0 : w3.frozen? ⟨w.heap.size, 0, none⟩ = false := br.frozen 0
            have f_br1 : w3.frozen? ⟨w.heap.size, 1, none⟩ = false := br.frozen 1
            go_wp2_with fail
            exact bodyPost_ret (v := .tuple #[.agg #[.int .i64 0, .int .i64 0], .int .i64 1]) (by simp [results, Tryd.results29, go_sem, q_br0, q_br1]) rfl ⟨ret_tupR HD.out, below_set2 (HB3.out) (by first | exact Nat.le_refl _ | omega | (simp; done) | (simp; omega)) _ _⟩
        · have hbe : (e != 0) = true := by rw [bne_iff_ne]; exact he
          have HD := Lib.hid (HN.out.trans (pr1 he))
          clear he
          have q_br0 : w2.cell? ⟨w.heap.size, 0, none⟩ = some (.int .i64 0) := br.cell 0
          have q_br1 : w2.cell? ⟨w.heap.size, 1, none⟩ = some (.int .i64 0) := br.cell 1
          have f_br0 : w2.frozen? ⟨w.heap.size, 0, none⟩ = false := br.frozen 0
          have f_br1 : w2.frozen? ⟨w.heap.size, 1, none⟩ = false := br.frozen 1
          go_wp2_with fail
          exact bodyPost_ret (v := .tuple #[.agg #[.int .i64 0, .int .i64 0], .int .i64 1]) (by simp [results, Tryd.results29, go_sem, q_br0, q_br1]) rfl ⟨ret_tupR HD.out, below_set2 (HB2.out) (by first | exact Nat.le_refl _ | omega | (simp; done) | (simp; omega)) _ _⟩
      · have hb : ((s[k].toNat : Int) == 47) = false := by rw [beq_eq_false_iff_ne]; omega
        have hb2 : ((s[k].toNat : Int) != 47) = true := by rw [bne_iff_ne]; omega
        have HNo := Lib.hid (hno.step hlt hc)
        clear hno
        go_wp2_with fail
        go_round
        case rel => exact ⟨k + 1, by omega, by go_num, HNo.out⟩
        case measure => simp [intOf]; omega
    · obtain rfl : k = s.size := by omega
      have HN := Lib.hid (prS_none hno)
      clear hno
      go_wp2_with fail
      refine (rParse_any s _ hs).mono ?_
      rintro e w2 ⟨rfl, hb⟩
      have br : Blk w2 (w.heap.size) 23 #[.int .i64 0, .int .i64 0] := (br).on hb
      have hbz := hb.size
      have HB2 := Lib.hid ((HB1.out).trans (hb.mono (by first | exact Nat.le_refl _ | omega | (simp; done) | (simp; omega))))
      have hz2 : w.heap.size ≤ w2.heap.size := HB2.out.size
      clear hb hbz
      simp only [tup2]
      generalize parI s.data.toList = A at *
      obtain ⟨a, e⟩ := A
      by_cases he : e = 0
      · subst he
        go_wp2_with fail
        refine (qrFormat_any a 1 _).mono ?_
        rintro e w3 ⟨rfl, hb⟩
        have br : Blk w3 (w.heap.size) 23 #[.int .i64 0, .int .i64 0] := ((br).alloc _).on hb
        have bx : Blk w3 (w2.heap.size) 23 #[.int .i64 a, .int .i64 1] := (Blk.new _ _ _).on hb
        have hbz := hb.size
        have HB3 := Lib.hid (((HB2.out).alloc (by first | exact Nat.le_refl _ | omega | (simp; done) | (simp; omega)) _).trans (hb.mono (by first | exact Nat.le_refl _ | omega | (simp; done) | (simp; omega))))
        have hz3 : w.heap.size ≤ w3.heap.size := HB3.out.size
        clear hb hbz
        have q_br0 : w3.cell? ⟨w.heap.size, 0, none⟩ = some (.int .i64 0) := br.cell 0
        have q_br1 : w3.cell? ⟨w.heap.size, 1, none⟩ = some (.int .i64 0) := br.cell 1
        have q_bx0 : w3.cell? ⟨w2.heap.size, 0, none⟩ = some (.int .i64 a) := bx.cell 0
        have q_bx1 : w3.cell? ⟨w2.heap.size, 1, none⟩ = some (.int .i64 1) := bx.cell 1
        have f_br0 : w3.frozen? ⟨w.heap.size, 0, none⟩ = false := br.frozen 0
        have f_br1 : w3.frozen? ⟨w.heap.size, 1, none⟩ = false := br.frozen 1
        cases hq : ((fmB a 1).toList == s.toList)
        · have HD := Lib.hid (HN.out.trans (pr3 hq))
          go_wp2_with fail
          exact bodyPost_ret (v := .tuple #[.agg #[.int .i64 0, .int .i64 0], .int .i64 1]) (by simp [results, Tryd.results29, go_sem, q_br0, q_br1]) rfl ⟨ret_tupR HD.out, below_set2 (HB3.out) (by first | exact Nat.le_refl _ | omega | (simp; done) | (simp; omega)) _ _⟩
        · have HD := Lib.hid (HN.out.trans (pr4 hq))
          go_wp2_with fail
          exact bodyPost_ret (v := .tuple #[.agg #[.int .i64 a, .int .i64 1], .int .i64 0]) (by simp [results, Tryd.results29, go_sem, q_br0, q_br1]) rfl ⟨ret_tupR HD.out, below_set2 (HB3.out) (by first | exact Nat.le_refl _ | omega | (simp; done) | (simp; omega)) _ _⟩
      · have hbe : (e != 0) = true := by rw [bne_iff_ne]; exact he
        have HD := Lib.hid (HN.out.trans (pr1 he))
        clear he
        have q_br0 : w2.cell? ⟨w.heap.size, 0, none⟩ = some (.int .i64 0) := br.cell 0
        have q_br1 : w2.cell? ⟨w.heap.size, 1, none⟩ = some (.int .i64 0) := br.cell 1
        have f_br0 : w2.frozen? ⟨w.heap.size, 0, none⟩ = false := br.frozen 0
        have f_br1 : w2.frozen? ⟨w.heap.size, 1, none⟩ = false := br.frozen 1
        go_wp2_with fail
        exact bodyPost_ret (v := .tuple #[.agg #[.int .i64 0, .int .i64 0], .int .i64 1]) (by simp [results, Tryd.results29, go_sem, q_br0, q_br1]) rfl ⟨ret_tupR HD.out, below_set2 (HB2.out) (by first | exact Nat.le_refl _ | omega | (simp; done) | (simp; omega)) _ _⟩
end Go.Proofs.YtpkekfhnpcjgkaaDoor
