/- The walk of the reference's Parse. -/
import Derived.Test.YtpkekfhnpcjgkaaDoorX2
namespace Go.Proofs.YtpkekfhnpcjgkaaDoor
open Go.RowKit
open Nw
open Go.Sort (grow)

theorem pcs_cut {c : UInt8} {s : ByteArray} {l : List ByteArray} (h : pcs c s = l) : cutL c s.data.toList = l.map (·.data.toList) := by rw [← h, pcs_data]
theorem rpn_a {s : ByteArray} {L : List ByteArray} (h : pcs 32 s = L) (h3 : L.length ≠ 3) : rpnS s = (⟨false, 0, 0, 0, 0⟩, 1) := by
  apply rpn_no3; rw [pcs_cut h, List.length_map]; exact h3
theorem rpn_b {s x n p : ByteArray} {L2 L3 : List ByteArray} (h : pcs 32 s = [x, n, p]) (h2 : pcs 47 n = L2) (h3 : pcs 45 p = L3) (hn : L2.length ≠ 2 ∨ L3.length ≠ 2) : rpnS s = (⟨false, 0, 0, 0, 0⟩, 1) :=
  rpn_no2 (pcs_cut h) (by rw [pcs_cut h2, pcs_cut h3, List.length_map, List.length_map]; exact hn)
theorem rpn_c {s x n p a b c d : ByteArray} (h : pcs 32 s = [x, n, p]) (h2 : pcs 47 n = [a, b]) (h3 : pcs 45 p = [c, d]) :
    rpnS s = pnE (x.toList == [97, 108, 108, 111, 119]) (adS a) (parI b.data.toList) (parI c.data.toList) (parI d.data.toList) s := by
  rw [rpn_yes (pcs_cut h) (pcs_cut h2) (pcs_cut h3), Lib.toList_data]
theorem okE_no {a b c d : Int} (h : ¬ (a = 0 ∧ b = 0 ∧ c = 0 ∧ d = 0)) : okE a b c d = false := by
  unfold okE
  rcases Bool.eq_false_or_eq_true (a == 0 && b == 0 && c == 0 && d == 0) with h2 | h2
  · simp at h2; exact absurd ⟨h2.1.1.1, h2.1.1.2, h2.1.2, h2.2⟩ h
  · exact h2
set_option maxHeartbeats 4000000 in
set_option maxRecDepth 100000 in
theorem rParse_n (s : ByteArray) (w : World) (hs : s.size ≤ 1048576) :
    Calls Tryd.prog 47 #[.string s] w fun e w' => e = .returned (tupN (rpnS s)) ∧ Below w.heap.size w w' := by
  have Hs := Lib.hid hs
  have HS := Lib.hid (show ∀ t ∈ pcs 32 s, t.size ≤ 1048576 from fun t ht => by have := pcs_size ht; omega)
  clear hs
  go_enter Tryd.func47, Tryd.ntmps47
  go_wp2_with fail
  refine (rcut_any 32 s _ Hs.out).mono ?_
  rintro e w1 ⟨⟨g1, cp1, rfl, hst⟩, hb⟩
  have br : Blk w1 (w.heap.size) 42 #[.bool false, .int .i64 0, .int .i64 0, .int .i64 0, .int .i64 0] := (Blk.new _ _ _).on hb
  have hbz := hb.size
  have HB1 := Lib.hid (((Below.refl w.heap.size w).alloc (by first | exact Nat.le_refl _ | omega | (simp; done) | (simp; omega)) _).trans (hb.mono (by first | exact Nat.le_refl _ | omega | (simp; done) | (simp; omega))))
  have hz1 : w.heap.size ≤ w1.heap.size := HB1.out.size
  have HT1 := Lib.hid hst
  clear hst
  clear hb hbz
  generalize hp1 : pcs 32 s = L1 at *
  have HP1 := Lib.hid hp1
  clear hp1
  by_cases h3 : L1.length = 3
  · obtain ⟨x, n, p, rfl⟩ := three_of h3
    have HA := Lib.hid (show n.size ≤ 1048576 ∧ p.size ≤ 1048576 from ⟨HS.out n (by simp), HS.out p (by simp)⟩)
    clear h3 HS
    have q1 : w1.cell? ⟨g1, 1, none⟩ = some (.string n) := HT1.out.cell (k := 1) rfl
    go_wp2_with fail
    refine (rcut_any 47 n _ HA.out.1).mono ?_
    rintro e w2 ⟨⟨g2, cp2, rfl, hst⟩, hb⟩
    have br : Blk w2 (w.heap.size) 42 #[.bool false, .int .i64 0, .int .i64 0, .int .i64 0, .int .i64 0] := (br).on hb
    have hbz := hb.size
    have HB2 := Lib.hid ((HB1.out).trans (hb.mono (by first | exact Nat.le_refl _ | omega | (simp; done) | (simp; omega))))
    have hz2 : w.heap.size ≤ w2.heap.size := HB2.out.size
    have HT1 := Lib.hid (HT1.out.on hb)
    have HT2 := Lib.hid hst
    clear hst
    clear hb hbz
    clear q1
    have HS2 := Lib.hid (show ∀ t ∈ pcs 47 n, t.size ≤ 1048576 from fun t ht => by have := pcs_size ht; have := HA.out.1; omega)
    generalize hp2 : pcs 47 n = L2 at *
    have HP2 := Lib.hid hp2
    clear hp2
    have q1 : w2.cell? ⟨g1, 2, none⟩ = some (.string p) := HT1.out.cell (k := 2) rfl
    go_wp2_with fail
    refine (rcut_any 45 p _ HA.out.2).mono ?_
    rintro e w3 ⟨⟨g3, cp3, rfl, hst⟩, hb⟩
    have br : Blk w3 (w.heap.size) 42 #[.bool false, .int .i64 0, .int .i64 0, .int .i64 0, .int .i64 0] := (br).on hb
    have hbz := hb.size
    have HB3 := Lib.hid ((HB2.out).trans (hb.mono (by first | exact Nat.le_refl _ | omega | (simp; done) | (simp; omega))))
    have hz3 : w.heap.size ≤ w3.heap.size := HB3.out.size
    have HT1 := Lib.hid (HT1.out.on hb)
    have HT2 := Lib.hid (HT2.out.on hb)
    have HT3 := Lib.hid hst
    clear hst
    clear hb hbz
    clear q1
    have HS3 := Lib.hid (show ∀ t ∈ pcs 45 p, t.size ≤ 1048576 from fun t ht => by have := pcs_size ht; have := HA.out.2; omega)
    generalize hp3 : pcs 45 p = L3 at *
    have HP3 := Lib.hid hp3
    clear hp3
    by_cases h2 : L2.length = 2
    · have hb2 : ((L2.length : Int) != 2) = false := by rw [h2]; rfl
      by_cases h3 : L3.length = 2
      · have hb3 : ((L3.length : Int) != 2) = false := by rw [h3]; rfl
        obtain ⟨a, b, rfl⟩ := two_of h2
        obtain ⟨c, d, rfl⟩ := two_of h3
        clear h2 h3 hb2 hb3
        have HY := Lib.hid (rpn_c HP1.out HP2.out HP3.out)
        have HB := Lib.hid (show a.size ≤ 1048576 ∧ b.size ≤ 140737488351232 ∧ c.size ≤ 140737488351232 ∧ d.size ≤ 140737488351232 from ⟨HS2.out a (by simp), Nat.le_trans (HS2.out b (by simp)) (by omega), Nat.le_trans (HS3.out c (by simp)) (by omega), Nat.le_trans (HS3.out d (by simp)) (by omega)⟩)
        clear HS2 HS3
        have q1 : w3.cell? ⟨g2, 0, none⟩ = some (.string a) := HT2.out.cell (k := 0) rfl
        go_wp2_with fail
        refine (rAddress_any a _ HB.out.1).mono ?_
        rintro e w4 ⟨rfl, hb⟩
        have br : Blk w4 (w.heap.size) 42 #[.bool false, .int .i64 0, .int .i64 0, .int .i64 0, .int .i64 0] := (br).on hb
        have hbz := hb.size
        have HB4 := Lib.hid ((HB3.out).trans (hb.mono (by first | exact Nat.le_refl _ | omega | (simp; done) | (simp; omega))))
        have hz4 : w.heap.size ≤ w4.heap.size := HB4.out.size
        have HT1 := Lib.hid (HT1.out.on hb)
        have HT2 := Lib.hid (HT2.out.on hb)
        have HT3 := Lib.hid (HT3.out.on hb)
        clear hb hbz
        clear q1
        simp only [tup2]
        generalize adS a = A at *
        obtain ⟨va, ea⟩ := A
        have q1 : w4.cell? ⟨g2, 1, none⟩ = some (.string b) := HT2.out.cell (k := 1) rfl
        go_wp2_with fail
        refine (rParse_any b _ HB.out.2.1).mono ?_
        rintro e w5 ⟨rfl, hb⟩
        have br : Blk w5 (w.heap.size) 42 #[.bool false, .int .i64 0, .int .i64 0, .int .i64 0, .int .i64 0] := (br).on hb
        have hbz := hb.size
        have HB5 := Lib.hid ((HB4.out).trans (hb.mono (by first | exact Nat.le_refl _ | omega | (simp; done) | (simp; omega))))
        have hz5 : w.heap.size ≤ w5.heap.size := HB5.out.size
        have HT1 := Lib.hid (HT1.out.on hb)
        have HT2 := Lib.hid (HT2.out.on hb)
        have HT3 := Lib.hid (HT3.out.on hb)
        clear hb hbz
        clear q1
        simp only [tup2]
        generalize parI b.data.toList = A at *
        obtain ⟨vb, eb⟩ := A
        have q1 : w5.cell? ⟨g3, 0, none⟩ = some (.string c) := HT3.out.cell (k := 0) rfl
        go_wp2_with fail
        refine (rParse_any c _ HB.out.2.2.1).mono ?_
        rintro e w6 ⟨rfl, hb⟩
        have br : Blk w6 (w.heap.size) 42 #[.bool false, .int .i64 0, .int .i64 0, .int .i64 0, .int .i64 0] := (br).on hb
        have hbz := hb.size
        have HB6 := Lib.hid ((HB5.out).trans (hb.mono (by first | exact Nat.le_refl _ | omega | (simp; done) | (simp; omega))))
        have hz6 : w.heap.size ≤ w6.heap.size := HB6.out.size
        have HT1 := Lib.hid (HT1.out.on hb)
        have HT2 := Lib.hid (HT2.out.on hb)
        have HT3 := Lib.hid (HT3.out.on hb)
        clear hb hbz
        clear q1
        simp only [tup2]
        generalize parI c.data.toList = A at *
        obtain ⟨vc, ec⟩ := A
        have q1 : w6.cell? ⟨g3, 1, none⟩ = some (.string d) := HT3.out.cell (k := 1) rfl
        go_wp2_with fail
        refine (rParse_any d _ HB.out.2.2.2).mono ?_
        rintro e w7 ⟨rfl, hb⟩
        have br : Blk w7 (w.heap.size) 42 #[.bool false, .int .i64 0, .int .i64 0, .int .i64 0, .int .i64 0] := (br).on hb
        have hbz := hb.size
        have HB7 := Lib.hid ((HB6.out).trans (hb.mono (by first | exact Nat.le_refl _ | omega | (simp; done) | (simp; omega))))
        have hz7 : w.heap.size ≤ w7.heap.size := HB7.out.size
        have HT1 := Lib.hid (HT1.out.on hb)
        have HT2 := Lib.hid (HT2.out.on hb)
        have HT3 := Lib.hid (HT3.out.on hb)
        clear hb hbz
        clear q1
        simp only [tup2]
        generalize parI d.data.toList = A at *
        obtain ⟨vd, ed⟩ := A
        by_cases hE : ea = 0 ∧ eb = 0 ∧ ec = 0 ∧ ed = 0
        · obtain ⟨rfl, rfl, rfl, rfl⟩ := hE
          have q1 : w7.cell? ⟨g1, 0, none⟩ = some (.string x) := HT1.out.cell (k := 0) rfl
          generalize hal : (x.toList == [97, 108, 108, 111, 119]) = al at *
          skip
          go_wp2_with fail
          clear q1
          refine (rFormat_n _ _ _ _ _ _).mono ?_
          rintro e w8 ⟨rfl, hb⟩
          have n_br_bq : w.heap.size < w7.heap.size := by have := br.lt; omega
          have br : Blk w8 (w.heap.size) 42 #[.bool false, .int .i64 0, .int .i64 0, .int .i64 0, .int .i64 0] := ((br).alloc _).on hb
          have bq : Blk w8 (w7.heap.size) 42 #[.bool al, .int .i64 va, .int .i64 vb, .int .i64 vc, .int .i64 vd] := (Blk.new _ _ _).on hb
          have hbz := hb.size
          have HB8 := Lib.hid (((HB7.out).alloc (by first | exact Nat.le_refl _ | omega | (simp; done) | (simp; omega)) _).trans (hb.mono (by first | exact Nat.le_refl _ | omega | (simp; done) | (simp; omega))))
          have hz8 : w.heap.size ≤ w8.heap.size := HB8.out.size
          clear hb hbz
          simp only [tup2s]
          generalize hf : fmS ⟨al, va, vb, vc, vd⟩ = F at *
          obtain ⟨t, e⟩ := F
          have HF := Lib.hid hf
          clear hf
          by_cases he : e = 0
          · have heb : (e != 0) = false := by rw [he]; rfl
            cases hq : (t.toList == s.toList)
            · have HD := Lib.hid (HY.out.trans (pn3 HF.out hq))
              clear he
              have q_br0 : w8.cell? ⟨w.heap.size, 0, none⟩ = some (.bool false) := br.cell 0
              have q_br1 : w8.cell? ⟨w.heap.size, 1, none⟩ = some (.int .i64 0) := br.cell 1
              have q_br2 : w8.cell? ⟨w.heap.size, 2, none⟩ = some (.int .i64 0) := br.cell 2
              have q_br3 : w8.cell? ⟨w.heap.size, 3, none⟩ = some (.int .i64 0) := br.cell 3
              have q_br4 : w8.cell? ⟨w.heap.size, 4, none⟩ = some (.int .i64 0) := br.cell 4
              have q_bq0 : w8.cell? ⟨w7.heap.size, 0, none⟩ = some (.bool al) := bq.cell 0
              have q_bq1 : w8.cell? ⟨w7.heap.size, 1, none⟩ = some (.int .i64 va) := bq.cell 1
              have q_bq2 : w8.cell? ⟨w7.heap.size, 2, none⟩ = some (.int .i64 vb) := bq.cell 2
              have q_bq3 : w8.cell? ⟨w7.heap.size, 3, none⟩ = some (.int .i64 vc) := bq.cell 3
              have q_bq4 : w8.cell? ⟨w7.heap.size, 4, none⟩ = some (.int .i64 vd) := bq.cell 4
              have f_br0 : w8.frozen? ⟨w.heap.size, 0, none⟩ = false := br.frozen 0
              have f_br1 : w8.frozen? ⟨w.heap.size, 1, none⟩ = false := br.frozen 1
              have f_br2 : w8.frozen? ⟨w.heap.size, 2, none⟩ = false := br.frozen 2
              have f_br3 : w8.frozen? ⟨w.heap.size, 3, none⟩ = false := br.frozen 3
              have f_br4 : w8.frozen? ⟨w.heap.size, 4, none⟩ = false := br.frozen 4
              have f_bq0 : w8.frozen? ⟨w7.heap.size, 0, none⟩ = false := bq.frozen 0
              have f_bq1 : w8.frozen? ⟨w7.heap.size, 1, none⟩ = false := bq.frozen 1
              have f_bq2 : w8.frozen? ⟨w7.heap.size, 2, none⟩ = false := bq.frozen 2
              have f_bq3 : w8.frozen? ⟨w7.heap.size, 3, none⟩ = false := bq.frozen 3
              have f_bq4 : w8.frozen? ⟨w7.heap.size, 4, none⟩ = false := bq.frozen 4
              go_wp2_with fail
              exact bodyPost_ret (v := .tuple #[.agg #[.bool false, .int .i64 0, .int .i64 0, .int .i64 0, .int .i64 0], .int .i64 1]) (by simp [results, Tryd.results47, go_sem, q_br0, q_br1, q_br2, q_br3, q_br4]) rfl ⟨ret_tupN HD.out, (((((HB8.out).setCell (p := ⟨w.heap.size, 0, none⟩) (Nat.le_refl _) _).setCell (p := ⟨w.heap.size, 1, none⟩) (Nat.le_refl _) _).setCell (p := ⟨w.heap.size, 2, none⟩) (Nat.le_refl _) _).setCell (p := ⟨w.heap.size, 3, none⟩) (Nat.le_refl _) _).setCell (p := ⟨w.heap.size, 4, none⟩) (Nat.le_refl _) _⟩
            · have HD := Lib.hid (HY.out.trans (pn4 rfl (HF.out.trans (by rw [he])) hq))
              clear he
              have q_br0 : w8.cell? ⟨w.heap.size, 0, none⟩ = some (.bool false) := br.cell 0
              have q_br1 : w8.cell? ⟨w.heap.size, 1, none⟩ = some (.int .i64 0) := br.cell 1
              have q_br2 : w8.cell? ⟨w.heap.size, 2, none⟩ = some (.int .i64 0) := br.cell 2
              have q_br3 : w8.cell? ⟨w.heap.size, 3, none⟩ = some (.int .i64 0) := br.cell 3
              have q_br4 : w8.cell? ⟨w.heap.size, 4, none⟩ = some (.int .i64 0) := br.cell 4
              have q_bq0 : w8.cell? ⟨w7.heap.size, 0, none⟩ = some (.bool al) := bq.cell 0
              have q_bq1 : w8.cell? ⟨w7.heap.size, 1, none⟩ = some (.int .i64 va) := bq.cell 1
              have q_bq2 : w8.cell? ⟨w7.heap.size, 2, none⟩ = some (.int .i64 vb) := bq.cell 2
              have q_bq3 : w8.cell? ⟨w7.heap.size, 3, none⟩ = some (.int .i64 vc) := bq.cell 3
              have q_bq4 : w8.cell? ⟨w7.heap.size, 4, none⟩ = some (.int .i64 vd) := bq.cell 4
              have f_br0 : w8.frozen? ⟨w.heap.size, 0, none⟩ = false := br.frozen 0
              have f_br1 : w8.frozen? ⟨w.heap.size, 1, none⟩ = false := br.frozen 1
              have f_br2 : w8.frozen? ⟨w.heap.size, 2, none⟩ = false := br.frozen 2
              have f_br3 : w8.frozen? ⟨w.heap.size, 3, none⟩ = false := br.frozen 3
              have f_br4 : w8.frozen? ⟨w.heap.size, 4, none⟩ = false := br.frozen 4
              have f_bq0 : w8.frozen? ⟨w7.heap.size, 0, none⟩ = false := bq.frozen 0
              have f_bq1 : w8.frozen? ⟨w7.heap.size, 1, none⟩ = false := bq.frozen 1
              have f_bq2 : w8.frozen? ⟨w7.heap.size, 2, none⟩ = false := bq.frozen 2
              have f_bq3 : w8.frozen? ⟨w7.heap.size, 3, none⟩ = false := bq.frozen 3
              have f_bq4 : w8.frozen? ⟨w7.heap.size, 4, none⟩ = false := bq.frozen 4
              go_wp2_with fail
              exact bodyPost_ret (v := .tuple #[.agg #[.bool al, .int .i64 va, .int .i64 vb, .int .i64 vc, .int .i64 vd], .int .i64 0]) (by simp [results, Tryd.results47, go_sem, q_br0, q_br1, q_br2, q_br3, q_br4]) rfl ⟨ret_tupN HD.out, (((((HB8.out).setCell (p := ⟨w.heap.size, 0, none⟩) (Nat.le_refl _) _).setCell (p := ⟨w.heap.size, 1, none⟩) (Nat.le_refl _) _).setCell (p := ⟨w.heap.size, 2, none⟩) (Nat.le_refl _) _).setCell (p := ⟨w.heap.size, 3, none⟩) (Nat.le_refl _) _).setCell (p := ⟨w.heap.size, 4, none⟩) (Nat.le_refl _) _⟩
          · have heb : (e != 0) = true := bne_iff_ne.2 he
            have HD := Lib.hid (HY.out.trans (pn2 HF.out he))
            clear he
            have q_br0 : w8.cell? ⟨w.heap.size, 0, none⟩ = some (.bool false) := br.cell 0
            have q_br1 : w8.cell? ⟨w.heap.size, 1, none⟩ = some (.int .i64 0) := br.cell 1
            have q_br2 : w8.cell? ⟨w.heap.size, 2, none⟩ = some (.int .i64 0) := br.cell 2
            have q_br3 : w8.cell? ⟨w.heap.size, 3, none⟩ = some (.int .i64 0) := br.cell 3
            have q_br4 : w8.cell? ⟨w.heap.size, 4, none⟩ = some (.int .i64 0) := br.cell 4
            have q_bq0 : w8.cell? ⟨w7.heap.size, 0, none⟩ = some (.bool al) := bq.cell 0
            have q_bq1 : w8.cell? ⟨w7.heap.size, 1, none⟩ = some (.int .i64 va) := bq.cell 1
            have q_bq2 : w8.cell? ⟨w7.heap.size, 2, none⟩ = some (.int .i64 vb) := bq.cell 2
            have q_bq3 : w8.cell? ⟨w7.heap.size, 3, none⟩ = some (.int .i64 vc) := bq.cell 3
            have q_bq4 : w8.cell? ⟨w7.heap.size, 4, none⟩ = some (.int .i64 vd) := bq.cell 4
            have f_br0 : w8.frozen? ⟨w.heap.size, 0, none⟩ = false := br.frozen 0
            have f_br1 : w8.frozen? ⟨w.heap.size, 1, none⟩ = false := br.frozen 1
            have f_br2 : w8.frozen? ⟨w.heap.size, 2, none⟩ = false := br.frozen 2
            have f_br3 : w8.frozen? ⟨w.heap.size, 3, none⟩ = false := br.frozen 3
            have f_br4 : w8.frozen? ⟨w.heap.size, 4, none⟩ = false := br.frozen 4
            have f_bq0 : w8.frozen? ⟨w7.heap.size, 0, none⟩ = false := bq.frozen 0
            have f_bq1 : w8.frozen? ⟨w7.heap.size, 1, none⟩ = false := bq.frozen 1
            have f_bq2 : w8.frozen? ⟨w7.heap.size, 2, none⟩ = false := bq.frozen 2
            have f_bq3 : w8.frozen? ⟨w7.heap.size, 3, none⟩ = false := bq.frozen 3
            have f_bq4 : w8.frozen? ⟨w7.heap.size, 4, none⟩ = false := bq.frozen 4
            go_wp2_with fail
            exact bodyPost_ret (v := .tuple #[.agg #[.bool false, .int .i64 0, .int .i64 0, .int .i64 0, .int .i64 0], .int .i64 1]) (by simp [results, Tryd.results47, go_sem, q_br0, q_br1, q_br2, q_br3, q_br4]) rfl ⟨ret_tupN HD.out, (((((HB8.out).setCell (p := ⟨w.heap.size, 0, none⟩) (Nat.le_refl _) _).setCell (p := ⟨w.heap.size, 1, none⟩) (Nat.le_refl _) _).setCell (p := ⟨w.heap.size, 2, none⟩) (Nat.le_refl _) _).setCell (p := ⟨w.heap.size, 3, none⟩) (Nat.le_refl _) _).setCell (p := ⟨w.heap.size, 4, none⟩) (Nat.le_refl _) _⟩
        · have HD := Lib.hid (HY.out.trans (pn1 (okE_no hE)))
          have hd : ((ea != 0) = true) ∨ ((ea != 0) = false ∧ (eb != 0) = true) ∨ ((ea != 0) = false ∧ (eb != 0) = false ∧ (ec != 0) = true) ∨ ((ea != 0) = false ∧ (eb != 0) = false ∧ (ec != 0) = false ∧ (ed != 0) = true) := by
            simp only [bne_iff_ne, bne_eq_false_iff_eq, ne_eq]
            omega
          clear hE
          rcases hd with d1 | ⟨d1, d2⟩ | ⟨d1, d2, d3⟩ | ⟨d1, d2, d3, d4⟩
          all_goals
            have q_br0 : w7.cell? ⟨w.heap.size, 0, none⟩ = some (.bool false) := br.cell 0
            have q_br1 : w7.cell? ⟨w.heap.size, 1, none⟩ = some (.int .i64 0) := br.cell 1
            have q_br2 : w7.cell? ⟨w.heap.size, 2, none⟩ = some (.int .i64 0) := br.cell 2
            have q_br3 : w7.cell? ⟨w.heap.size, 3, none⟩ = some (.int .i64 0) := br.cell 3
            have q_br4 : w7.cell? ⟨w.heap.size, 4, none⟩ = some (.int .i64 0) := br.cell 4
            have f_br0 : w7.frozen? ⟨w.heap.size, 0, none⟩ = false := br.frozen 0
            have f_br1 : w7.frozen? ⟨w.heap.size, 1, none⟩ = false := br.frozen 1
            have f_br2 : w7.frozen? ⟨w.heap.size, 2, none⟩ = false := br.frozen 2
            have f_br3 : w7.frozen? ⟨w.heap.size, 3, none⟩ = false := br.frozen 3
            have f_br4 : w7.frozen? ⟨w.heap.size, 4, none⟩ = false := br.frozen 4
            go_wp2_with fail
            exact bodyPost_ret (v := .tuple #[.agg #[.bool false, .int .i64 0, .int .i64 0, .int .i64 0, .int .i64 0], .int .i64 1]) (by simp [results, Tryd.results47, go_sem, q_br0, q_br1, q_br2, q_br3, q_br4]) rfl ⟨ret_tupN HD.out, (((((HB7.out).setCell (p := ⟨w.heap.size, 0, none⟩) (Nat.le_refl _) _).setCell (p := ⟨w.heap.size, 1, none⟩) (Nat.le_refl _) _).setCell (p := ⟨w.heap.size, 2, none⟩) (Nat.le_refl _) _).setCell (p := ⟨w.heap.size, 3, none⟩) (Nat.le_refl _) _).setCell (p := ⟨w.heap.size, 4, none⟩) (Nat.le_refl _) _⟩
      · have hb3 : ((L3.length : Int) != 2) = true := bne_iff_ne.2 (by omega)
        have HD := Lib.hid (rpn_b HP1.out HP2.out HP3.out (.inr h3))
        clear h2 h3
        have q_br0 : w3.cell? ⟨w.heap.size, 0, none⟩ = some (.bool false) := br.cell 0
        have q_br1 : w3.cell? ⟨w.heap.size, 1, none⟩ = some (.int .i64 0) := br.cell 1
        have q_br2 : w3.cell? ⟨w.heap.size, 2, none⟩ = some (.int .i64 0) := br.cell 2
        have q_br3 : w3.cell? ⟨w.heap.size, 3, none⟩ = some (.int .i64 0) := br.cell 3
        have q_br4 : w3.cell? ⟨w.heap.size, 4, none⟩ = some (.int .i64 0) := br.cell 4
        have f_br0 : w3.frozen? ⟨w.heap.size, 0, none⟩ = false := br.frozen 0
        have f_br1 : w3.frozen? ⟨w.heap.size, 1, none⟩ = false := br.frozen 1
        have f_br2 : w3.frozen? ⟨w.heap.size, 2, none⟩ = false := br.frozen 2
        have f_br3 : w3.frozen? ⟨w.heap.size, 3, none⟩ = false := br.frozen 3
        have f_br4 : w3.frozen? ⟨w.heap.size, 4, none⟩ = false := br.frozen 4
        go_wp2_with fail
        exact bodyPost_ret (v := .tuple #[.agg #[.bool false, .int .i64 0, .int .i64 0, .int .i64 0, .int .i64 0], .int .i64 1]) (by simp [results, Tryd.results47, go_sem, q_br0, q_br1, q_br2, q_br3, q_br4]) rfl ⟨ret_tupN HD.out, (((((HB3.out).setCell (p := ⟨w.heap.size, 0, none⟩) (Nat.le_refl _) _).setCell (p := ⟨w.heap.size, 1, none⟩) (Nat.le_refl _) _).setCell (p := ⟨w.heap.size, 2, none⟩) (Nat.le_refl _) _).setCell (p := ⟨w.heap.size, 3, none⟩) (Nat.le_refl _) _).setCell (p := ⟨w.heap.size, 4, none⟩) (Nat.le_refl _) _⟩
    · have hb2 : ((L2.length : Int) != 2) = true := bne_iff_ne.2 (by omega)
      have HD := Lib.hid (rpn_b HP1.out HP2.out HP3.out (.inl h2))
      clear h2
      have q_br0 : w3.cell? ⟨w.heap.size, 0, none⟩ = some (.bool false) := br.cell 0
      have q_br1 : w3.cell? ⟨w.heap.size, 1, none⟩ = some (.int .i64 0) := br.cell 1
      have q_br2 : w3.cell? ⟨w.heap.size, 2, none⟩ = some (.int .i64 0) := br.cell 2
      have q_br3 : w3.cell? ⟨w.heap.size, 3, none⟩ = some (.int .i64 0) := br.cell 3
      have q_br4 : w3.cell? ⟨w.heap.size, 4, none⟩ = some (.int .i64 0) := br.cell 4
      have f_br0 : w3.frozen? ⟨w.heap.size, 0, none⟩ = false := br.frozen 0
      have f_br1 : w3.frozen? ⟨w.heap.size, 1, none⟩ = false := br.frozen 1
      have f_br2 : w3.frozen? ⟨w.heap.size, 2, none⟩ = false := br.frozen 2
      have f_br3 : w3.frozen? ⟨w.heap.size, 3, none⟩ = false := br.frozen 3
      have f_br4 : w3.frozen? ⟨w.heap.size, 4, none⟩ = false := br.frozen 4
      go_wp2_with fail
      exact bodyPost_ret (v := .tuple #[.agg #[.bool false, .int .i64 0, .int .i64 0, .int .i64 0, .int .i64 0], .int .i64 1]) (by simp [results, Tryd.results47, go_sem, q_br0, q_br1, q_br2, q_br3, q_br4]) rfl ⟨ret_tupN HD.out, (((((HB3.out).setCell (p := ⟨w.heap.size, 0, none⟩) (Nat.le_refl _) _).setCell (p := ⟨w.heap.size, 1, none⟩) (Nat.le_refl _) _).setCell (p := ⟨w.heap.size, 2, none⟩) (Nat.le_refl _) _).setCell (p := ⟨w.heap.size, 3, none⟩) (Nat.le_refl _) _).setCell (p := ⟨w.heap.size, 4, none⟩) (Nat.le_refl _) _⟩
  · have hl : ((L1.length : Int) != 3) = true := bne_iff_ne.2 (by omega)
    have HD := Lib.hid (rpn_a HP1.out h3)
    clear h3
    have q_br0 : w1.cell? ⟨w.heap.size, 0, none⟩ = some (.bool false) := br.cell 0
    have q_br1 : w1.cell? ⟨w.heap.size, 1, none⟩ = some (.int .i64 0) := br.cell 1
    have q_br2 : w1.cell? ⟨w.heap.size, 2, none⟩ = some (.int .i64 0) := br.cell 2
    have q_br3 : w1.cell? ⟨w.heap.size, 3, none⟩ = some (.int .i64 0) := br.cell 3
    have q_br4 : w1.cell? ⟨w.heap.size, 4, none⟩ = some (.int .i64 0) := br.cell 4
    have f_br0 : w1.frozen? ⟨w.heap.size, 0, none⟩ = false := br.frozen 0
    have f_br1 : w1.frozen? ⟨w.heap.size, 1, none⟩ = false := br.frozen 1
    have f_br2 : w1.frozen? ⟨w.heap.size, 2, none⟩ = false := br.frozen 2
    have f_br3 : w1.frozen? ⟨w.heap.size, 3, none⟩ = false := br.frozen 3
    have f_br4 : w1.frozen? ⟨w.heap.size, 4, none⟩ = false := br.frozen 4
    go_wp2_with fail
    exact bodyPost_ret (v := .tuple #[.agg #[.bool false, .int .i64 0, .int .i64 0, .int .i64 0, .int .i64 0], .int .i64 1]) (by simp [results, Tryd.results47, go_sem, q_br0, q_br1, q_br2, q_br3, q_br4]) rfl ⟨ret_tupN HD.out, (((((HB1.out).setCell (p := ⟨w.heap.size, 0, none⟩) (Nat.le_refl _) _).setCell (p := ⟨w.heap.size, 1, none⟩) (Nat.le_refl _) _).setCell (p := ⟨w.heap.size, 2, none⟩) (Nat.le_refl _) _).setCell (p := ⟨w.heap.size, 3, none⟩) (Nat.le_refl _) _).setCell (p := ⟨w.heap.size, 4, none⟩) (Nat.le_refl _) _⟩
end Go.Proofs.YtpkekfhnpcjgkaaDoor
