/- The walks of the reference's Address and Parse. -/
import Derived.Test.YtpkekfhnpcjgkaaDoorX1
import Derived.Test.YtpkekfhnpcjgkaaDoorN6
namespace Go.Proofs.YtpkekfhnpcjgkaaDoor
open Go.RowKit
open Nw
open Go.Sort (grow)

theorem four_of {α : Type} {L : List α} (h : L.length = 4) : ∃ a b c d, L = [a, b, c, d] := by
  match L, h with
  | [a, b, c, d], _ => exact ⟨a, b, c, d, rfl⟩
theorem three_of {α : Type} {L : List α} (h : L.length = 3) : ∃ a b c, L = [a, b, c] := by
  match L, h with
  | [a, b, c], _ => exact ⟨a, b, c, rfl⟩
theorem two_of {α : Type} {L : List α} (h : L.length = 2) : ∃ a b, L = [a, b] := by
  match L, h with
  | [a, b], _ => exact ⟨a, b, rfl⟩
theorem adS_pcs (s : ByteArray) : adS s = adL ((pcs 46 s).map fun t => parI t.data.toList) := by
  unfold adS adT
  rw [parts_pcs]
set_option maxHeartbeats 4000000 in
set_option maxRecDepth 20000 in
theorem rAddress_any (s : ByteArray) (w : World) (hs : s.size ≤ 1048576) :
    Calls Tryd.prog 49 #[.string s] w fun e w' => e = .returned (tup2 (adS s)) ∧ Below w.heap.size w w' := by
  have HS := Lib.hid (show ∀ t ∈ pcs 46 s, t.size ≤ 140737488351232 from fun t ht => by have := pcs_size ht; omega)
  have HY := Lib.hid (adS_pcs s)
  have Hs := Lib.hid hs
  clear hs
  go_enter Tryd.func49, Tryd.ntmps49
  go_wp2_with fail
  refine (rcut_any 46 s w Hs.out).mono ?_
  rintro e w1 ⟨⟨g, cap, rfl, hst⟩, hb⟩
  have HB1 := Lib.hid hb
  have hz1 := hb.size
  have HT := Lib.hid hst
  clear hb hst
  generalize pcs 46 s = L at *
  by_cases h4 : L.length = 4
  · obtain ⟨a, b, c, d, rfl⟩ := four_of h4
    clear h4
    have HY := Lib.hid (show adS s = adL [parI a.data.toList, parI b.data.toList, parI c.data.toList, parI d.data.toList] from HY.out)
    have HA := Lib.hid (show a.size ≤ 140737488351232 ∧ b.size ≤ 140737488351232 ∧ c.size ≤ 140737488351232 ∧ d.size ≤ 140737488351232 from ⟨HS.out a (by simp), HS.out b (by simp), HS.out c (by simp), HS.out d (by simp)⟩)
    clear HS
    go_wp2_with fail
    go_loopw [5, 6] (fun u i wr => ((i = .int .i64 0 ∧ u = .int .i64 (0)) ∨ (∃ x0 : Int, i = .int .i64 1 ∧ u = .int .i64 (x0) ∧ (parI a.data.toList = (x0, 0) ∧ 0 ≤ x0 ∧ x0 ≤ 255)) ∨ (∃ x0 : Int, ∃ x1 : Int, i = .int .i64 2 ∧ u = .int .i64 (256 * x0 + x1) ∧ (parI a.data.toList = (x0, 0) ∧ 0 ≤ x0 ∧ x0 ≤ 255) ∧ (parI b.data.toList = (x1, 0) ∧ 0 ≤ x1 ∧ x1 ≤ 255)) ∨ (∃ x0 : Int, ∃ x1 : Int, ∃ x2 : Int, i = .int .i64 3 ∧ u = .int .i64 (256 * (256 * x0 + x1) + x2) ∧ (parI a.data.toList = (x0, 0) ∧ 0 ≤ x0 ∧ x0 ≤ 255) ∧ (parI b.data.toList = (x1, 0) ∧ 0 ≤ x1 ∧ x1 ≤ 255) ∧ (parI c.data.toList = (x2, 0) ∧ 0 ≤ x2 ∧ x2 ≤ 255)) ∨ (∃ x0 : Int, ∃ x1 : Int, ∃ x2 : Int, ∃ x3 : Int, i = .int .i64 4 ∧ u = .int .i64 (256 * (256 * (256 * x0 + x1) + x2) + x3) ∧ (parI a.data.toList = (x0, 0) ∧ 0 ≤ x0 ∧ x0 ≤ 255) ∧ (parI b.data.toList = (x1, 0) ∧ 0 ≤ x1 ∧ x1 ≤ 255) ∧ (parI c.data.toList = (x2, 0) ∧ 0 ≤ x2 ∧ x2 ≤ 255) ∧ (parI d.data.toList = (x3, 0) ∧ 0 ≤ x3 ∧ x3 ≤ 255))) ∧ Below w.heap.size w wr ∧ StrsAt wr w.heap.size g [a, b, c, d]) (fun _ i _ => 4 - (intOf i).toNat)
    case atStart => exact ⟨.inl ⟨rfl, rfl⟩, HB1.out, HT.out⟩
    case round =>
      obtain ⟨hc, hb, hst⟩ := hrel
      have HB := Lib.hid hb
      have HT := Lib.hid hst
      have hzr := hb.size
      clear hb hst
      rcases hc with ⟨rfl, rfl⟩ | ⟨x0, rfl, rfl, h0⟩ | ⟨x0, x1, rfl, rfl, h0, h1⟩ | ⟨x0, x1, x2, rfl, rfl, h0, h1, h2⟩ | ⟨x0, x1, x2, x3, rfl, rfl, h0, h1, h2, h3⟩
      · have q0 : wr.cell? ⟨g, 0, none⟩ = some (.string a) := HT.out.cell (k := 0) rfl
        skip
        go_wp2_with fail
        refine (rParse_any a wr HA.out.1).mono ?_
        rintro e w2 ⟨rfl, hb⟩
        clear q0
        have hz2 := hb.size
        have HT2 := Lib.hid (HT.out.on hb)
        have HB2 := Lib.hid (HB.out.trans (hb.mono hzr))
        clear hb
        have HZ := Lib.hid (fun (h : ptB (parI a.data.toList) = false) => adL_no (l := [parI a.data.toList, parI b.data.toList, parI c.data.toList, parI d.data.toList]) (k := 0) rfl h)
        simp only [tup2]
        generalize hp : parI a.data.toList = A at *
        obtain ⟨n, e⟩ := A
        have HP := Lib.hid hp
        clear hp
        by_cases he : e = 0
        · have heb : (e != 0) = false := by rw [he]; rfl
          by_cases hn : 0 ≤ n ∧ n ≤ 255
          · have HN := Lib.hid (And.intro he hn)
            obtain ⟨hn0, hn1⟩ := hn
            have hd1 : decide (n < 0) = false := decide_eq_false (by omega)
            have hd2 : decide (255 < n) = false := decide_eq_false (by omega)
            clear he
            go_wp2_with fail
            go_roundw
            case rel => exact ⟨.inr (.inl ⟨n, rfl, by go_num, ⟨by rw [HP.out, HN.out.1], HN.out.2⟩⟩), HB2.out, HT2.out⟩
            case measure => simp [intOf]
          · have HD := Lib.hid (HY.out.trans (HZ.out (ptB_no fun h => hn h.2)))
            have hd : decide (n < 0) = true ∨ (decide (n < 0) = false ∧ decide (255 < n) = true) := by
              rcases Int.lt_or_le n 0 with h | h
              · exact .inl (decide_eq_true h)
              · exact .inr ⟨decide_eq_false (by omega), decide_eq_true (by omega)⟩
            clear he hn
            rcases hd with hd | ⟨hd, hd2⟩
            all_goals
              go_wp2_with fail
              go_ret2
              exact ⟨ret_tup2 HD.out, HB2.out⟩
        · have heb : (e != 0) = true := bne_iff_ne.2 he
          have HD := Lib.hid (HY.out.trans (HZ.out (ptB_no fun h => he h.1)))
          clear he
          go_wp2_with fail
          go_ret2
          exact ⟨ret_tup2 HD.out, HB2.out⟩
      · have q0 : wr.cell? ⟨g, 1, none⟩ = some (.string b) := HT.out.cell (k := 1) rfl
        obtain ⟨lo0, hi0⟩ := h0.2
        have H0 := Lib.hid h0
        clear h0
        go_wp2_with fail
        refine (rParse_any b wr HA.out.2.1).mono ?_
        rintro e w2 ⟨rfl, hb⟩
        clear q0
        have hz2 := hb.size
        have HT2 := Lib.hid (HT.out.on hb)
        have HB2 := Lib.hid (HB.out.trans (hb.mono hzr))
        clear hb
        have HZ := Lib.hid (fun (h : ptB (parI b.data.toList) = false) => adL_no (l := [parI a.data.toList, parI b.data.toList, parI c.data.toList, parI d.data.toList]) (k := 1) rfl h)
        simp only [tup2]
        generalize hp : parI b.data.toList = A at *
        obtain ⟨n, e⟩ := A
        have HP := Lib.hid hp
        clear hp
        by_cases he : e = 0
        · have heb : (e != 0) = false := by rw [he]; rfl
          by_cases hn : 0 ≤ n ∧ n ≤ 255
          · have HN := Lib.hid (And.intro he hn)
            obtain ⟨hn0, hn1⟩ := hn
            have hd1 : decide (n < 0) = false := decide_eq_false (by omega)
            have hd2 : decide (255 < n) = false := decide_eq_false (by omega)
            clear he
            go_wp2_with fail
            go_roundw
            case rel => exact ⟨.inr (.inr (.inl ⟨x0, n, rfl, rfl, H0.out, ⟨by rw [HP.out, HN.out.1], HN.out.2⟩⟩)), HB2.out, HT2.out⟩
            case measure => simp [intOf]
          · have HD := Lib.hid (HY.out.trans (HZ.out (ptB_no fun h => hn h.2)))
            have hd : decide (n < 0) = true ∨ (decide (n < 0) = false ∧ decide (255 < n) = true) := by
              rcases Int.lt_or_le n 0 with h | h
              · exact .inl (decide_eq_true h)
              · exact .inr ⟨decide_eq_false (by omega), decide_eq_true (by omega)⟩
            clear he hn
            rcases hd with hd | ⟨hd, hd2⟩
            all_goals
              go_wp2_with fail
              go_ret2
              exact ⟨ret_tup2 HD.out, HB2.out⟩
        · have heb : (e != 0) = true := bne_iff_ne.2 he
          have HD := Lib.hid (HY.out.trans (HZ.out (ptB_no fun h => he h.1)))
          clear he
          go_wp2_with fail
          go_ret2
          exact ⟨ret_tup2 HD.out, HB2.out⟩
      · have q0 : wr.cell? ⟨g, 2, none⟩ = some (.string c) := HT.out.cell (k := 2) rfl
        obtain ⟨lo0, hi0⟩ := h0.2
        obtain ⟨lo1, hi1⟩ := h1.2
        have H0 := Lib.hid h0
        have H1 := Lib.hid h1
        clear h0 h1
        go_wp2_with fail
        refine (rParse_any c wr HA.out.2.2.1).mono ?_
        rintro e w2 ⟨rfl, hb⟩
        clear q0
        have hz2 := hb.size
        have HT2 := Lib.hid (HT.out.on hb)
        have HB2 := Lib.hid (HB.out.trans (hb.mono hzr))
        clear hb
        have HZ := Lib.hid (fun (h : ptB (parI c.data.toList) = false) => adL_no (l := [parI a.data.toList, parI b.data.toList, parI c.data.toList, parI d.data.toList]) (k := 2) rfl h)
        simp only [tup2]
        generalize hp : parI c.data.toList = A at *
        obtain ⟨n, e⟩ := A
        have HP := Lib.hid hp
        clear hp
        by_cases he : e = 0
        · have heb : (e != 0) = false := by rw [he]; rfl
          by_cases hn : 0 ≤ n ∧ n ≤ 255
          · have HN := Lib.hid (And.intro he hn)
            obtain ⟨hn0, hn1⟩ := hn
            have hd1 : decide (n < 0) = false := decide_eq_false (by omega)
            have hd2 : decide (255 < n) = false := decide_eq_false (by omega)
            clear he
            go_wp2_with fail
            go_roundw
            case rel => exact ⟨.inr (.inr (.inr (.inl ⟨x0, x1, n, rfl, rfl, H0.out, H1.out, ⟨by rw [HP.out, HN.out.1], HN.out.2⟩⟩))), HB2.out, HT2.out⟩
            case measure => simp [intOf]
          · have HD := Lib.hid (HY.out.trans (HZ.out (ptB_no fun h => hn h.2)))
            have hd : decide (n < 0) = true ∨ (decide (n < 0) = false ∧ decide (255 < n) = true) := by
              rcases Int.lt_or_le n 0 with h | h
              · exact .inl (decide_eq_true h)
              · exact .inr ⟨decide_eq_false (by omega), decide_eq_true (by omega)⟩
            clear he hn
            rcases hd with hd | ⟨hd, hd2⟩
            all_goals
              go_wp2_with fail
              go_ret2
              exact ⟨ret_tup2 HD.out, HB2.out⟩
        · have heb : (e != 0) = true := bne_iff_ne.2 he
          have HD := Lib.hid (HY.out.trans (HZ.out (ptB_no fun h => he h.1)))
          clear he
          go_wp2_with fail
          go_ret2
          exact ⟨ret_tup2 HD.out, HB2.out⟩
      · have q0 : wr.cell? ⟨g, 3, none⟩ = some (.string d) := HT.out.cell (k := 3) rfl
        obtain ⟨lo0, hi0⟩ := h0.2
        obtain ⟨lo1, hi1⟩ := h1.2
        obtain ⟨lo2, hi2⟩ := h2.2
        have H0 := Lib.hid h0
        have H1 := Lib.hid h1
        have H2 := Lib.hid h2
        clear h0 h1 h2
        go_wp2_with fail
        refine (rParse_any d wr HA.out.2.2.2).mono ?_
        rintro e w2 ⟨rfl, hb⟩
        clear q0
        have hz2 := hb.size
        have HT2 := Lib.hid (HT.out.on hb)
        have HB2 := Lib.hid (HB.out.trans (hb.mono hzr))
        clear hb
        have HZ := Lib.hid (fun (h : ptB (parI d.data.toList) = false) => adL_no (l := [parI a.data.toList, parI b.data.toList, parI c.data.toList, parI d.data.toList]) (k := 3) rfl h)
        simp only [tup2]
        generalize hp : parI d.data.toList = A at *
        obtain ⟨n, e⟩ := A
        have HP := Lib.hid hp
        clear hp
        by_cases he : e = 0
        · have heb : (e != 0) = false := by rw [he]; rfl
          by_cases hn : 0 ≤ n ∧ n ≤ 255
          · have HN := Lib.hid (And.intro he hn)
            obtain ⟨hn0, hn1⟩ := hn
            have hd1 : decide (n < 0) = false := decide_eq_false (by omega)
            have hd2 : decide (255 < n) = false := decide_eq_false (by omega)
            clear he
            go_wp2_with fail
            go_roundw
            case rel => exact ⟨.inr (.inr (.inr (.inr (⟨x0, x1, x2, n, rfl, rfl, H0.out, H1.out, H2.out, ⟨by rw [HP.out, HN.out.1], HN.out.2⟩⟩)))), HB2.out, HT2.out⟩
            case measure => simp [intOf]
          · have HD := Lib.hid (HY.out.trans (HZ.out (ptB_no fun h => hn h.2)))
            have hd : decide (n < 0) = true ∨ (decide (n < 0) = false ∧ decide (255 < n) = true) := by
              rcases Int.lt_or_le n 0 with h | h
              · exact .inl (decide_eq_true h)
              · exact .inr ⟨decide_eq_false (by omega), decide_eq_true (by omega)⟩
            clear he hn
            rcases hd with hd | ⟨hd, hd2⟩
            all_goals
              go_wp2_with fail
              go_ret2
              exact ⟨ret_tup2 HD.out, HB2.out⟩
        · have heb : (e != 0) = true := bne_iff_ne.2 he
          have HD := Lib.hid (HY.out.trans (HZ.out (ptB_no fun h => he h.1)))
          clear he
          go_wp2_with fail
          go_ret2
          exact ⟨ret_tup2 HD.out, HB2.out⟩
      · obtain ⟨p0, l0, u0⟩ := h0
        obtain ⟨p1, l1, u1⟩ := h1
        obtain ⟨p2, l2, u2⟩ := h2
        obtain ⟨p3, l3, u3⟩ := h3
        have HD := Lib.hid (show adS s = (256 * (256 * (256 * x0 + x1) + x2) + x3, 0) by rw [HY.out, p0, p1, p2, p3, adL_yes ⟨l0, u0⟩ ⟨l1, u1⟩ ⟨l2, u2⟩ ⟨l3, u3⟩]; exact congrArg (·, 0) (by omega))
        clear p0 p1 p2 p3
        go_wp2_with fail
        go_ret2
        exact ⟨ret_tup2 HD.out, HB.out⟩
  · have hl : ((L.length : Int) != 4) = true := bne_iff_ne.2 (by omega)
    have HD := Lib.hid (HY.out.trans (adL_short (by rw [List.length_map]; exact h4)))
    clear h4
    go_wp2_with fail
    go_ret2
    exact ⟨ret_tup2 HD.out, HB1.out⟩
end Go.Proofs.YtpkekfhnpcjgkaaDoor
