/- The program's Reduce. -/
import Derived.Test.YtcmlgiilifdnfaaDoorPS
namespace Go.Proofs.YtcmlgiilifdnfaaDoor
open Go.RowKit
open Go.Sort (grow)

theorem Clone_any (P : Option Addr) (c : Nat) (l : List ByteArray) (w : World) (hl : StrL w w.heap.size P l) (h1 : 1 ≤ l.length) (h8 : l.length ≤ 1000) :
    Calls Tryd.prog 43 #[.slice P l.length c] w fun e w' => (∃ A k, e = .returned (.slice A l.length k) ∧ StrL w' w'.heap.size A l ∧ Fresh w.heap.size A) ∧ Below w.heap.size w w' := by
  obtain ⟨t, ht⟩ : ∃ t, l[0]? = some t := ⟨_, List.getElem?_eq_getElem (by omega)⟩
  obtain ⟨b, o, rfl, hb, -⟩ := hl.cell ht
  refine (Tryd.slices_Clone_string b o l.length c l w (Nat.le_refl _) (by omega) (fun j hj => ?_)).mono ?_
  · obtain ⟨b', o', e', -, h'⟩ := hl.cell (k := j) (List.getElem?_eq_getElem hj)
    injection e' with e'
    injection e' with e1 e2
    subst e1 e2
    rw [List.getD_eq_getElem?_getD, List.getElem?_eq_getElem hj]
    exact h'
  · rintro e w' ⟨v', rfl, ho, -, hb⟩
    rw [List.take_length] at ho
    obtain ⟨g, cap, rfl, hg, -⟩ := own_form ho h1
    obtain ⟨p, cap', e', h⟩ := own_reads ho
    injection e' with e1 e2 e3
    subst e1 e3
    exact ⟨⟨_, cap, rfl, h, fun ad h => by injection h with h; subst h; exact hg⟩, hb⟩
theorem below_drew' (w : World) : Below w.heap.size w w.drew := (Below.refl _ _).drew
theorem held_str {w0 w1 : World} {p0 p1 p2 : Addr} {a b c : Value} {P : Option Addr} {l : List ByteArray} (h : (w1.cell? p0 = some a ∧ w1.cell? p1 = some b ∧ w1.cell? p2 = some c) ∧ Below w0.heap.size w0 w1) (hs : StrL w0 w0.heap.size P l) : StrL w1 w1.heap.size P l := hs.on h.2
theorem held_grown {w0 w1 w2 : World} {p0 p1 p2 : Addr} {a b c : Value} {row : Option Nat} (h : (w1.cell? p0 = some a ∧ w1.cell? p1 = some b ∧ w1.cell? p2 = some c) ∧ Below w0.heap.size w0 w1) (hg : w1.grownBy w2 row)
    (h0 : row ≠ some p0.block) (h1 : row ≠ some p1.block) (h2 : row ≠ some p2.block) (hr : ∀ k, row = some k → w0.heap.size ≤ k) : (w2.cell? p0 = some a ∧ w2.cell? p1 = some b ∧ w2.cell? p2 = some c) ∧ Below w0.heap.size w0 w2 := by
  obtain ⟨⟨g0, g1, g2⟩, hw⟩ := h
  refine ⟨⟨?_, ?_, ?_⟩, hw.grown hg hw.size hr⟩
  · exact (World.cell?_of_block (hg.block _ (block_lt_of_cell g0) (fun e => h0 e.symm))).trans g0
  · exact (World.cell?_of_block (hg.block _ (block_lt_of_cell g1) (fun e => h1 e.symm))).trans g1
  · exact (World.cell?_of_block (hg.block _ (block_lt_of_cell g2) (fun e => h2 e.symm))).trans g2
set_option maxHeartbeats 8000000 in
set_option maxRecDepth 100000 in
theorem Reduce_any (A : Option Addr) (c : Nat) (l : List St) (w : World) (hl : StsAt w w.heap.size A l) (hz : SzL l) (hn : l.length ≤ 1000) :
    Calls Tryd.prog 23 #[.slice A l.length c] w (PostR l w) := by
  obtain ⟨i0, ih, iz0, iz1, iz2⟩ := info_parts info_st
  have HL := Lib.hid hl
  have HZ := Lib.hid hz
  clear hl hz
  go_enter Tryd.func23, Tryd.ntmps23
  go_wp2_with fail
  go_loopw [3, 11] (fun v i wr => ∃ k : Nat, k ≤ l.length ∧ i = .int .i64 k ∧ OwnSt wr w.heap.size v (redS l k) ∧ Below w.heap.size w wr) (fun _ i _ => l.length - (intOf i).toNat)
  case atStart => exact ⟨0, Nat.zero_le _, rfl, OwnSt.nil _ _, Below.refl _ _⟩
  case round =>
    obtain ⟨k, hk, rfl, hv, hbr⟩ := hrel
    obtain ⟨v, rfl⟩ : ∃ v : Value, v = u3 := ⟨_, rfl⟩
    have HV := Lib.hid hv
    have HB := Lib.hid hbr
    have hzr : w.heap.size ≤ wr.heap.size := hbr.size
    clear hv hbr
    by_cases hlt : k < l.length
    · obtain ⟨t, ht⟩ : ∃ t, l[k]? = some t := ⟨_, List.getElem?_eq_getElem hlt⟩
      obtain ⟨b, o, P, cp, P2, cp2, rfl, hbl, c0, c1, c2, hst⟩ := (HL.out.keep HB.out).cells ht
      have HT := Lib.hid ht
      have HSV := Lib.hid ((hst.more hzr).on (size_new wr (.cells #[.bool t.al, .slice P t.ac.length cp, .slice P2 t.re.length cp2] 31)))
      have HS := Lib.hid (HZ.out.2 t (List.mem_of_getElem? ht))
      have hki : (k : Int) < l.length := by omega
      have hk0 : (0 : Int) ≤ k := by omega
      obtain ⟨G, hG⟩ : ∃ G, wr.heap.size = G := ⟨_, rfl⟩
      have bt := Blk.new wr 31 #[.bool t.al, .slice P t.ac.length cp, .slice P2 t.re.length cp2]
      clear ht hst
      go_wp2_with fail
      refine (Check_any t _ _ HSV.out HS.out).mono ?_
      rintro e w1 ⟨rfl, hb⟩
      have HB1 := Lib.hid ((HB.out.alloc hzr _).trans (hb.mono (Nat.le_trans hzr (size_new _ _).size)))
      have HV1 := Lib.hid ((HV.out.on (size_new _ _)).on hb)
      have HSV1 := Lib.hid (HSV.out.on hb)
      have bt := bt.on hb
      have HNO := Lib.hid (show ∀ q, v.ownBlock = some q → q < G from fun q hq => by obtain ⟨xs, ho, -⟩ := HV.out; have := (ho.lt q hq).2; omega)
      have hz1 := HB1.out.size
      rw [hG] at bt
      have hGz : w.heap.size ≤ G := by omega
      have BT := Lib.hid bt
      clear hb c0 c1 c2 HV hG HSV bt
      go_wp2_with fail
      generalize hd : (t.ck != 0) = d0
      have HD0 := Lib.hid (show (!d0) = t.ok by rw [← hd, ← ck_ok]; cases h : (t.ck == 0) <;> simp [bne, h])
      clear hd
      go_loopw [6, 21] (fun f i wr => ∃ (j : Nat) (g : Bool), j ≤ l.length ∧ i = .int .i64 j ∧ f = .bool g ∧ (t.ok && !dropB l k j) = !g ∧ Below w1.heap.size w1 wr ∧ Blk wr G 31 #[.bool t.al, .slice P t.ac.length cp, .slice P2 t.re.length cp2]) (fun _ i _ => l.length - (intOf i).toNat)
      case atStart => exact ⟨0, d0, Nat.zero_le _, rfl, rfl, by rw [dropB_zero, HD0.out]; simp, Below.refl _ _, BT.out⟩
      case round =>
        obtain ⟨j, f, hj, rfl, rfl, hf, hb2, bt⟩ := hrel
        have HF := Lib.hid hf
        have HB2 := Lib.hid hb2
        have HBW := Lib.hid (HB1.out.trans (hb2.mono hz1))
        have hzr2 : w1.heap.size ≤ wr.heap.size := hb2.size
        have hzw : w.heap.size ≤ wr.heap.size := HBW.out.size
        have lG := bt.lt
        have BT := Lib.hid bt
        clear hf hb2 bt
        by_cases hlt2 : j < l.length
        · obtain ⟨u, hu⟩ : ∃ u, l[j]? = some u := ⟨_, List.getElem?_eq_getElem hlt2⟩
          obtain ⟨b1, o1, Q, cq, Q2, cq2, e1, -, d0, d1, d2, hsu⟩ := (HL.out.keep HBW.out).cells hu
          obtain ⟨rfl, rfl⟩ : b = b1 ∧ o = o1 := by injection e1 with e1; injection e1 with e2 e3; exact ⟨e2, e3⟩
          have HSU := Lib.hid ((hsu.more HBW.out.size).on (size_new wr (.cells #[.bool u.al, .slice Q u.ac.length cq, .slice Q2 u.re.length cq2] 31)))
          have HST := Lib.hid ((HSV1.out.on HB2.out).on (size_new wr (.cells #[.bool u.al, .slice Q u.ac.length cq, .slice Q2 u.re.length cq2] 31)))
          have HZU := Lib.hid (HZ.out.2 u (List.mem_of_getElem? hu))
          have HU := Lib.hid hu
          have hji : (j : Int) < l.length := by omega
          have hj0 : (0 : Int) ≤ j := by omega
          clear e1 hu hsu
          by_cases hjk : j = k
          · have HD := Lib.hid (drop_on HT.out HU.out HF.out (by rw [decide_eq_false (by simpa using hjk)]; rfl))
            have hd5 : ((j : Int) != (k : Int)) = false := by rw [hjk]; simp
            clear hjk
            have bt := BT.out
            have hz20 : w1.heap.size ≤ wr.heap.size := hzr2
            have qt0 : (wr.alloc (.cells #[.bool u.al, .slice Q u.ac.length cq, .slice Q2 u.re.length cq2] 31)).cell? ⟨G, 0, none⟩ = some (.bool t.al) := (bt.alloc _).cell 0
            have qt1 : (wr.alloc (.cells #[.bool u.al, .slice Q u.ac.length cq, .slice Q2 u.re.length cq2] 31)).cell? ⟨G, 1, none⟩ = some (.slice P t.ac.length cp) := (bt.alloc _).cell 1
            have qt2 : (wr.alloc (.cells #[.bool u.al, .slice Q u.ac.length cq, .slice Q2 u.re.length cq2] 31)).cell? ⟨G, 2, none⟩ = some (.slice P2 t.re.length cp2) := (bt.alloc _).cell 2
            go_wp2_with fail
            go_roundw
            case rel => exact ⟨j + 1, f, by omega, by go_num, rfl, HD.out, (HB2.out).alloc (by first | exact Nat.le_refl _ | omega | (simp; done) | (simp; omega)) _, bt.alloc _⟩
            case measure => simp [intOf]; omega
          · have hdn : decide (j ≠ k) = true := decide_eq_true hjk
            have hd5 : ((j : Int) != (k : Int)) = true := by simp; omega
            have bt := BT.out
            have hz20 : w1.heap.size ≤ wr.heap.size := hzr2
            have qt0 : (wr.alloc (.cells #[.bool u.al, .slice Q u.ac.length cq, .slice Q2 u.re.length cq2] 31)).cell? ⟨G, 0, none⟩ = some (.bool t.al) := (bt.alloc _).cell 0
            have qt1 : (wr.alloc (.cells #[.bool u.al, .slice Q u.ac.length cq, .slice Q2 u.re.length cq2] 31)).cell? ⟨G, 1, none⟩ = some (.slice P t.ac.length cp) := (bt.alloc _).cell 1
            have qt2 : (wr.alloc (.cells #[.bool u.al, .slice Q u.ac.length cq, .slice Q2 u.re.length cq2] 31)).cell? ⟨G, 2, none⟩ = some (.slice P2 t.re.length cp2) := (bt.alloc _).cell 2
            go_wp2_with fail
            refine (Covers_any u t _ _ _ HSU.out HZU.out HST.out HS.out).mono ?_
            rintro e w21 ⟨rfl, hb⟩
            clear qt0 qt1 qt2
            have bt : Blk w21 (G) 31 #[.bool t.al, .slice P t.ac.length cp, .slice P2 t.re.length cp2] := ((bt).alloc _).on hb
            have bu : Blk w21 (wr.heap.size) 31 #[.bool u.al, .slice Q u.ac.length cq, .slice Q2 u.re.length cq2] := (Blk.new _ _ _).on hb
            have hbz := hb.size
            have HB21 := Lib.hid (((HB2.out).alloc (by first | exact Nat.le_refl _ | omega | (simp; done) | (simp; omega)) _).trans (hb.mono (by first | exact Nat.le_refl _ | omega | (simp; done) | (simp; omega))))
            have hz21 : w1.heap.size ≤ w21.heap.size := HB21.out.size
            have hcb := hb
            clear hb hbz
            cases hut : u.cv t
            · have HD := Lib.hid (drop_on HT.out HU.out HF.out (by rw [hut]; simp))
              clear hut hjk hdn hcb
              have q_bt0 : w21.cell? ⟨G, 0, none⟩ = some (.bool t.al) := bt.cell 0
              have q_bt1 : w21.cell? ⟨G, 1, none⟩ = some (.slice P t.ac.length cp) := bt.cell 1
              have q_bt2 : w21.cell? ⟨G, 2, none⟩ = some (.slice P2 t.re.length cp2) := bt.cell 2
              have q_bu0 : w21.cell? ⟨wr.heap.size, 0, none⟩ = some (.bool u.al) := bu.cell 0
              have q_bu1 : w21.cell? ⟨wr.heap.size, 1, none⟩ = some (.slice Q u.ac.length cq) := bu.cell 1
              have q_bu2 : w21.cell? ⟨wr.heap.size, 2, none⟩ = some (.slice Q2 u.re.length cq2) := bu.cell 2
              go_wp2_with fail
              go_roundw
              case rel => exact ⟨j + 1, f, by omega, by go_num, rfl, HD.out, HB21.out, bt⟩
              case measure => simp [intOf]; omega
            · by_cases hjl : j < k
              · have HD := Lib.hid (drop_off HT.out HU.out (by rw [hut, hdn, decide_eq_true hjl]; rfl))
                have hd3 : (j : Int) < k := by omega
                have hd4 : decide ((j : Int) < k) = true := decide_eq_true hd3
                have hd6 : decide (j < k) = true := decide_eq_true hjl
                clear hut hjk hdn hjl hcb
                have q_bt0 : w21.cell? ⟨G, 0, none⟩ = some (.bool t.al) := bt.cell 0
                have q_bt1 : w21.cell? ⟨G, 1, none⟩ = some (.slice P t.ac.length cp) := bt.cell 1
                have q_bt2 : w21.cell? ⟨G, 2, none⟩ = some (.slice P2 t.re.length cp2) := bt.cell 2
                have q_bu0 : w21.cell? ⟨wr.heap.size, 0, none⟩ = some (.bool u.al) := bu.cell 0
                have q_bu1 : w21.cell? ⟨wr.heap.size, 1, none⟩ = some (.slice Q u.ac.length cq) := bu.cell 1
                have q_bu2 : w21.cell? ⟨wr.heap.size, 2, none⟩ = some (.slice Q2 u.re.length cq2) := bu.cell 2
                go_wp2_with fail
                go_roundw
                case rel => exact ⟨j + 1, true, by omega, by go_num, rfl, by rw [HD.out]; rfl, HB21.out, bt⟩
                case measure => simp [intOf]; omega
              · have hd3 : ¬ (j : Int) < k := by omega
                have hd4 : decide ((j : Int) < k) = false := decide_eq_false hd3
                have hd6 : decide (j < k) = false := decide_eq_false hjl
                have q_bt0 : w21.cell? ⟨G, 0, none⟩ = some (.bool t.al) := bt.cell 0
                have q_bt1 : w21.cell? ⟨G, 1, none⟩ = some (.slice P t.ac.length cp) := bt.cell 1
                have q_bt2 : w21.cell? ⟨G, 2, none⟩ = some (.slice P2 t.re.length cp2) := bt.cell 2
                have q_bu0 : w21.cell? ⟨wr.heap.size, 0, none⟩ = some (.bool u.al) := bu.cell 0
                have q_bu1 : w21.cell? ⟨wr.heap.size, 1, none⟩ = some (.slice Q u.ac.length cq) := bu.cell 1
                have q_bu2 : w21.cell? ⟨wr.heap.size, 2, none⟩ = some (.slice Q2 u.re.length cq2) := bu.cell 2
                go_wp2_with fail
                refine (Covers_any t u _ _ _ (HST.out.on hcb) HS.out (HSU.out.on hcb) HZU.out).mono ?_
                rintro e w22 ⟨rfl, hb⟩
                clear q_bt0 q_bt1 q_bt2 q_bu0 q_bu1 q_bu2
                have bt : Blk w22 (G) 31 #[.bool t.al, .slice P t.ac.length cp, .slice P2 t.re.length cp2] := (bt).on hb
                have bu : Blk w22 (wr.heap.size) 31 #[.bool u.al, .slice Q u.ac.length cq, .slice Q2 u.re.length cq2] := (bu).on hb
                have hbz := hb.size
                have HB22 := Lib.hid ((HB21.out).trans (hb.mono (by first | exact Nat.le_refl _ | omega | (simp; done) | (simp; omega))))
                have hz22 : w1.heap.size ≤ w22.heap.size := HB22.out.size
                clear hb hbz
                cases htu : t.cv u
                · have HD := Lib.hid (drop_off HT.out HU.out (by rw [hut, hdn, htu]; simp))
                  clear hut htu hjk hdn hjl hcb
                  have q_bt0 : w22.cell? ⟨G, 0, none⟩ = some (.bool t.al) := bt.cell 0
                  have q_bt1 : w22.cell? ⟨G, 1, none⟩ = some (.slice P t.ac.length cp) := bt.cell 1
                  have q_bt2 : w22.cell? ⟨G, 2, none⟩ = some (.slice P2 t.re.length cp2) := bt.cell 2
                  have q_bu0 : w22.cell? ⟨wr.heap.size, 0, none⟩ = some (.bool u.al) := bu.cell 0
                  have q_bu1 : w22.cell? ⟨wr.heap.size, 1, none⟩ = some (.slice Q u.ac.length cq) := bu.cell 1
                  have q_bu2 : w22.cell? ⟨wr.heap.size, 2, none⟩ = some (.slice Q2 u.re.length cq2) := bu.cell 2
                  go_wp2_with fail
                  go_roundw
                  case rel => exact ⟨j + 1, true, by omega, by go_num, rfl, by rw [HD.out]; rfl, HB22.out, bt⟩
                  case measure => simp [intOf]; omega
                · have HD := Lib.hid (drop_on HT.out HU.out HF.out (by rw [hut, hdn, htu, decide_eq_false hjl]; rfl))
                  clear hut htu hjk hdn hjl hcb
                  have q_bt0 : w22.cell? ⟨G, 0, none⟩ = some (.bool t.al) := bt.cell 0
                  have q_bt1 : w22.cell? ⟨G, 1, none⟩ = some (.slice P t.ac.length cp) := bt.cell 1
                  have q_bt2 : w22.cell? ⟨G, 2, none⟩ = some (.slice P2 t.re.length cp2) := bt.cell 2
                  have q_bu0 : w22.cell? ⟨wr.heap.size, 0, none⟩ = some (.bool u.al) := bu.cell 0
                  have q_bu1 : w22.cell? ⟨wr.heap.size, 1, none⟩ = some (.slice Q u.ac.length cq) := bu.cell 1
                  have q_bu2 : w22.cell? ⟨wr.heap.size, 2, none⟩ = some (.slice Q2 u.re.length cq2) := bu.cell 2
                  go_wp2_with fail
                  go_roundw
                  case rel => exact ⟨j + 1, f, by omega, by go_num, rfl, HD.out, HB22.out, bt⟩
                  case measure => simp [intOf]; omega
        · obtain rfl : j = l.length := by omega
          cases f
          · have HD := Lib.hid (red_yes HT.out HF.out)
            have bt := BT.out
            have q0 : wr.cell? ⟨G, 0, none⟩ = some (.bool t.al) := bt.cell 0
            have q1 : wr.cell? ⟨G, 1, none⟩ = some (.slice P t.ac.length cp) := bt.cell 1
            have q2 : wr.cell? ⟨G, 2, none⟩ = some (.slice P2 t.re.length cp2) := bt.cell 2
            obtain ⟨xs, hown, hsh⟩ := HV1.out.on HB2.out
            have HO := Lib.hid (And.intro hown hsh)
            have hok : t.ok = true := by have := HF.out; cases h : t.ok <;> rw [h] at this <;> simp at this ⊢
            have ho8 := (St.ok_iff t).1 hok
            obtain ⟨⟨h1a, h8a⟩, ⟨h1r, h8r⟩, -, -⟩ := ho8
            obtain ⟨A', d', A2', d2', e', h3, h4⟩ := HSV1.out.on HB2.out
            injection e' with e'
            injection e' with e'
            injection e' with _ e'
            injection e' with e1 e'
            injection e' with e2 e'
            injection e1 with e1 _ e1'
            injection e2 with e2 _ e2'
            subst e1 e1' e2 e2'
            have HP1 := Lib.hid h3
            have HP2 := Lib.hid h4
            have hlen := redS_len l k
            have HQ := Lib.hid (show ∀ q, v.ownBlock = some q → w.heap.size ≤ q ∧ q < G from fun q hq => ⟨(HO.out.1.lt q hq).1, HNO.out q hq⟩)
            clear hown hsh h3 h4 hok bt
            go_wp2_with fail
            go_region_held3 (fun w' => (w'.cell? ⟨G, 0, none⟩ = some (.bool t.al) ∧ w'.cell? ⟨G, 1, none⟩ = some (.slice P t.ac.length cp) ∧ w'.cell? ⟨G, 2, none⟩ = some (.slice P2 t.re.length cp2)) ∧ Below w.heap.size w w') (first | assumption | exact ⟨⟨q0, q1, q2⟩, HBW.out.drew⟩ | exact held_step (by assumption) (size_new _ _)) (first
              | (go_at_call 43; ((with_reducible refine (Clone_any P cp t.ac _ (HP1.out.on (below_drew' _)) h1a (by omega)).mono ?_); rintro e w13 ⟨⟨A1, k1, rfl, hs1, fr1⟩, hb1⟩; have H13 := held_step (by assumption) hb1))
              | (go_at_call 43; ((with_reducible refine (Clone_any P2 cp2 t.re _ ((HP2.out.on (below_drew' _)).on hb1) h1r (by omega)).mono ?_); rintro e w14 ⟨⟨A2, k2, rfl, hs2, fr2⟩, hb2⟩; have H14 := held_step (by assumption) hb2))
              | (refine step_append_any _ rfl (.tmp 48) (.tmp 58) 22 rfl w.heap.size 31 i0 (.agg #[.bool false, .slice none 0 0, .slice none 0 0]) 3 56 Tryd.underlying22 ih iz0 iz1 iz2 rfl (by decide) _ (redS l k).length xs rfl (own_below (own_below (own_below (own_below HO.out.1 (below_drew' _)) hb1) hb2) (size_new _ _)) _ _ 1 1 [.bool t.al, .slice A1 t.ac.length k1, .slice A2 t.re.length k2] rfl (reads_new w14 _ _ 3 1 rfl) (by intro u hu; simp at hu; rcases hu with rfl | rfl | rfl <;> rfl) (by simp only [maxLen]; omega) (by omega) (Nat.le_trans H14.2.size (size_new _ _).size) ?_; intro v' wn hown1 hgr hiff; have HG := Lib.hid (And.intro hown1 (And.intro hgr hiff)); clear hown1 hgr hiff; have H15 := held_grown (held_step H14 (size_new _ _)) HG.out.2.1 (fun e => Nat.lt_irrefl _ (HQ.out _ e).2) (fun e => Nat.lt_irrefl _ (HQ.out _ e).2) (fun e => Nat.lt_irrefl _ (HQ.out _ e).2) (fun q hq => (HQ.out q hq).1)))
            have hz13 : wr.heap.size ≤ w13.heap.size := hb1.size
            have HFI := Lib.hid (OwnSt.push ((((HO.out.2.on (below_drew' _)).on hb1).on hb2).on (size_new _ _)) HG.out.1 HG.out.2.1 HG.out.2.2 ((hs1.on hb2).on (size_new _ _))
              (show NotIn v A1 t.ac.length from fun hl ad e hq => by have h5 : wr.heap.size ≤ ad.block := fr1 ad e; have := (HO.out.1.lt _ hq).2; omega) (hs2.on (size_new _ _))
              (show NotIn v A2 t.re.length from fun hl ad e hq => by have h5 : w13.heap.size ≤ ad.block := fr2 ad e; have := (HO.out.1.lt _ hq).2; omega))
            have HLOW := Lib.hid H15.2
            clear hb1 hb2 hs1 hs2 fr1 fr2 H13 H14 H15 HG HO q0 q1 q2 HP1 HP2
            go_wp2_with fail
            go_roundw
            case rel => exact ⟨k + 1, by omega, by go_num, by rw [HD.out]; exact HFI.out, HLOW.out⟩
            case measure => simp [intOf]; omega
          · have HD := Lib.hid (red_no HT.out HF.out)
            go_wp2_with fail
            go_roundw
            case rel => exact ⟨k + 1, by omega, by go_num, by rw [HD.out]; exact HV1.out.on HB2.out, HBW.out⟩
            case measure => simp [intOf]; omega
    · obtain rfl : k = l.length := by omega
      go_wp2_with fail
      go_ret
      exact postR HV.out HB.out
end Go.Proofs.YtcmlgiilifdnfaaDoor
