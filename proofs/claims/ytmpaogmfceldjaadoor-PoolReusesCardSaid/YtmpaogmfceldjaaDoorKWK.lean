/- The law PoolDoes, walked. -/
import Derived.Test.YtmpaogmfceldjaaDoorKWJ
namespace Go.Proofs.YtmpaogmfceldjaaDoor
open Go.RowKit
open Go.Sort (grow)

/-- A call of a script. -/
structure POp where
  kd : Int
  id : ByteArray
  n : Int
  now : Int
/-- A script. -/
def OpsAt (w : World) (B : Nat) (A : Option Addr) (l : List POp) : Prop := ∀ k x, l[k]? = some x → ∃ b o, A = some ⟨b, o, none⟩ ∧ b < B ∧ w.cell? ⟨b, o + k * 4, none⟩ = some (.int .i64 x.kd) ∧ w.cell? ⟨b, o + k * 4 + 1, none⟩ = some (.string x.id) ∧ w.cell? ⟨b, o + k * 4 + 2, none⟩ = some (.int .i64 x.n) ∧ w.cell? ⟨b, o + k * 4 + 3, none⟩ = some (.int .i64 x.now)
theorem OpsAt.below {w w' : World} {B : Nat} {A : Option Addr} {l : List POp} (h : OpsAt w B A l) (hb : Below B w w') : OpsAt w' B A l := by
  intro k x hk
  obtain ⟨b, o, e, hB, h0, h1, h2, h3⟩ := h k x hk
  exact ⟨b, o, e, hB, (hb.cell (p := ⟨b, _, none⟩) hB).trans h0, (hb.cell (p := ⟨b, _, none⟩) hB).trans h1, (hb.cell (p := ⟨b, _, none⟩) hB).trans h2, (hb.cell (p := ⟨b, _, none⟩) hB).trans h3⟩
theorem acq_size {s : PS} (h : s.ok) {now : Int} {t : PS} {a : ByteArray} {b n : Int} (e : acqS s now = (t, a, b, n)) : a.size ≤ 64 := by
  unfold acqS at e
  split at e
  · unfold acqG at e
    split at e
    · rename_i hw
      simp only [Prod.mk.injEq] at e
      rcases wk_cases s.l s.l.length with ⟨h1, _⟩ | ⟨j, x, h1, h2, h3, h4⟩
      · exact absurd hw (by unfold wrm; omega)
      · have e2 : (wrm s.l).toNat = j := by unfold wrm; omega
        rw [← e.2.1, e2]
        unfold idAt
        rw [h3]
        exact (h.els x (List.mem_of_getElem? h3)).sz
    · split at e
      · simp only [Prod.mk.injEq] at e; rw [← e.2.1]; decide
      · split at e
        · simp only [Prod.mk.injEq] at e; rw [← e.2.1]; decide
        · simp only [Prod.mk.injEq] at e; rw [← e.2.1]; omega
  · simp only [Prod.mk.injEq] at e; rw [← e.2.1]; decide
theorem nthB_size {T : List ByteArray} (h : ∀ t ∈ T, t.size ≤ 64) (n : Int) : (nthB T n).size ≤ 9223372036854775807 := by
  unfold nthB
  split
  · rename_i hn
    have hj : T.length - 1 - n.toNat < T.length := by omega
    rw [List.getD_eq_getElem?_getD, List.getElem?_eq_getElem hj]
    have := h _ (List.getElem_mem hj)
    simp only [Option.getD_some]
    omega
  · decide
/-- What the loop keeps. -/
def DoesI (w : World) (p m q : Nat) (L : Nat) (v i : Value) (wr : World) : Prop := ∃ (k : Nat) (s : PS) (T : List ByteArray), k ≤ L ∧ i = .int .i64 k ∧ Two w wr p m q s s v T (.slice none 0 0) [] ∧ s.ok ∧ s.bt ≤ k ∧ T.length ≤ k ∧ ∀ t ∈ T, t.size ≤ 64
set_option maxHeartbeats 16000000 in
set_option maxRecDepth 100000 in
theorem PoolDoes_any (nm : ByteArray) (pa pb pc pd : Int) (A : Option Addr) (c : Nat) (l : List POp) (w : World) (hs : nm.size ≤ 9223372036854775807) (hl : OpsAt w w.heap.size A l) (hn : l.length ≤ 9223372036854775807) (hz : ∀ x ∈ l, x.id.size ≤ 9223372036854775807) (hL : LaidW w) :
    Calls Tryd.prog 3 #[.string nm, .agg #[.int .i64 pa, .int .i64 pb, .int .i64 pc, .int .i64 pd], .slice A l.length c] w fun e w' => e = .returned (.bool true) ∧ Below w.heap.size w w' := by
  obtain ⟨i0, ih, iz0, iz1, iz2⟩ := info_parts info_str
  have HO := Lib.hid hl
  have HZ := Lib.hid hz
  have HL := Lib.hid hL
  have HS := Lib.hid hs
  have HN := Lib.hid hn
  have hw0 := Nat.le_refl w.heap.size
  clear hl hz hL hs hn
  go_enter Tryd.func3, Tryd.ntmps3
  go_wp2_with fail
  have bb : Blk (w.alloc (.cells #[.int .i64 pa, .int .i64 pb, .int .i64 pc, .int .i64 pd] 23)) w.heap.size 23 #[.int .i64 pa, .int .i64 pb, .int .i64 pc, .int .i64 pd] := Blk.new _ _ _
  have HB0 := Lib.hid (show Below w.heap.size w (w.alloc (.cells #[.int .i64 pa, .int .i64 pb, .int .i64 pc, .int .i64 pd] 23)) from (Below.refl _ _).alloc (Nat.le_refl _) _)
  refine (New_any nm pa pb pc pd _ HS.out).mono ?_
  generalize w.alloc (.cells #[.int .i64 pa, .int .i64 pb, .int .i64 pc, .int .i64 pd] 23) = w1 at *
  rintro e w2 (⟨hne, rfl, hb⟩ | ⟨hne, p, m, rfl, hP, hb⟩)
  · have HB2 := Lib.hid (HB0.out.trans (hb.mono HB0.out.size))
    have bb := bb.on hb
    have HNE := Lib.hid hne
    clear hb hne
    have hne2 : newE nm ⟨pa, pb, pc, pd⟩ = 2 ∨ newE nm ⟨pa, pb, pc, pd⟩ = 4 := by
      have := HNE.out
      unfold newE at this ⊢
      split
      · split
        · exact .inl rfl
        · rename_i h1 h2; rw [if_pos h1, if_neg h2] at this; exact absurd rfl this
      · exact .inr rfl
    obtain ⟨E, hE⟩ : ∃ E, newE nm ⟨pa, pb, pc, pd⟩ = E := ⟨_, rfl⟩
    rw [hE] at hne2
    rw [hE]
    have HE := Lib.hid hE
    clear hE
    have b0 : w2.cell? ⟨w.heap.size, 0, none⟩ = some (.int .i64 pa) := bb.cell 0
    have b1 : w2.cell? ⟨w.heap.size, 1, none⟩ = some (.int .i64 pb) := bb.cell 1
    have b2 : w2.cell? ⟨w.heap.size, 2, none⟩ = some (.int .i64 pc) := bb.cell 2
    have b3 : w2.cell? ⟨w.heap.size, 3, none⟩ = some (.int .i64 pd) := bb.cell 3
    clear bb
    go_wp2_with fail
    refine (rNew_any nm pa pb pc pd _ HS.out).mono ?_
    rintro e w3 (⟨_, rfl, hb⟩ | ⟨h0, _⟩)
    · rw [HE.out]
      have HB3 := Lib.hid (HB2.out.trans (hb.mono HB2.out.size))
      clear hb b0 b1 b2 b3
      rcases hne2 with rfl | rfl
      all_goals
        go_wp2_with fail
        refine (awake_any _ (HL.out.below HB3.out)).mono ?_
        rintro e wz ⟨rfl, hb⟩
        go_wp2_with fail
        go_ret
        exact ⟨rfl, (HB3.out).trans (hb.mono (HB3.out).size)⟩
    · exact absurd h0 HNE.out
  · have HNE := Lib.hid hne
    have bb := bb.on hb
    have HP := Lib.hid hP
    have HB2 := Lib.hid (HB0.out.trans (hb.mono HB0.out.size))
    clear hb hne hP
    have b0 : w2.cell? ⟨w.heap.size, 0, none⟩ = some (.int .i64 pa) := bb.cell 0
    have b1 : w2.cell? ⟨w.heap.size, 1, none⟩ = some (.int .i64 pb) := bb.cell 1
    have b2 : w2.cell? ⟨w.heap.size, 2, none⟩ = some (.int .i64 pc) := bb.cell 2
    have b3 : w2.cell? ⟨w.heap.size, 3, none⟩ = some (.int .i64 pd) := bb.cell 3
    clear bb
    go_wp2_with fail
    refine (rNew_any nm pa pb pc pd _ HS.out).mono ?_
    rintro e w3 (⟨h0, _⟩ | ⟨_, q, rfl, hR, hb⟩)
    · exact absurd HNE.out h0
    have hT := Two.first HP.out hR HB0.out.size HB2.out hb
    have HT := Lib.hid hT
    have HOK := Lib.hid (new_ok HNE.out)
    clear hT hR hb b0 b1 b2 b3 HP HB2 HB0
    obtain ⟨s0, hs0⟩ : ∃ s0 : PS, (⟨nm, ⟨pa, pb, pc, pd⟩, 0, 0, []⟩ : PS) = s0 := ⟨_, rfl⟩
    have hbt0 : s0.bt = 0 := by rw [← hs0]
    rw [hs0] at HT HOK
    clear hs0 HNE
    by_cases h300 : l.length ≤ 300
    · have hd : decide ((300 : Int) < l.length) = false := decide_eq_false (by omega)
      go_wp2_with fail
      have hw3 : w.heap.size ≤ w3.heap.size := HT.out.below.size
      have HT1 := Lib.hid HT.out.made
      clear HT
      have hlen : l.length ≤ 9223372036854775807 := HN.out
      generalize w3.alloc (.cells #[] 9) = w4 at *
      generalize w3.heap.size = g at *
      go_loopw [11, 12] (fun v i wr => DoesI w p m q l.length v i wr) (fun _ i _ => l.length - (intOf i).toNat)
      case atStart => exact ⟨0, s0, [], Nat.zero_le _, rfl, HT1.out, HOK.out, by omega, by simp, by simp⟩
      case round =>
        obtain ⟨k, s, T, hk, rfl, hT, hok, hbt, hTl, hTs⟩ := hrel
        obtain ⟨v, rfl⟩ : ∃ v : Value, v = u11 := ⟨_, rfl⟩
        have HT := Lib.hid hT
        have HK := Lib.hid hok
        have HTS := Lib.hid hTs
        clear hT hok hTs
        obtain ⟨P, cP, hPv⟩ := own_slice HT.out.own
        subst hPv
        by_cases hlt : k < l.length
        · obtain ⟨b, o, rfl, hbB, c0, c1, c2, c3⟩ := (HO.out.below HT.out.below) k _ (List.getElem?_eq_getElem hlt)
          have hid0 := HZ.out l[k] (List.getElem_mem hlt)
          have hkI : (k : Int) < l.length := by omega
          have hz : w.heap.size ≤ wr.heap.size := HT.out.below.size
          generalize l[k] = x at *
          obtain ⟨kd, id, n, nw⟩ := x
          simp only at c0 c1 c2 c3 hid0
          by_cases k0 : kd = 0
          · subst k0
            go_wp2_with fail
            refine (acq_two HT.out HK.out (by omega) HL.out nw).mono ?_
            rintro e w5 ⟨rfl, hT⟩
            have HT := Lib.hid hT
            clear hT
            obtain ⟨t, a, y, n0, hG⟩ : ∃ t a y n0, acqS s nw = (t, a, y, n0) := ⟨_, _, _, _, rfl⟩
            have HG0 := Lib.hid hG
            have HQ := Lib.hid (show tup3 (acqS s nw) = .tuple #[.string a, .int .i64 y, .int .i64 n0] by rw [hG]; rfl)
            rw [HQ.out]
            clear hG
            go_wp2_with fail
            refine (racq_two HT.out HK.out (by omega) nw).mono ?_
            rintro e w6 ⟨rfl, hT⟩
            rw [HQ.out]
            have HT := Lib.hid hT
            clear hT HQ
            have hsz := acq_size HK.out HG0.out
            have hbt2 : t.bt ≤ k + 1 := by have := (acq_ok HK.out nw).2.bt; rw [HG0.out] at this; simp only at this; omega
            have HK : Hid t.ok := Lib.hid (by have := (acq_ok HK.out nw).1; rw [HG0.out] at this; exact this)
            have HT : Hid (Two w w6 p m q t t (.slice P T.length cP) T (.slice none 0 0) []) := Lib.hid (by have := HT.out; rw [HG0.out] at this; exact this)
            have hz6 : w.heap.size ≤ w6.heap.size := HT.out.below.size
            clear HG0
            rcases beqs n0 0 with ⟨hq, hs⟩ | ⟨hq, hs⟩
            · have HTS2 := Lib.hid (show ∀ t ∈ T ++ [a], t.size ≤ 64 from fun t ht => by
                rcases List.mem_append.1 ht with h | h
                · exact HTS.out t h
                · rw [List.mem_singleton] at h; subst h; exact hsz)
              have hTl2 : (T ++ [a]).length ≤ k + 1 := by rw [List.length_append]; simp; omega
              clear hs
              go_wp2_with (at_builtin; go_loud (refine wpList_append_own_at _ rfl (.tmp 121) (.tmp 123) 33 rfl w.heap.size 9 i0 (.string ⟨#[]⟩) 1 16 Tryd.underlying33 ih iz0 iz1 iz2 rfl (by decide) _ T.length (svals T) rfl (HT.out.own.alloc _) ⟨w6.heap.size, 0, none⟩ 1 1 ([.string a]) rfl rfl (cells_new_at rfl) (by intro u hu; simp at hu; subst hu; rfl) (by simp only [maxLen]; omega) (by omega) (by simp; omega) ?_); intro v' wn hown1 hgr hiff hblk; clear hiff; have HG := Lib.hid (And.intro hown1 (And.intro hgr hblk)); clear hown1 hgr hblk)
              have HT2 := Lib.hid ((HT.out.on ((Below.refl _ _).alloc (Nat.le_refl _) _)).tell HG.out.1 HG.out.2.1 HG.out.2.2)
              have HT := HT2
              clear HT2 HG
              go_wp2_with fail
              refine (cnt_two HT.out HK.out).mono ?_
              rintro e wa ⟨rfl, -, hT⟩
              have HT := Lib.hid hT
              clear hT
              go_wp2_with fail
              refine (rcnt_two HT.out HK.out).mono ?_
              rintro e wb ⟨rfl, -, hT⟩
              have HT := Lib.hid hT
              clear hT
              go_wp2_with fail
              refine (lst_two HT.out HK.out).mono ?_
              rintro e wc ⟨x1, rfl, hx1, -, hT⟩
              have HX1 := Lib.hid hx1
              have HT := Lib.hid hT
              clear hT hx1
              go_wp2_with fail
              refine (rlst_two HT.out HK.out).mono ?_
              rintro e wd ⟨x2, rfl, hx2, hb, hT⟩
              have HX1 := Lib.hid (HX1.out.on hb)
              have HX2 := Lib.hid hx2
              have HT := Lib.hid hT
              clear hT hx2 hb
              go_wp2_with fail
              refine (same_any HX1.out HX2.out (by have := HK.out.len32; omega)).mono ?_
              rintro e we ⟨rfl, hb⟩
              have HT := Lib.hid (HT.out.on hb)
              clear hb HX1 HX2
              go_wp2_with fail
              refine (col_two HT.out HK.out).mono ?_
              rintro e wf ⟨rfl, rfl⟩
              go_wp2_with fail
              refine (rcol_two HT.out HK.out).mono ?_
              rintro e wf ⟨rfl, rfl⟩
              go_wp2_with fail
              go_roundw
              case rel => exact ⟨k + 1, t, T ++ [a], by omega, by go_num, HT.out, HK.out, hbt2, hTl2, HTS2.out⟩
              case measure => simp [intOf]; omega
            · clear hs
              go_wp2_with fail
              refine (cnt_two HT.out HK.out).mono ?_
              rintro e wa ⟨rfl, -, hT⟩
              have HT := Lib.hid hT
              clear hT
              go_wp2_with fail
              refine (rcnt_two HT.out HK.out).mono ?_
              rintro e wb ⟨rfl, -, hT⟩
              have HT := Lib.hid hT
              clear hT
              go_wp2_with fail
              refine (lst_two HT.out HK.out).mono ?_
              rintro e wc ⟨x1, rfl, hx1, -, hT⟩
              have HX1 := Lib.hid hx1
              have HT := Lib.hid hT
              clear hT hx1
              go_wp2_with fail
              refine (rlst_two HT.out HK.out).mono ?_
              rintro e wd ⟨x2, rfl, hx2, hb, hT⟩
              have HX1 := Lib.hid (HX1.out.on hb)
              have HX2 := Lib.hid hx2
              have HT := Lib.hid hT
              clear hT hx2 hb
              go_wp2_with fail
              refine (same_any HX1.out HX2.out (by have := HK.out.len32; omega)).mono ?_
              rintro e we ⟨rfl, hb⟩
              have HT := Lib.hid (HT.out.on hb)
              clear hb HX1 HX2
              go_wp2_with fail
              refine (col_two HT.out HK.out).mono ?_
              rintro e wf ⟨rfl, rfl⟩
              go_wp2_with fail
              refine (rcol_two HT.out HK.out).mono ?_
              rintro e wf ⟨rfl, rfl⟩
              go_wp2_with fail
              go_roundw
              case rel => exact ⟨k + 1, t, T, by omega, by go_num, HT.out, HK.out, hbt2, by omega, HTS.out⟩
              case measure => simp [intOf]; omega
          · by_cases k1 : kd = 1
            · subst k1
              go_wp2_with fail
              refine (nth_any HT.out.own (by omega) n).mono ?_
              rintro e wn ⟨rfl, rfl⟩
              have hid : (nthB T n).size ≤ 9223372036854775807 := nthB_size HTS.out n
              generalize nthB T n = id2 at *
              go_wp2_with fail
              refine (rel_two HT.out HK.out id2 hid nw).mono ?_
              rintro e w5 ⟨rfl, hT⟩
              have HT := Lib.hid hT
              clear hT
              go_wp2_with fail
              refine (rrel_two HT.out HK.out id2 nw).mono ?_
              rintro e w6 ⟨rfl, hT⟩
              have HT := Lib.hid hT
              have hbt2 : (relS s id2 nw).1.bt ≤ k + 1 := by have := (rel_ok HK.out id2 nw).2.bt; omega
              have HK := Lib.hid (rel_ok HK.out id2 nw).1
              clear hT
              generalize relS s id2 nw = G at *
              obtain ⟨t, n0⟩ := G
              simp only at *
              go_wp2_with fail
              refine (cnt_two HT.out HK.out).mono ?_
              rintro e wa ⟨rfl, -, hT⟩
              have HT := Lib.hid hT
              clear hT
              go_wp2_with fail
              refine (rcnt_two HT.out HK.out).mono ?_
              rintro e wb ⟨rfl, -, hT⟩
              have HT := Lib.hid hT
              clear hT
              go_wp2_with fail
              refine (lst_two HT.out HK.out).mono ?_
              rintro e wc ⟨x1, rfl, hx1, -, hT⟩
              have HX1 := Lib.hid hx1
              have HT := Lib.hid hT
              clear hT hx1
              go_wp2_with fail
              refine (rlst_two HT.out HK.out).mono ?_
              rintro e wd ⟨x2, rfl, hx2, hb, hT⟩
              have HX1 := Lib.hid (HX1.out.on hb)
              have HX2 := Lib.hid hx2
              have HT := Lib.hid hT
              clear hT hx2 hb
              go_wp2_with fail
              refine (same_any HX1.out HX2.out (by have := HK.out.len32; omega)).mono ?_
              rintro e we ⟨rfl, hb⟩
              have HT := Lib.hid (HT.out.on hb)
              clear hb HX1 HX2
              go_wp2_with fail
              refine (col_two HT.out HK.out).mono ?_
              rintro e wf ⟨rfl, rfl⟩
              go_wp2_with fail
              refine (rcol_two HT.out HK.out).mono ?_
              rintro e wf ⟨rfl, rfl⟩
              go_wp2_with fail
              go_roundw
              case rel => exact ⟨k + 1, t, T, by omega, by go_num, HT.out, HK.out, hbt2, by omega, HTS.out⟩
              case measure => simp [intOf]; omega
            · by_cases k2 : kd = 2
              · subst k2
                go_wp2_with fail
                refine (nth_any HT.out.own (by omega) n).mono ?_
                rintro e wn ⟨rfl, rfl⟩
                have hid : (nthB T n).size ≤ 9223372036854775807 := nthB_size HTS.out n
                generalize nthB T n = id2 at *
                go_wp2_with fail
                refine (cra_two HT.out HK.out id2 hid nw).mono ?_
                rintro e w5 ⟨rfl, hT⟩
                have HT := Lib.hid hT
                clear hT
                go_wp2_with fail
                refine (rcra_two HT.out HK.out id2 nw).mono ?_
                rintro e w6 ⟨rfl, hT⟩
                have HT := Lib.hid hT
                have hbt2 : (craS s id2 nw).1.bt ≤ k + 1 := by have := (cra_ok HK.out id2 nw).2.bt; omega
                have HK := Lib.hid (cra_ok HK.out id2 nw).1
                clear hT
                generalize craS s id2 nw = G at *
                obtain ⟨t, n0⟩ := G
                simp only at *
                go_wp2_with fail
                refine (cnt_two HT.out HK.out).mono ?_
                rintro e wa ⟨rfl, -, hT⟩
                have HT := Lib.hid hT
                clear hT
                go_wp2_with fail
                refine (rcnt_two HT.out HK.out).mono ?_
                rintro e wb ⟨rfl, -, hT⟩
                have HT := Lib.hid hT
                clear hT
                go_wp2_with fail
                refine (lst_two HT.out HK.out).mono ?_
                rintro e wc ⟨x1, rfl, hx1, -, hT⟩
                have HX1 := Lib.hid hx1
                have HT := Lib.hid hT
                clear hT hx1
                go_wp2_with fail
                refine (rlst_two HT.out HK.out).mono ?_
                rintro e wd ⟨x2, rfl, hx2, hb, hT⟩
                have HX1 := Lib.hid (HX1.out.on hb)
                have HX2 := Lib.hid hx2
                have HT := Lib.hid hT
                clear hT hx2 hb
                go_wp2_with fail
                refine (same_any HX1.out HX2.out (by have := HK.out.len32; omega)).mono ?_
                rintro e we ⟨rfl, hb⟩
                have HT := Lib.hid (HT.out.on hb)
                clear hb HX1 HX2
                go_wp2_with fail
                refine (col_two HT.out HK.out).mono ?_
                rintro e wf ⟨rfl, rfl⟩
                go_wp2_with fail
                refine (rcol_two HT.out HK.out).mono ?_
                rintro e wf ⟨rfl, rfl⟩
                go_wp2_with fail
                go_roundw
                case rel => exact ⟨k + 1, t, T, by omega, by go_num, HT.out, HK.out, hbt2, by omega, HTS.out⟩
                case measure => simp [intOf]; omega
              · by_cases k3 : kd = 3
                · subst k3
                  go_wp2_with fail
                  refine (exp_two HT.out HK.out nw).mono ?_
                  rintro e w5 ⟨x, rfl, hM⟩
                  have HM := Lib.hid hM
                  clear hM
                  go_wp2_with fail
                  refine (rexp_two HM.out HK.out nw).mono ?_
                  rintro e w6 ⟨y, rfl, hy, hx, hT⟩
                  have HT := Lib.hid hT
                  have HX := Lib.hid hx
                  have HY := Lib.hid hy
                  have hbt2 : (expS s nw).1.bt ≤ k + 1 := by have := (exp_ok HK.out nw).2.bt; omega
                  have hln : (expS s nw).2.length ≤ 1000000 := by
                    have := HK.out.len32
                    unfold expS expG
                    split
                    · simp only [List.length_map]; have := List.length_filter_le (old s.p nw) s.l; omega
                    · simp
                  have HK := Lib.hid (exp_ok HK.out nw).1
                  clear hT hx hy
                  generalize expS s nw = G at *
                  obtain ⟨t, xs⟩ := G
                  simp only at *
                  go_wp2_with fail
                  refine (SameS_any HX.out HY.out hln).mono ?_
                  rintro e w7 ⟨rfl, hb⟩
                  have HT := Lib.hid (HT.out.on hb)
                  clear hb HX HY
                  go_wp2_with fail
                  refine (cnt_two HT.out HK.out).mono ?_
                  rintro e wa ⟨rfl, -, hT⟩
                  have HT := Lib.hid hT
                  clear hT
                  go_wp2_with fail
                  refine (rcnt_two HT.out HK.out).mono ?_
                  rintro e wb ⟨rfl, -, hT⟩
                  have HT := Lib.hid hT
                  clear hT
                  go_wp2_with fail
                  refine (lst_two HT.out HK.out).mono ?_
                  rintro e wc ⟨x1, rfl, hx1, -, hT⟩
                  have HX1 := Lib.hid hx1
                  have HT := Lib.hid hT
                  clear hT hx1
                  go_wp2_with fail
                  refine (rlst_two HT.out HK.out).mono ?_
                  rintro e wd ⟨x2, rfl, hx2, hb, hT⟩
                  have HX1 := Lib.hid (HX1.out.on hb)
                  have HX2 := Lib.hid hx2
                  have HT := Lib.hid hT
                  clear hT hx2 hb
                  go_wp2_with fail
                  refine (same_any HX1.out HX2.out (by have := HK.out.len32; omega)).mono ?_
                  rintro e we ⟨rfl, hb⟩
                  have HT := Lib.hid (HT.out.on hb)
                  clear hb HX1 HX2
                  go_wp2_with fail
                  refine (col_two HT.out HK.out).mono ?_
                  rintro e wf ⟨rfl, rfl⟩
                  go_wp2_with fail
                  refine (rcol_two HT.out HK.out).mono ?_
                  rintro e wf ⟨rfl, rfl⟩
                  go_wp2_with fail
                  go_roundw
                  case rel => exact ⟨k + 1, t, T, by omega, by go_num, HT.out, HK.out, hbt2, by omega, HTS.out⟩
                  case measure => simp [intOf]; omega
                · by_cases k4 : kd = 4
                  · subst k4
                    have hid := hid0
                    go_wp2_with fail
                    refine (rel_two HT.out HK.out id hid nw).mono ?_
                    rintro e w5 ⟨rfl, hT⟩
                    have HT := Lib.hid hT
                    clear hT
                    go_wp2_with fail
                    refine (rrel_two HT.out HK.out id nw).mono ?_
                    rintro e w6 ⟨rfl, hT⟩
                    have HT := Lib.hid hT
                    have hbt2 : (relS s id nw).1.bt ≤ k + 1 := by have := (rel_ok HK.out id nw).2.bt; omega
                    have HK := Lib.hid (rel_ok HK.out id nw).1
                    clear hT
                    generalize relS s id nw = G at *
                    obtain ⟨t, n0⟩ := G
                    simp only at *
                    go_wp2_with fail
                    refine (cnt_two HT.out HK.out).mono ?_
                    rintro e wa ⟨rfl, -, hT⟩
                    have HT := Lib.hid hT
                    clear hT
                    go_wp2_with fail
                    refine (rcnt_two HT.out HK.out).mono ?_
                    rintro e wb ⟨rfl, -, hT⟩
                    have HT := Lib.hid hT
                    clear hT
                    go_wp2_with fail
                    refine (lst_two HT.out HK.out).mono ?_
                    rintro e wc ⟨x1, rfl, hx1, -, hT⟩
                    have HX1 := Lib.hid hx1
                    have HT := Lib.hid hT
                    clear hT hx1
                    go_wp2_with fail
                    refine (rlst_two HT.out HK.out).mono ?_
                    rintro e wd ⟨x2, rfl, hx2, hb, hT⟩
                    have HX1 := Lib.hid (HX1.out.on hb)
                    have HX2 := Lib.hid hx2
                    have HT := Lib.hid hT
                    clear hT hx2 hb
                    go_wp2_with fail
                    refine (same_any HX1.out HX2.out (by have := HK.out.len32; omega)).mono ?_
                    rintro e we ⟨rfl, hb⟩
                    have HT := Lib.hid (HT.out.on hb)
                    clear hb HX1 HX2
                    go_wp2_with fail
                    refine (col_two HT.out HK.out).mono ?_
                    rintro e wf ⟨rfl, rfl⟩
                    go_wp2_with fail
                    refine (rcol_two HT.out HK.out).mono ?_
                    rintro e wf ⟨rfl, rfl⟩
                    go_wp2_with fail
                    go_roundw
                    case rel => exact ⟨k + 1, t, T, by omega, by go_num, HT.out, HK.out, hbt2, by omega, HTS.out⟩
                    case measure => simp [intOf]; omega
                  · have d0 : (kd == 0) = false := by simpa using k0
                    have d1 : (kd == 1) = false := by simpa using k1
                    have d2 : (kd == 2) = false := by simpa using k2
                    have d3 : (kd == 3) = false := by simpa using k3
                    have d4 : (kd == 4) = false := by simpa using k4
                    have hid := hid0
                    clear k0 k1 k2 k3 k4
                    go_wp2_with fail
                    refine (cra_two HT.out HK.out id hid nw).mono ?_
                    rintro e w5 ⟨rfl, hT⟩
                    have HT := Lib.hid hT
                    clear hT
                    go_wp2_with fail
                    refine (rcra_two HT.out HK.out id nw).mono ?_
                    rintro e w6 ⟨rfl, hT⟩
                    have HT := Lib.hid hT
                    have hbt2 : (craS s id nw).1.bt ≤ k + 1 := by have := (cra_ok HK.out id nw).2.bt; omega
                    have HK := Lib.hid (cra_ok HK.out id nw).1
                    clear hT
                    generalize craS s id nw = G at *
                    obtain ⟨t, n0⟩ := G
                    simp only at *
                    go_wp2_with fail
                    refine (cnt_two HT.out HK.out).mono ?_
                    rintro e wa ⟨rfl, -, hT⟩
                    have HT := Lib.hid hT
                    clear hT
                    go_wp2_with fail
                    refine (rcnt_two HT.out HK.out).mono ?_
                    rintro e wb ⟨rfl, -, hT⟩
                    have HT := Lib.hid hT
                    clear hT
                    go_wp2_with fail
                    refine (lst_two HT.out HK.out).mono ?_
                    rintro e wc ⟨x1, rfl, hx1, -, hT⟩
                    have HX1 := Lib.hid hx1
                    have HT := Lib.hid hT
                    clear hT hx1
                    go_wp2_with fail
                    refine (rlst_two HT.out HK.out).mono ?_
                    rintro e wd ⟨x2, rfl, hx2, hb, hT⟩
                    have HX1 := Lib.hid (HX1.out.on hb)
                    have HX2 := Lib.hid hx2
                    have HT := Lib.hid hT
                    clear hT hx2 hb
                    go_wp2_with fail
                    refine (same_any HX1.out HX2.out (by have := HK.out.len32; omega)).mono ?_
                    rintro e we ⟨rfl, hb⟩
                    have HT := Lib.hid (HT.out.on hb)
                    clear hb HX1 HX2
                    go_wp2_with fail
                    refine (col_two HT.out HK.out).mono ?_
                    rintro e wf ⟨rfl, rfl⟩
                    go_wp2_with fail
                    refine (rcol_two HT.out HK.out).mono ?_
                    rintro e wf ⟨rfl, rfl⟩
                    go_wp2_with fail
                    go_roundw
                    case rel => exact ⟨k + 1, t, T, by omega, by go_num, HT.out, HK.out, hbt2, by omega, HTS.out⟩
                    case measure => simp [intOf]; omega
        · go_wp2_with fail
          refine (awake_any _ (HL.out.below HT.out.below)).mono ?_
          rintro e wz ⟨rfl, hb⟩
          go_wp2_with fail
          go_ret
          exact ⟨rfl, (HT.out.below).trans (hb.mono (HT.out.below).size)⟩
    · have hd : decide ((300 : Int) < l.length) = true := decide_eq_true (by omega)
      go_wp2_with fail
      refine (awake_any _ (HL.out.below HT.out.below)).mono ?_
      rintro e wz ⟨rfl, hb⟩
      go_wp2_with fail
      go_ret
      exact ⟨rfl, (HT.out.below).trans (hb.mono (HT.out.below).size)⟩
end Go.Proofs.YtmpaogmfceldjaaDoor
