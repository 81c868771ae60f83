/- The law PoolErrors, walked. -/
import Derived.Test.YtmpaogmfceldjaaDoorKWL
namespace Go.Proofs.YtmpaogmfceldjaaDoor
open Go.RowKit
open Go.Sort (grow)

theorem newE_cases (nm : ByteArray) (pp : PP) : newE nm pp = 0 ∨ newE nm pp = 2 ∨ newE nm pp = 4 := by
  unfold newE
  split
  · split
    · exact .inr (.inl rfl)
    · exact .inl rfl
  · exact .inr (.inr rfl)
/-- What the loop keeps. -/
def ErrI (w : World) (p m : Nat) (L : Nat) (v last i : Value) (wr : World) : Prop := ∃ (k : Nat) (s : PS) (T : List ByteArray), k ≤ L ∧ i = .int .i64 k ∧ last = .int .i64 s.now ∧ One w wr p m s (strR v T) noR ∧ s.ok ∧ s.bt ≤ k ∧ T.length ≤ k ∧ ∀ t ∈ T, t.size ≤ 64
set_option maxHeartbeats 16000000 in
set_option maxRecDepth 100000 in
theorem PoolErrors_any (nm : ByteArray) (pa pb pc pd : Int) (A : Option Addr) (c : Nat) (l : List POp) (w : World) (hs : nm.size ≤ 9223372036854775807) (hl : OpsAt w w.heap.size A l) (hn : l.length ≤ 9223372036854775807) (hL : LaidW w) :
    Calls Tryd.prog 6 #[.string nm, .agg #[.int .i64 pa, .int .i64 pb, .int .i64 pc, .int .i64 pd], .slice A l.length c] w fun e w' => e = .returned (.bool true) ∧ Below w.heap.size w w' := by
  obtain ⟨i0, ih, iz0, iz1, iz2⟩ := info_parts info_str
  have HO := Lib.hid hl
  have HL := Lib.hid hL
  have HS := Lib.hid hs
  have HN := Lib.hid hn
  have hw0 := Nat.le_refl w.heap.size
  clear hl hL hs hn
  go_enter Tryd.func6, Tryd.ntmps6
  go_wp2_with fail
  have HBB := Lib.hid (show Blk (w.alloc (.cells #[.int .i64 pa, .int .i64 pb, .int .i64 pc, .int .i64 pd] 23)) w.heap.size 23 #[.int .i64 pa, .int .i64 pb, .int .i64 pc, .int .i64 pd] from Blk.new _ _ _)
  have HB0 := Lib.hid (show Below w.heap.size w (w.alloc (.cells #[.int .i64 pa, .int .i64 pb, .int .i64 pc, .int .i64 pd] 23)) from (Below.refl _ _).alloc (Nat.le_refl _) _)
  refine (New_any nm pa pb pc pd _ HS.out).mono ?_
  generalize w.alloc (.cells #[.int .i64 pa, .int .i64 pb, .int .i64 pc, .int .i64 pd] 23) = w1 at *
  rintro e w2 (⟨hne, rfl, hb⟩ | ⟨hne, p, m, rfl, hP, hb⟩)
  · have HB2 := Lib.hid (HB0.out.trans (hb.mono HB0.out.size))
    have hne2 := newE_cases nm ⟨pa, pb, pc, pd⟩
    generalize newE nm ⟨pa, pb, pc, pd⟩ = E at *
    clear hb
    rcases hne2 with rfl | rfl | rfl
    · exact absurd rfl hne
    all_goals
      clear hne
      go_wp2_with fail
      refine (awake_any _ (HL.out.below HB2.out)).mono ?_
      rintro e wz ⟨rfl, hb⟩
      go_wp2_with fail
      go_ret
      exact ⟨rfl, (HB2.out).trans (hb.mono (HB2.out).size)⟩
  · have HBB := Lib.hid (HBB.out.on hb)
    have HT := Lib.hid (One.first hP HB0.out.size (HB0.out.trans (hb.mono HB0.out.size)))
    have HOK := Lib.hid (new_ok hne)
    clear hne hP hb
    obtain ⟨s0, hs0⟩ : ∃ s0 : PS, (⟨nm, ⟨pa, pb, pc, pd⟩, 0, 0, []⟩ : PS) = s0 := ⟨_, rfl⟩
    have hbt0 : s0.bt = 0 := by rw [← hs0]
    have hnow0 : s0.now = 0 := by rw [← hs0]
    have hl0 : s0.l = [] := by rw [← hs0]
    have hp0 : s0.p = ⟨pa, pb, pc, pd⟩ := by rw [← hs0]
    rw [hs0] at HT HOK
    clear hs0
    by_cases h300 : l.length ≤ 300
    · have hd : decide ((300 : Int) < l.length) = false := decide_eq_false (by omega)
      go_wp2_with fail
      have hw3 : w.heap.size ≤ w2.heap.size := HT.out.below.size
      have HT1 := Lib.hid HT.out.made
      clear HT
      have hlen : l.length ≤ 9223372036854775807 := HN.out
      generalize w2.alloc (.cells #[] 9) = w4 at *
      generalize w2.heap.size = g at *
      go_loopw [9, 10, 11] (fun v last i wr => ErrI w p m l.length v last i wr) (fun _ _ i _ => l.length - (intOf i).toNat)
      case atStart => exact ⟨0, s0, [], Nat.zero_le _, rfl, by rw [hnow0], HT1.out, HOK.out, by omega, by simp, by simp⟩
      case round =>
        obtain ⟨k, s, T, hk, rfl, rfl, hT, hok, hbt, hTl, hTs⟩ := hrel
        obtain ⟨v, rfl⟩ : ∃ v : Value, v = u9 := ⟨_, rfl⟩
        have HT := Lib.hid hT
        have HK0 := Lib.hid hok
        have HTS := Lib.hid hTs
        clear hT hok hTs
        obtain ⟨P, cP, hPv⟩ := own_slice HT.out.str1
        subst hPv
        by_cases hlt : k < l.length
        · obtain ⟨b, o, rfl, hbB, c0, c1, c2, c3⟩ := HO.out k _ (List.getElem?_eq_getElem hlt)
          have hkI : (k : Int) < l.length := by omega
          have hz : w.heap.size ≤ wr.heap.size := HT.out.below.size
          generalize l[k] = x at *
          obtain ⟨kd, id, n, nw⟩ := x
          simp only at c0 c1 c2 c3
          go_wp2_with fail
          refine (lst_fresh HT.out HK0.out).mono ?_
          rintro e wl ⟨x1, rfl, hT⟩
          have HT := Lib.hid hT
          clear hT
          go_wp2_with fail
          refine (col_one HT.out HK0.out).mono ?_
          rintro e wc ⟨rfl, rfl⟩
          have hbl := HT.out.below
          have c0 := (hbl.cell (p := ⟨b, _, none⟩) hbB).trans c0
          have c2 := (hbl.cell (p := ⟨b, _, none⟩) hbB).trans c2
          have c3 := (hbl.cell (p := ⟨b, _, none⟩) hbB).trans c3
          have hzl : w.heap.size ≤ wl.heap.size := hbl.size
          clear hbl c1 hz
          go_wp2_with fail
          refine (nth_any HT.out.str1 (by omega) n).mono ?_
          rintro e wn ⟨rfl, rfl⟩
          have hid : (nthB T n).size ≤ 9223372036854775807 := nthB_size HTS.out n
          generalize nthB T n = id2 at *
          by_cases k0 : kd = 0
          · subst k0
            go_wp2_with fail
            refine (acq_one HT.out HK0.out (by omega) HL.out nw).mono ?_
            rintro e w5 ⟨rfl, hT⟩
            have HT := Lib.hid hT
            obtain ⟨t, a, y, n0, hG⟩ : ∃ t a y n0, acqS s nw = (t, a, y, n0) := ⟨_, _, _, _, rfl⟩
            have hQ : tup3 (acqS s nw) = .tuple #[.string a, .int .i64 y, .int .i64 n0] := by rw [hG]; rfl
            have HE := Lib.hid (acq_err hG)
            rw [hQ]
            have hsz := acq_size HK0.out hG
            have hbt2 : (acqS s nw).1.bt ≤ k + 1 := by have := (acq_ok HK0.out nw).2.bt; omega
            have HK := Lib.hid (acq_ok HK0.out nw).1
            rw [hG] at HT HK hbt2
            simp only at HT HK hbt2
            have hz6 : w.heap.size ≤ w5.heap.size := HT.out.below.size
            clear hT hG hQ
            rcases beqs n0 0 with ⟨hq, hs⟩ | ⟨hq, hs⟩
            · subst hs
              have HTS2 := Lib.hid (show ∀ t ∈ T ++ [a], t.size ≤ 64 from fun t ht => by
                rcases List.mem_append.1 ht with h | h
                · exact HTS.out t h
                · rw [List.mem_singleton] at h; subst h; exact hsz)
              have hTl2 : (T ++ [a]).length ≤ k + 1 := by rw [List.length_append]; simp; omega
              obtain ⟨hy1, hy2⟩ := HE.out.yes rfl
              have hy3 : ¬ (nw < 0 ∨ 1073741824 < nw) := fun h => by have := HE.out.rng.2 ((inB_dec nw).2 h); omega
              have d1 : decide (nw < s.now) = false := decide_eq_false (by omega)
              have d2 : decide (nw < 0) = false := decide_eq_false (by omega)
              have d3 : decide (1073741824 < nw) = false := decide_eq_false (by omega)
              have HY := Lib.hid hy1
              clear hy1 hy2 hy3
              go_wp2_with (at_builtin; go_loud (refine wpList_append_own_at _ rfl (.tmp 73) (.tmp 75) 33 rfl w.heap.size 9 i0 (.string ⟨#[]⟩) 1 16 Tryd.underlying33 ih iz0 iz1 iz2 rfl (by decide) _ T.length (svals T) rfl (HT.out.str1.alloc _) ⟨w5.heap.size, 0, none⟩ 1 1 ([.string a]) rfl rfl (cells_new_at rfl) (by intro u hu; simp at hu; subst hu; rfl) (by simp only [maxLen]; omega) (by omega) (by simp; omega) ?_); intro v' wn hown1 hgr hiff hblk; clear hiff; have HG := Lib.hid (And.intro hown1 (And.intro hgr hblk)); clear hown1 hgr hblk)
              have HT2 := Lib.hid ((HT.out.on ((Below.refl _ _).alloc (Nat.le_refl _) _)).tell HG.out.1 HG.out.2.1 HG.out.2.2)
              have HT := HT2
              clear HT2 HG
              go_wp2_with fail
              go_roundw
              case rel => exact ⟨k + 1, t, T ++ [a], by omega, by go_num, by rw [HY.out], HT.out.drop, HK.out, hbt2, hTl2, HTS2.out⟩
              case measure => simp [intOf]; omega
            · have hn0 : n0 ≠ 0 := hs
              clear hs
              obtain rfl : t = s := HE.out.no hn0
              have hr := HE.out.rng
              rw [inB_dec] at hr
              go_wp2_with fail
              refine (lst_one HT.out HK.out).mono ?_
              rintro e wa ⟨x2, rfl, hx2, hb, hT⟩
              have HT := Lib.hid hT
              have HX := Lib.hid hx2
              clear hT hx2 hb
              go_wp2_with fail
              refine (same_any HT.out.ins2 HX.out (by have := HK.out.len32; omega)).mono ?_
              rintro e wb ⟨rfl, hb⟩
              have HT := Lib.hid (HT.out.on hb)
              clear hb HX
              go_wp2_with fail
              refine (col_one HT.out HK.out).mono ?_
              rintro e wc ⟨rfl, rfl⟩
              by_cases k2 : n0 = 2
              · subst k2
                by_cases k3 : nw < 0
                · have d2 : decide (nw < 0) = true := decide_eq_true k3
                  clear hr k3
                  go_wp2_with fail
                  go_roundw
                  case rel => exact ⟨k + 1, t, T, by omega, by go_num, rfl, HT.out.drop, HK.out, hbt2, by omega, HTS.out⟩
                  case measure => simp [intOf]; omega
                · have d2 : decide (nw < 0) = false := decide_eq_false k3
                  have d3 : decide (1073741824 < nw) = true := decide_eq_true (by have := hr.1 rfl; omega)
                  clear hr k3
                  go_wp2_with fail
                  go_roundw
                  case rel => exact ⟨k + 1, t, T, by omega, by go_num, rfl, HT.out.drop, HK.out, hbt2, by omega, HTS.out⟩
                  case measure => simp [intOf]; omega
              · have b2 : (n0 == 2) = false := by simpa using k2
                have k3 : ¬ (nw < 0 ∨ 1073741824 < nw) := fun h => k2 (hr.2 h)
                have d2 : decide (nw < 0) = false := decide_eq_false (by omega)
                have d3 : decide (1073741824 < nw) = false := decide_eq_false (by omega)
                clear hr k2 k3
                go_wp2_with fail
                go_roundw
                case rel => exact ⟨k + 1, t, T, by omega, by go_num, rfl, HT.out.drop, HK.out, hbt2, by omega, HTS.out⟩
                case measure => simp [intOf]; omega
          · by_cases k1 : kd = 1
            · subst k1
              go_wp2_with fail
              refine (rel_one HT.out HK0.out id2 hid nw).mono ?_
              rintro e w5 ⟨rfl, hT⟩
              have HT := Lib.hid hT
              have hbt2 : (relS s id2 nw).1.bt ≤ k + 1 := by have := (rel_ok HK0.out id2 nw).2.bt; omega
              have HK := Lib.hid (rel_ok HK0.out id2 nw).1
              obtain ⟨t, n0, hG⟩ : ∃ t n0, relS s id2 nw = (t, n0) := ⟨_, _, rfl⟩
              have HE := Lib.hid (rel_err hG)
              rw [hG] at HT HK hbt2
              rw [hG]
              simp only at *
              clear hT hG
              rcases beqs n0 0 with ⟨hq, hs⟩ | ⟨hq, hs⟩
              · subst hs
                obtain ⟨hy1, hy2⟩ := HE.out.yes rfl
                have hy3 : ¬ (nw < 0 ∨ 1073741824 < nw) := fun h => by have := HE.out.rng.2 ((inB_dec nw).2 h); omega
                have d1 : decide (nw < s.now) = false := decide_eq_false (by omega)
                have d2 : decide (nw < 0) = false := decide_eq_false (by omega)
                have d3 : decide (1073741824 < nw) = false := decide_eq_false (by omega)
                have HY := Lib.hid hy1
                clear hy1 hy2 hy3
                go_wp2_with fail
                go_roundw
                case rel => exact ⟨k + 1, t, T, by omega, by go_num, by rw [HY.out], HT.out.drop, HK.out, hbt2, by omega, HTS.out⟩
                case measure => simp [intOf]; omega
              · have hn0 : n0 ≠ 0 := hs
                clear hs
                obtain rfl : t = s := HE.out.no hn0
                have hr := HE.out.rng
                rw [inB_dec] at hr
                go_wp2_with fail
                refine (lst_one HT.out HK.out).mono ?_
                rintro e wa ⟨x2, rfl, hx2, hb, hT⟩
                have HT := Lib.hid hT
                have HX := Lib.hid hx2
                clear hT hx2 hb
                go_wp2_with fail
                refine (same_any HT.out.ins2 HX.out (by have := HK.out.len32; omega)).mono ?_
                rintro e wb ⟨rfl, hb⟩
                have HT := Lib.hid (HT.out.on hb)
                clear hb HX
                go_wp2_with fail
                refine (col_one HT.out HK.out).mono ?_
                rintro e wc ⟨rfl, rfl⟩
                by_cases k2 : n0 = 2
                · subst k2
                  by_cases k3 : nw < 0
                  · have d2 : decide (nw < 0) = true := decide_eq_true k3
                    clear hr k3
                    go_wp2_with fail
                    go_roundw
                    case rel => exact ⟨k + 1, t, T, by omega, by go_num, rfl, HT.out.drop, HK.out, hbt2, by omega, HTS.out⟩
                    case measure => simp [intOf]; omega
                  · have d2 : decide (nw < 0) = false := decide_eq_false k3
                    have d3 : decide (1073741824 < nw) = true := decide_eq_true (by have := hr.1 rfl; omega)
                    clear hr k3
                    go_wp2_with fail
                    go_roundw
                    case rel => exact ⟨k + 1, t, T, by omega, by go_num, rfl, HT.out.drop, HK.out, hbt2, by omega, HTS.out⟩
                    case measure => simp [intOf]; omega
                · have b2 : (n0 == 2) = false := by simpa using k2
                  have k3 : ¬ (nw < 0 ∨ 1073741824 < nw) := fun h => k2 (hr.2 h)
                  have d2 : decide (nw < 0) = false := decide_eq_false (by omega)
                  have d3 : decide (1073741824 < nw) = false := decide_eq_false (by omega)
                  clear hr k2 k3
                  go_wp2_with fail
                  go_roundw
                  case rel => exact ⟨k + 1, t, T, by omega, by go_num, rfl, HT.out.drop, HK.out, hbt2, by omega, HTS.out⟩
                  case measure => simp [intOf]; omega
            · have d0 : (kd == 0) = false := by simpa using k0
              have d1 : (kd == 1) = false := by simpa using k1
              clear k0 k1
              go_wp2_with fail
              refine (cra_one HT.out HK0.out id2 hid nw).mono ?_
              rintro e w5 ⟨rfl, hT⟩
              have HT := Lib.hid hT
              have hbt2 : (craS s id2 nw).1.bt ≤ k + 1 := by have := (cra_ok HK0.out id2 nw).2.bt; omega
              have HK := Lib.hid (cra_ok HK0.out id2 nw).1
              obtain ⟨t, n0, hG⟩ : ∃ t n0, craS s id2 nw = (t, n0) := ⟨_, _, rfl⟩
              have HE := Lib.hid (cra_err hG)
              rw [hG] at HT HK hbt2
              rw [hG]
              simp only at *
              clear hT hG
              rcases beqs n0 0 with ⟨hq, hs⟩ | ⟨hq, hs⟩
              · subst hs
                obtain ⟨hy1, hy2⟩ := HE.out.yes rfl
                have hy3 : ¬ (nw < 0 ∨ 1073741824 < nw) := fun h => by have := HE.out.rng.2 ((inB_dec nw).2 h); omega
                have d1 : decide (nw < s.now) = false := decide_eq_false (by omega)
                have d2 : decide (nw < 0) = false := decide_eq_false (by omega)
                have d3 : decide (1073741824 < nw) = false := decide_eq_false (by omega)
                have HY := Lib.hid hy1
                clear hy1 hy2 hy3
                go_wp2_with fail
                go_roundw
                case rel => exact ⟨k + 1, t, T, by omega, by go_num, by rw [HY.out], HT.out.drop, HK.out, hbt2, by omega, HTS.out⟩
                case measure => simp [intOf]; omega
              · have hn0 : n0 ≠ 0 := hs
                clear hs
                obtain rfl : t = s := HE.out.no hn0
                have hr := HE.out.rng
                rw [inB_dec] at hr
                go_wp2_with fail
                refine (lst_one HT.out HK.out).mono ?_
                rintro e wa ⟨x2, rfl, hx2, hb, hT⟩
                have HT := Lib.hid hT
                have HX := Lib.hid hx2
                clear hT hx2 hb
                go_wp2_with fail
                refine (same_any HT.out.ins2 HX.out (by have := HK.out.len32; omega)).mono ?_
                rintro e wb ⟨rfl, hb⟩
                have HT := Lib.hid (HT.out.on hb)
                clear hb HX
                go_wp2_with fail
                refine (col_one HT.out HK.out).mono ?_
                rintro e wc ⟨rfl, rfl⟩
                by_cases k2 : n0 = 2
                · subst k2
                  by_cases k3 : nw < 0
                  · have d2 : decide (nw < 0) = true := decide_eq_true k3
                    clear hr k3
                    go_wp2_with fail
                    go_roundw
                    case rel => exact ⟨k + 1, t, T, by omega, by go_num, rfl, HT.out.drop, HK.out, hbt2, by omega, HTS.out⟩
                    case measure => simp [intOf]; omega
                  · have d2 : decide (nw < 0) = false := decide_eq_false k3
                    have d3 : decide (1073741824 < nw) = true := decide_eq_true (by have := hr.1 rfl; omega)
                    clear hr k3
                    go_wp2_with fail
                    go_roundw
                    case rel => exact ⟨k + 1, t, T, by omega, by go_num, rfl, HT.out.drop, HK.out, hbt2, by omega, HTS.out⟩
                    case measure => simp [intOf]; omega
                · have b2 : (n0 == 2) = false := by simpa using k2
                  have k3 : ¬ (nw < 0 ∨ 1073741824 < nw) := fun h => k2 (hr.2 h)
                  have d2 : decide (nw < 0) = false := decide_eq_false (by omega)
                  have d3 : decide (1073741824 < nw) = false := decide_eq_false (by omega)
                  clear hr k2 k3
                  go_wp2_with fail
                  go_roundw
                  case rel => exact ⟨k + 1, t, T, by omega, by go_num, rfl, HT.out.drop, HK.out, hbt2, by omega, HTS.out⟩
                  case measure => simp [intOf]; omega
        · go_wp2_with fail
          refine (awake_any _ (HL.out.below HT.out.below)).mono ?_
          rintro e wz ⟨rfl, hb⟩
          go_wp2_with fail
          go_ret
          exact ⟨rfl, (HT.out.below).trans (hb.mono (HT.out.below).size)⟩
    · have hd : decide ((300 : Int) < l.length) = true := decide_eq_true (by omega)
      go_wp2_with fail
      refine (awake_any _ (HL.out.below HT.out.below)).mono ?_
      rintro e wz ⟨rfl, hb⟩
      go_wp2_with fail
      go_ret
      exact ⟨rfl, (HT.out.below).trans (hb.mono (HT.out.below).size)⟩
end Go.Proofs.YtmpaogmfceldjaaDoor
