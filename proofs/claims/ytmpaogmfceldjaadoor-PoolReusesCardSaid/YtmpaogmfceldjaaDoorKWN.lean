/- The law PoolReuses, walked. -/
import Derived.Test.YtmpaogmfceldjaaDoorKRP
namespace Go.Proofs.YtmpaogmfceldjaaDoor
open Go.RowKit
open Go.Sort (grow)

theorem uses_at {w : World} {base : Nat} {pv : Option Addr} {cv : Nat} {l : List ByteArray} (h : OwnS w base (.slice pv l.length cv) l) (hn : l.length ≤ 1000000) (s : ByteArray) {u : Int} (hu : u = usesN l s) (n : Nat) :
    Calls Tryd.prog 28 #[.slice pv l.length cv, .string s] (w.drewN n) fun e w' => e = .returned (.int .i64 u) ∧ ∃ m, w' = w.drewN m :=
  (uses_any (h.on (below_drewN' _ _ _)) hn s).mono fun _ _ ⟨h1, h2⟩ => ⟨by rw [h1, hu], n, h2.symm⟩
theorem Has_at {w : World} {base : Nat} {pv : Option Addr} {cv : Nat} {l : List ByteArray} (h : OwnS w base (.slice pv l.length cv) l) (hn : l.length ≤ 1000000) (s : ByteArray) {u : Bool} (hu : hasB l s = u) (n : Nat) :
    Calls Tryd.prog 27 #[.slice pv l.length cv, .string s] (w.drewN n) fun e w' => e = .returned (.bool u) ∧ ∃ m, w' = w.drewN m :=
  (Has_any (h.on (below_drewN' _ _ _)) hn s).mono fun _ _ ⟨h1, h2⟩ => ⟨by rw [h1, hu], n, h2.symm⟩
theorem cntb_one {w0 w : World} {p m : Nat} {s : PS} {R Q : Row} (h : One w0 w p m s R Q) (hok : s.ok) {a q : Nat} (ha : busyN s.l = a) (hq : s.l.length - busyN s.l = q) :
    Calls Tryd.prog 20 #[.pointer (some ⟨p, 0, none⟩)] w fun e w' => e = .returned (.tuple #[.int .i64 a, .int .i64 q]) ∧ Below w.heap.size w w' ∧ One w0 w' p m s R Q := by
  obtain ⟨A, c, hP⟩ := h.ex
  exact (Counts_any hP.pool hok).mono fun e w' ⟨h1, hb⟩ => ⟨by rw [h1, ← ha, ← hq], hb, h.on hb⟩
theorem OwnL.cells_at {w : World} {base : Nat} {pv : Option Addr} {cv : Nat} {l : List Ins} (h : OwnL w base (.slice pv l.length cv) l) {k : Nat} {x : Ins} (hk : l[k]? = some x) : ∃ g, pv = some ⟨g, 0, none⟩ ∧
    (w.cell? ⟨g, k * 4, none⟩ = some (.string x.id) ∧ w.cell? ⟨g, k * 4 + 1, none⟩ = some (.int .i64 x.st) ∧ w.cell? ⟨g, k * 4 + 2, none⟩ = some (.int .i64 x.since) ∧ w.cell? ⟨g, k * 4 + 3, none⟩ = some (.int .i64 x.uses)) := by
  have hl : 0 < l.length := by have := (List.getElem?_eq_some_iff.1 hk).1; omega
  obtain ⟨g, cap, e, _, _, q⟩ := OwnL.at_ h hl
  injection e with e _ _
  exact ⟨g, e, q k x hk⟩
theorem rest_yes {U : List ByteArray} {j : Nat} {y id : ByteArray} (h : U[j]? = some y) (hq : eqS y id = true) : restB (U.take (j + 1)) id = restB (U.take j) id := by
  unfold restB
  rw [take_snoc' h, List.filter_append]
  simp [hq]
theorem rest_no {U : List ByteArray} {j : Nat} {y id : ByteArray} (h : U[j]? = some y) (hq : eqS y id = false) : restB (U.take (j + 1)) id = restB (U.take j) id ++ [y] := by
  unfold restB
  rw [take_snoc' h, List.filter_append]
  simp [hq]
theorem rest_le (U : List ByteArray) (id : ByteArray) : (restB U id).length ≤ U.length := List.length_filter_le _ _
/-- What the loop keeps. -/
def ReuI (w1 : World) (p m : Nat) (pp : PP) (L : Nat) (v u i : Value) (wr : World) : Prop := ∃ (k : Nat) (s : PS) (T U : List ByteArray), k ≤ L ∧ i = .int .i64 k ∧ One w1 wr p m s (strR v T) (strR u U) ∧ s.ok ∧ s.p = pp ∧ s.bt ≤ k ∧ T.length ≤ k ∧ U.length ≤ k ∧ (∀ t ∈ T, t.size ≤ 64) ∧ Reu s T U
/-- What one call of the script leaves. -/
def MidI (w1 : World) (p m : Nat) (pp : PP) (K : Nat) (v u : Value) (wr : World) : Prop := ∃ (t : PS) (T U : List ByteArray), One w1 wr p m t (strR v T) (strR u U) ∧ t.ok ∧ t.p = pp ∧ t.bt ≤ K ∧ T.length ≤ K ∧ U.length ≤ K ∧ (∀ x ∈ T, x.size ≤ 64) ∧ Reu t T U
set_option maxHeartbeats 40000000 in
set_option maxRecDepth 100000 in
theorem PoolReuses_any (nm : ByteArray) (pa pb pc pd : Int) (A : Option Addr) (c : Nat) (l : List POp) (w : World) (hs : nm.size ≤ 9223372036854775807) (hl : OpsAt w w.heap.size A l) (hn : l.length ≤ 9223372036854775807) (hL : LaidW w) :
    Calls Tryd.prog 5 #[.string nm, .agg #[.int .i64 pa, .int .i64 pb, .int .i64 pc, .int .i64 pd], .slice A l.length c] w fun e w' => e = .returned (.bool true) ∧ Below w.heap.size w w' := by
  obtain ⟨i0, ih, iz0, iz1, iz2⟩ := info_parts info_str
  have HO := Lib.hid hl
  have HL := Lib.hid hL
  have HS := Lib.hid hs
  have HN := Lib.hid hn
  have hw0 := Nat.le_refl w.heap.size
  clear hl hL hs hn
  go_enter Tryd.func5, Tryd.ntmps5
  go_wp2_with fail
  have hbb := Blk.new w 23 #[.int .i64 pa, .int .i64 pb, .int .i64 pc, .int .i64 pd]
  have HBB := Lib.hid (And.intro (hbb.cell 0) (And.intro (hbb.cell 2) (hbb.cell 3)))
  have hgb := hbb.lt
  have HB0 := Lib.hid (show Below w.heap.size w (w.alloc (.cells #[.int .i64 pa, .int .i64 pb, .int .i64 pc, .int .i64 pd] 23)) from (Below.refl _ _).alloc (Nat.le_refl _) _)
  refine (New_any nm pa pb pc pd _ HS.out).mono ?_
  clear hbb
  generalize w.alloc (.cells #[.int .i64 pa, .int .i64 pb, .int .i64 pc, .int .i64 pd] 23) = w1 at *
  change Hid (w1.cell? ⟨w.heap.size, 0, none⟩ = some (.int .i64 pa) ∧ w1.cell? ⟨w.heap.size, 2, none⟩ = some (.int .i64 pc) ∧ w1.cell? ⟨w.heap.size, 3, none⟩ = some (.int .i64 pd)) at HBB
  have HL := Lib.hid (HL.out.below HB0.out)
  rintro e w2 (⟨hne, rfl, hb⟩ | ⟨hne, p, m, rfl, hP, hb⟩)
  · have hne2 := newE_cases nm ⟨pa, pb, pc, pd⟩
    generalize newE nm ⟨pa, pb, pc, pd⟩ = E at *
    have HB2 := Lib.hid hb
    clear hb
    rcases hne2 with rfl | rfl | rfl
    · exact absurd rfl hne
    all_goals
      clear hne
      go_wp2_with fail
      refine (awake_any _ (HL.out.below HB2.out)).mono ?_
      rintro e wz ⟨rfl, hb⟩
      go_wp2_with fail
      go_ret
      exact ⟨rfl, HB0.out.trans ((HB2.out).trans (hb.mono (HB2.out).size) |>.mono HB0.out.size)⟩
  · have HT := Lib.hid (One.first hP (Nat.le_refl _) hb)
    have HOK := Lib.hid (new_ok hne)
    clear hne hP hb
    obtain ⟨s0, hs0⟩ : ∃ s0 : PS, (⟨nm, ⟨pa, pb, pc, pd⟩, 0, 0, []⟩ : PS) = s0 := ⟨_, rfl⟩
    have hbt0 : s0.bt = 0 := by rw [← hs0]
    have hl0 : s0.l = [] := by rw [← hs0]
    have hp0 : s0.p = ⟨pa, pb, pc, pd⟩ := by rw [← hs0]
    rw [hs0] at HT HOK
    clear hs0
    by_cases h300 : l.length ≤ 300
    · have hd : decide ((300 : Int) < l.length) = false := decide_eq_false (by omega)
      go_wp2_with fail
      have HT1 := Lib.hid HT.out.made.turn.made.turn
      have hw3 : w1.heap.size ≤ w2.heap.size := HT.out.below.size
      clear HT
      have hlen : l.length ≤ 9223372036854775807 := HN.out
      skip
      go_loopw [9, 10, 11] (fun v u i wr => ReuI w1 p m ⟨pa, pb, pc, pd⟩ l.length v u i wr) (fun _ _ i _ => l.length - (intOf i).toNat)
      case atStart => exact ⟨0, s0, [], [], Nat.zero_le _, rfl, (by have := HT1.out; simpa using this), HOK.out, hp0, by omega, by simp, by simp, by simp, Reu.first hl0⟩
      case round =>
        obtain ⟨k, s, T, U, hk, rfl, hT, hok, hpp, hbt, hTl, hUl, hTs, hR⟩ := hrel
        obtain ⟨v, rfl⟩ : ∃ v : Value, v = u9 := ⟨_, rfl⟩
        obtain ⟨u, rfl⟩ : ∃ u : Value, u = u10 := ⟨_, rfl⟩
        have HT := Lib.hid hT
        have HK0 := Lib.hid hok
        have HPP := Lib.hid hpp
        have HTS := Lib.hid hTs
        have HR := Lib.hid hR
        clear hT hok hpp hTs hR
        obtain ⟨P, cP, hPv⟩ := own_slice HT.out.str1
        obtain ⟨P0, cP0, hPu⟩ := own_slice HT.out.str2
        subst hPv
        subst hPu
        by_cases hlt : k < l.length
        · obtain ⟨b, o, rfl, hbB, c0, c1, c2, c3⟩ := (HO.out.below (HB0.out.trans (HT.out.below.mono HB0.out.size))) k _ (List.getElem?_eq_getElem hlt)
          have hkI : (k : Int) < l.length := by omega
          have hz : w1.heap.size ≤ wr.heap.size := HT.out.below.size
          have hbb : b < wr.heap.size := by omega
          generalize l[k] = x at *
          obtain ⟨kd, id, n, nw⟩ := x
          simp only at c0 c1 c2 c3
          go_wp2_with fail
          refine (nth_any HT.out.str1 (by omega) n).mono ?_
          rintro e wn ⟨rfl, rfl⟩
          have hid : (nthB T n).size ≤ 9223372036854775807 := nthB_size HTS.out n
          generalize nthB T n = id2 at *
          go_upto_if 68 with fail
          go_cut [9, 10, 14, 15, 16, 17, 18, 19, 20, 21, 22, 23, 24] from 45 to 264 (fun v u _ _ _ _ _ _ _ _ _ _ _ wx => MidI w1 p m ⟨pa, pb, pc, pd⟩ (k + 1) v u wx)
          case first =>
            by_cases k0 : kd = 0
            · subst k0
              as_aux_lemma =>
                obtain ⟨q, hq⟩ : ∃ q, s.l.length - busyN s.l = q := ⟨_, rfl⟩
                go_wp2_with fail
                refine (cntb_one HT.out HK0.out HR.out.cnt hq).mono ?_
                rintro e w3 ⟨rfl, hb, hT⟩
                clear HT
                have HT := Lib.hid hT
                clear hT hb
                go_wp2_with fail
                refine (col_one HT.out HK0.out).mono ?_
                rintro e wq ⟨rfl, rfl⟩
                go_wp2_with fail
                refine (acq_one HT.out HK0.out (by omega) HL.out nw).mono ?_
                rintro e w5 ⟨rfl, hT⟩
                clear HT
                have HT := Lib.hid hT
                obtain ⟨t, a, y, n0, hG⟩ : ∃ t a y n0, acqS s nw = (t, a, y, n0) := ⟨_, _, _, _, rfl⟩
                have hQ : tup3 (acqS s nw) = .tuple #[.string a, .int .i64 y, .int .i64 n0] := by rw [hG]; rfl
                have HE := Lib.hid (acq_err hG)
                have HPP0 := HPP
                rw [hQ]
                have hsz := acq_size HK0.out hG
                have hbt2 : (acqS s nw).1.bt ≤ k + 1 := by have := (acq_ok HK0.out nw).2.bt; omega
                have HK := Lib.hid (acq_ok HK0.out nw).1
                have HPP := Lib.hid ((acq_ok HK0.out nw).2.p.trans HPP.out)
                have HG := Lib.hid hG
                rw [hG] at HT HK HPP hbt2
                simp only at HT HK HPP hbt2
                have hz6 : w1.heap.size ≤ w5.heap.size := HT.out.below.size
                clear hT hG hQ
                rcases beqs n0 0 with ⟨hq0, hs⟩ | ⟨hq0, hs⟩
                · subst hs
                  obtain ⟨hU9, hao, hr9⟩ := acq_reu HK0.out HR.out HG.out
                  have HR := Lib.hid hr9
                  have hrng : 0 ≤ nw ∧ nw ≤ 1073741824 := by
                    have h1 := HE.out.rng
                    rw [inB_dec] at h1
                    have : ¬ (nw < 0 ∨ 1073741824 < nw) := fun h => by have := h1.2 h; omega
                    omega
                  have hboot := HK0.out.boot
                  rw [show s.p = ⟨pa, pb, pc, pd⟩ from HPP0.out] at hboot
                  simp only at hboot
                  have HTS2 := Lib.hid (show ∀ t ∈ T ++ [a], t.size ≤ 64 from fun t ht => by
                    rcases List.mem_append.1 ht with h | h
                    · exact HTS.out t h
                    · rw [List.mem_singleton] at h; subst h; exact hsz)
                  have hTl2 : (T ++ [a]).length ≤ k + 1 := by rw [List.length_append]; simp; omega
                  have hUl2 : (U ++ [a]).length ≤ k + 1 := by rw [List.length_append]; simp; omega
                  have p3 : w5.cell? ⟨w.heap.size, 3, none⟩ = some (.int .i64 pd) := (HT.out.below.cell (p := ⟨w.heap.size, 3, none⟩) hgb).trans HBB.out.2.2
                  have hgw5 : w.heap.size < w5.heap.size := Nat.lt_of_lt_of_le hgb hz6
                  clear hr9
                  rcases hao with hao | hao
                  · obtain ⟨hb9, hT9, hi9, hy9⟩ := hao
                    have g1 : decide ((s.bt : Int) < t.bt) = false := decide_eq_false (by omega)
                    have g1n : decide (s.bt < t.bt) = false := decide_eq_false (by omega)
                    have hq0 : 0 < q := by omega
                    have g2 : ((q : Int) == 0) = false := by have : (q : Int) ≠ 0 := by omega
                                                             simpa using this
                    have g3 : decide ((0 : Int) < q) = true := decide_eq_true (by omega)
                    have g2n : (q == 0) = false := by have : q ≠ 0 := by omega
                                                      simpa using this
                    have g2d : decide (q = 0) = false := decide_eq_false (by omega)
                    have g3n : decide (0 < q) = true := decide_eq_true hq0
                    subst hy9
                    clear hb9 hi9
                    go_wp2_with fail
                    refine (Has_any HT.out.str2 (by omega) a).mono ?_
                    rintro e wq ⟨rfl, rfl⟩
                    rw [hU9]
                    go_wp2_with fail
                    refine (col_one HT.out HK.out).mono ?_
                    rintro e wq ⟨rfl, rfl⟩
                    go_wp2_with fail
                    refine (col_one HT.out HK.out).mono ?_
                    rintro e wq ⟨rfl, rfl⟩
                    go_wp2_with fail
                    refine (Has_any HT.out.str1 (by omega) a).mono ?_
                    rintro e wq ⟨rfl, rfl⟩
                    rw [hT9]
                    go_wp2_with (first | (at_builtin; refine wpList_append_own_at _ rfl (.tmp 128) (.tmp 130) 33 rfl w1.heap.size 9 i0 (.string ⟨#[]⟩) 1 16 Tryd.underlying33 ih iz0 iz1 iz2 rfl (by decide) _ T.length (svals T) rfl (HT.out.str1.alloc _) ⟨w5.heap.size, 0, none⟩ 1 1 ([.string a]) rfl rfl (cells_new_at rfl) (by intro u hu; simp at hu; subst hu; rfl) (by simp only [maxLen]; omega) (by omega) (by simp; omega) ?_; intro v' wn hown1 hgr hiff hblk; clear hiff; have HT2 := Lib.hid (((HT.out.on ((Below.refl _ _).alloc (Nat.le_refl _) _)).tell hown1 hgr hblk).turn); have hzn : w1.heap.size ≤ wn.heap.size := HT2.out.below.size; clear hown1 hgr hblk) | (at_builtin; refine wpList_append_own_at _ rfl (.tmp 132) (.tmp 134) 33 rfl w1.heap.size 9 i0 (.string ⟨#[]⟩) 1 16 Tryd.underlying33 ih iz0 iz1 iz2 rfl (by decide) _ U.length (svals U) rfl (HT2.out.str1.alloc _) ⟨wn.heap.size, 0, none⟩ 1 1 ([.string a]) rfl rfl (cells_new_at rfl) (by intro u hu; simp at hu; subst hu; rfl) (by simp only [maxLen]; omega) (by omega) (by simp; omega) ?_; intro u' wn2 hown1 hgr hiff hblk; clear hiff; have HT3 := Lib.hid (((HT2.out.on ((Below.refl _ _).alloc (Nat.le_refl _) _)).tell hown1 hgr hblk).turn); clear hown1 hgr hblk))
                    clear HT HT2
                    have HT := HT3
                    clear HT3
                    generalize T ++ [a] = T9 at *
                    generalize U ++ [a] = U9 at *
                    go_wp2_with fail
                    go_meet
                    exact ⟨t, T9, U9, HT.out, HK.out, HPP.out, hbt2, hTl2, hUl2, HTS2.out, HR.out⟩
                  · obtain ⟨hb9, hT9, hi9, hy9⟩ := hao
                    have g1 : decide ((s.bt : Int) < t.bt) = true := decide_eq_true (by omega)
                    have g1n : decide (s.bt < t.bt) = true := decide_eq_true (by omega)
                    obtain rfl : q = 0 := by omega
                    have hpd : s.p.boot = pd := by rw [show s.p = ⟨pa, pb, pc, pd⟩ from HPP0.out]
                    rw [hpd] at hy9
                    have hsum : IntKind.i64.wrap (nw + pd) = nw + pd := IntWalk.i64_in _ (by omega)
                    subst hy9
                    clear hb9 hi9
                    go_wp2_with fail
                    refine (Has_any HT.out.str2 (by omega) a).mono ?_
                    rintro e wq ⟨rfl, rfl⟩
                    rw [hU9]
                    go_wp2_with fail
                    refine (col_one HT.out HK.out).mono ?_
                    rintro e wq ⟨rfl, rfl⟩
                    go_wp2_with fail
                    refine (col_one HT.out HK.out).mono ?_
                    rintro e wq ⟨rfl, rfl⟩
                    go_wp2_with fail
                    refine (Has_any HT.out.str1 (by omega) a).mono ?_
                    rintro e wq ⟨rfl, rfl⟩
                    rw [hT9]
                    go_wp2_with (first | (at_builtin; refine wpList_append_own_at _ rfl (.tmp 128) (.tmp 130) 33 rfl w1.heap.size 9 i0 (.string ⟨#[]⟩) 1 16 Tryd.underlying33 ih iz0 iz1 iz2 rfl (by decide) _ T.length (svals T) rfl (HT.out.str1.alloc _) ⟨w5.heap.size, 0, none⟩ 1 1 ([.string a]) rfl rfl (cells_new_at rfl) (by intro u hu; simp at hu; subst hu; rfl) (by simp only [maxLen]; omega) (by omega) (by simp; omega) ?_; intro v' wn hown1 hgr hiff hblk; clear hiff; have HT2 := Lib.hid (((HT.out.on ((Below.refl _ _).alloc (Nat.le_refl _) _)).tell hown1 hgr hblk).turn); have hzn : w1.heap.size ≤ wn.heap.size := HT2.out.below.size; clear hown1 hgr hblk) | (at_builtin; refine wpList_append_own_at _ rfl (.tmp 132) (.tmp 134) 33 rfl w1.heap.size 9 i0 (.string ⟨#[]⟩) 1 16 Tryd.underlying33 ih iz0 iz1 iz2 rfl (by decide) _ U.length (svals U) rfl (HT2.out.str1.alloc _) ⟨wn.heap.size, 0, none⟩ 1 1 ([.string a]) rfl rfl (cells_new_at rfl) (by intro u hu; simp at hu; subst hu; rfl) (by simp only [maxLen]; omega) (by omega) (by simp; omega) ?_; intro u' wn2 hown1 hgr hiff hblk; clear hiff; have HT3 := Lib.hid (((HT2.out.on ((Below.refl _ _).alloc (Nat.le_refl _) _)).tell hown1 hgr hblk).turn); clear hown1 hgr hblk))
                    clear HT HT2
                    have HT := HT3
                    clear HT3
                    generalize T ++ [a] = T9 at *
                    generalize U ++ [a] = U9 at *
                    go_wp2_with fail
                    go_meet
                    exact ⟨t, T9, U9, HT.out, HK.out, HPP.out, hbt2, hTl2, hUl2, HTS2.out, HR.out⟩
                · have hn0 : n0 ≠ 0 := hs
                  clear hs
                  obtain rfl : t = s := HE.out.no hn0
                  go_wp2_with fail
                  go_meet
                  exact ⟨t, T, U, HT.out, HK.out, HPP.out, hbt2, by omega, by omega, HTS.out, HR.out⟩
            · by_cases k3 : kd = 3
              · subst k3
                as_aux_lemma =>
                  go_wp2_with fail
                  refine (exp_one HT.out HK0.out nw).mono ?_
                  rintro e w5 ⟨x9, rfl, hx, hT⟩
                  clear HT
                  have HT := Lib.hid hT
                  obtain ⟨hr1, hr2⟩ := exp_reu HR.out nw
                  have HR := Lib.hid hr1
                  have HN := Lib.hid hr2
                  have hbt2 : (expS s nw).1.bt ≤ k + 1 := by have := (exp_ok HK0.out nw).2.bt; omega
                  have HPP := Lib.hid ((exp_ok HK0.out nw).2.p.trans HPP.out)
                  have hln : (expS s nw).2.length ≤ 1000000 := by
                    have := HK0.out.len32
                    unfold expS expG
                    split
                    · simp only [List.length_map]; have := List.length_filter_le (old s.p nw) s.l; omega
                    · simp
                  have HK := Lib.hid (exp_ok HK0.out nw).1
                  clear hT hr1 hr2
                  generalize expS s nw = G at *
                  obtain ⟨t, xs⟩ := G
                  simp only at HT HR HN hbt2 HPP hln HK hx
                  obtain ⟨p9, c9, rfl⟩ := own_slice hx
                  have HX9 := Lib.hid hx
                  clear hx
                  go_wp2_with fail
                  go_loop [21] (fun i => ∃ j : Nat, j ≤ xs.length ∧ i = .int .i64 j) (fun i => xs.length - (intOf i).toNat)
                  case atStart => exact ⟨0, Nat.zero_le _, rfl⟩
                  case round =>
                    obtain ⟨j, hj, rfl⟩ := hrel
                    by_cases hjl : j < xs.length
                    · obtain ⟨g9, rfl, hg9, r0⟩ := HX9.out.cell_at (List.getElem?_eq_getElem hjl)
                      have hno := HN.out _ (List.getElem_mem hjl)
                      generalize xs[j] = y9 at *
                      have hjI : (j : Int) < xs.length := by omega
                      go_wp2_with fail
                      refine (Has_any HT.out.str2 (by omega) y9).mono ?_
                      rintro e wq ⟨rfl, rfl⟩
                      rw [hno]
                      go_wp2_with fail
                      go_round
                      case rel => exact ⟨j + 1, by omega, by go_num⟩
                      case measure => simp [intOf]; omega
                    · obtain rfl : j = xs.length := by omega
                      go_wp2_with fail
                      go_meet
                      exact ⟨t, T, U, HT.out, HK.out, HPP.out, hbt2, by omega, by omega, HTS.out, HR.out⟩
              · by_cases k1 : kd = 1
                · subst k1
                  as_aux_lemma =>
                    go_wp2_with fail
                    refine (rel_one HT.out HK0.out id2 hid nw).mono ?_
                    rintro e w5 ⟨rfl, hT⟩
                    clear HT
                    have HT := Lib.hid hT
                    have hbt2 : (relS s id2 nw).1.bt ≤ k + 1 := by have := (rel_ok HK0.out id2 nw).2.bt; omega
                    have HK := Lib.hid (rel_ok HK0.out id2 nw).1
                    have HPP := Lib.hid ((rel_ok HK0.out id2 nw).2.p.trans HPP.out)
                    obtain ⟨t, n0, hG⟩ : ∃ t n0, relS s id2 nw = (t, n0) := ⟨_, _, rfl⟩
                    have HE := Lib.hid (rel_err hG)
                    have HG := Lib.hid hG
                    rw [hG] at HT HK HPP hbt2
                    rw [hG]
                    simp only at HT HK HPP hbt2
                    clear hT hG
                    rcases beqs n0 0 with ⟨hq, hs⟩ | ⟨hq, hs⟩
                    · subst hs
                      have HR0 := HR
                      have HR := Lib.hid (rel_reu HK0.out HR0.out HG.out)
                      clear HR0
                      have hz5 : w1.heap.size ≤ w5.heap.size := HT.out.below.size
                      go_wp2_with fail
                      go_loopw [23, 24] (fun r i wr => ∃ j : Nat, j ≤ U.length ∧ i = .int .i64 j ∧ OwnS wr w5.heap.size r (restB (U.take j) id2) ∧ Below w5.heap.size w5 wr) (fun _ i _ => U.length - (intOf i).toNat)
                      case atStart => exact ⟨0, Nat.zero_le _, rfl, OwnS.empty rfl (Nat.le_refl _), (Below.refl _ _).alloc (Nat.le_refl _) _⟩
                      case round =>
                        obtain ⟨j, hj, rfl, hv, hb⟩ := hrel
                        obtain ⟨r9, rfl⟩ : ∃ r : Value, r = u23 := ⟨_, rfl⟩
                        have HV := Lib.hid hv
                        have HB := Lib.hid hb
                        have hzr : w5.heap.size ≤ wr.heap.size := hb.size
                        have hrl := rest_le (U.take j) id2
                        rw [len_take hj] at hrl
                        clear hv hb
                        by_cases hjl : j < U.length
                        · obtain ⟨g9, rfl, hg9, r0⟩ := (HT.out.str2.on HB.out).cell_at (List.getElem?_eq_getElem hjl)
                          have HY := Lib.hid (rest_yes (id := id2) (List.getElem?_eq_getElem hjl))
                          have HN := Lib.hid (rest_no (id := id2) (List.getElem?_eq_getElem hjl))
                          generalize U[j] = y9 at *
                          have hjI : (j : Int) < U.length := by omega
                          have ht := toL_eq y9 id2
                          cases hq : eqS y9 id2
                          · have HQ := Lib.hid (HN.out hq)
                            rw [hq] at ht
                            clear hq HY HN
                            go_wp2_with (at_builtin; refine wpList_append_own_at _ rfl (.tmp 186) (.tmp 191) 33 rfl w5.heap.size 9 i0 (.string ⟨#[]⟩) 1 16 Tryd.underlying33 ih iz0 iz1 iz2 rfl (by decide) _ (restB (U.take j) id2).length (svals (restB (U.take j) id2)) rfl (HV.out.alloc _) ⟨wr.heap.size, 0, none⟩ 1 1 ([.string y9]) rfl rfl (cells_new_at rfl) (by intro u hu; simp at hu; subst hu; rfl) (by simp only [maxLen]; omega) (by omega) (by simp; omega) ?_; intro r' wn hown1 hgr hiff hblk; clear hiff; have HG9 := Lib.hid (And.intro hown1 hgr); clear hown1 hgr hblk)
                            have HF := Lib.hid (show OwnS wn w5.heap.size r' (restB (U.take (j + 1)) id2) by rw [HQ.out]; exact OwnS.push HG9.out.1)
                            have hlow : Below w5.heap.size w5 wn := ((HB.out).alloc (by omega) _).grown HG9.out.2 (by simp; omega) (fun q hq => (own_lt HV.out hq).1)
                            have HLO := Lib.hid hlow
                            clear hlow HG9
                            go_wp2_with fail
                            go_roundw
                            case rel => exact ⟨j + 1, by omega, by go_num, HF.out, HLO.out⟩
                            case measure => simp [intOf]; omega
                          · have HQ := Lib.hid (HY.out hq)
                            rw [hq] at ht
                            clear hq HY HN
                            go_wp2_with fail
                            go_roundw
                            case rel => exact ⟨j + 1, by omega, by go_num, by rw [HQ.out]; exact HV.out, HB.out⟩
                            case measure => simp [intOf]; omega
                        · obtain rfl : j = U.length := by omega
                          have HT9 : Hid (One w1 wr p m t (strR (.slice P T.length cP) T) (strR r9 (restB U id2))) := Lib.hid (HT.out.fresh (N := strR r9 (restB U id2)) HB.out (by have := HV.out; rw [List.take_length] at this; exact this))
                          have HT := HT9
                          have hrl2 := rest_le U id2
                          clear HT9 HV HB
                          go_wp2_with fail
                          go_meet
                          exact ⟨t, T, (restB U id2), HT.out, HK.out, HPP.out, hbt2, by omega, by omega, HTS.out, HR.out⟩
                    · have hn0 : n0 ≠ 0 := hs
                      clear hs
                      obtain rfl : t = s := HE.out.no hn0
                      go_wp2_with fail
                      go_meet
                      exact ⟨t, T, U, HT.out, HK.out, HPP.out, hbt2, by omega, by omega, HTS.out, HR.out⟩
                · have d0 : (kd == 0) = false := by simpa using k0
                  have d3 : (kd == 3) = false := by simpa using k3
                  have d1 : (kd == 1) = false := by simpa using k1
                  clear k0 k1 k3
                  as_aux_lemma =>
                    go_wp2_with fail
                    refine (cra_one HT.out HK0.out id2 hid nw).mono ?_
                    rintro e w5 ⟨rfl, hT⟩
                    clear HT
                    have HT := Lib.hid hT
                    have hbt2 : (craS s id2 nw).1.bt ≤ k + 1 := by have := (cra_ok HK0.out id2 nw).2.bt; omega
                    have HK := Lib.hid (cra_ok HK0.out id2 nw).1
                    have HPP := Lib.hid ((cra_ok HK0.out id2 nw).2.p.trans HPP.out)
                    obtain ⟨t, n0, hG⟩ : ∃ t n0, craS s id2 nw = (t, n0) := ⟨_, _, rfl⟩
                    have HE := Lib.hid (cra_err hG)
                    have HG := Lib.hid hG
                    rw [hG] at HT HK HPP hbt2
                    rw [hG]
                    simp only at HT HK HPP hbt2
                    clear hT hG
                    rcases beqs n0 0 with ⟨hq, hs⟩ | ⟨hq, hs⟩
                    · subst hs
                      have HR0 := HR
                      have HR := Lib.hid (cra_reu HK0.out HR0.out HG.out)
                      clear HR0
                      have hz5 : w1.heap.size ≤ w5.heap.size := HT.out.below.size
                      go_wp2_with fail
                      go_loopw [23, 24] (fun r i wr => ∃ j : Nat, j ≤ U.length ∧ i = .int .i64 j ∧ OwnS wr w5.heap.size r (restB (U.take j) id2) ∧ Below w5.heap.size w5 wr) (fun _ i _ => U.length - (intOf i).toNat)
                      case atStart => exact ⟨0, Nat.zero_le _, rfl, OwnS.empty rfl (Nat.le_refl _), (Below.refl _ _).alloc (Nat.le_refl _) _⟩
                      case round =>
                        obtain ⟨j, hj, rfl, hv, hb⟩ := hrel
                        obtain ⟨r9, rfl⟩ : ∃ r : Value, r = u23 := ⟨_, rfl⟩
                        have HV := Lib.hid hv
                        have HB := Lib.hid hb
                        have hzr : w5.heap.size ≤ wr.heap.size := hb.size
                        have hrl := rest_le (U.take j) id2
                        rw [len_take hj] at hrl
                        clear hv hb
                        by_cases hjl : j < U.length
                        · obtain ⟨g9, rfl, hg9, r0⟩ := (HT.out.str2.on HB.out).cell_at (List.getElem?_eq_getElem hjl)
                          have HY := Lib.hid (rest_yes (id := id2) (List.getElem?_eq_getElem hjl))
                          have HN := Lib.hid (rest_no (id := id2) (List.getElem?_eq_getElem hjl))
                          generalize U[j] = y9 at *
                          have hjI : (j : Int) < U.length := by omega
                          have ht := toL_eq y9 id2
                          cases hq : eqS y9 id2
                          · have HQ := Lib.hid (HN.out hq)
                            rw [hq] at ht
                            clear hq HY HN
                            go_wp2_with (at_builtin; refine wpList_append_own_at _ rfl (.tmp 186) (.tmp 191) 33 rfl w5.heap.size 9 i0 (.string ⟨#[]⟩) 1 16 Tryd.underlying33 ih iz0 iz1 iz2 rfl (by decide) _ (restB (U.take j) id2).length (svals (restB (U.take j) id2)) rfl (HV.out.alloc _) ⟨wr.heap.size, 0, none⟩ 1 1 ([.string y9]) rfl rfl (cells_new_at rfl) (by intro u hu; simp at hu; subst hu; rfl) (by simp only [maxLen]; omega) (by omega) (by simp; omega) ?_; intro r' wn hown1 hgr hiff hblk; clear hiff; have HG9 := Lib.hid (And.intro hown1 hgr); clear hown1 hgr hblk)
                            have HF := Lib.hid (show OwnS wn w5.heap.size r' (restB (U.take (j + 1)) id2) by rw [HQ.out]; exact OwnS.push HG9.out.1)
                            have hlow : Below w5.heap.size w5 wn := ((HB.out).alloc (by omega) _).grown HG9.out.2 (by simp; omega) (fun q hq => (own_lt HV.out hq).1)
                            have HLO := Lib.hid hlow
                            clear hlow HG9
                            go_wp2_with fail
                            go_roundw
                            case rel => exact ⟨j + 1, by omega, by go_num, HF.out, HLO.out⟩
                            case measure => simp [intOf]; omega
                          · have HQ := Lib.hid (HY.out hq)
                            rw [hq] at ht
                            clear hq HY HN
                            go_wp2_with fail
                            go_roundw
                            case rel => exact ⟨j + 1, by omega, by go_num, by rw [HQ.out]; exact HV.out, HB.out⟩
                            case measure => simp [intOf]; omega
                        · obtain rfl : j = U.length := by omega
                          have HT9 : Hid (One w1 wr p m t (strR (.slice P T.length cP) T) (strR r9 (restB U id2))) := Lib.hid (HT.out.fresh (N := strR r9 (restB U id2)) HB.out (by have := HV.out; rw [List.take_length] at this; exact this))
                          have HT := HT9
                          have hrl2 := rest_le U id2
                          clear HT9 HV HB
                          go_wp2_with fail
                          go_meet
                          exact ⟨t, T, (restB U id2), HT.out, HK.out, HPP.out, hbt2, by omega, by omega, HTS.out, HR.out⟩
                    · have hn0 : n0 ≠ 0 := hs
                      clear hs
                      obtain rfl : t = s := HE.out.no hn0
                      go_wp2_with fail
                      go_meet
                      exact ⟨t, T, U, HT.out, HK.out, HPP.out, hbt2, by omega, by omega, HTS.out, HR.out⟩
          case rest =>
            clear HT HK0 HPP HTS HR
            obtain ⟨t, T, U, hT, hok, hpp, hbt2, hTl2, hUl2, hTs, hR⟩ := hcut
            have HT := Lib.hid hT
            have HK := Lib.hid hok
            have HPP := Lib.hid hpp
            have HTS := Lib.hid hTs
            have HR := Lib.hid hR
            clear hT hok hpp hTs hR
            as_aux_lemma =>
              have hpt : t.p = ⟨pa, pb, pc, pd⟩ := HPP.out
              obtain ⟨P1, C1, hv1⟩ := own_slice HT.out.str1
              obtain ⟨P2, C2, hv2⟩ := own_slice HT.out.str2
              try subst hv1
              try subst hv2
              have HTS9 := Lib.hid (HTS.out)
              have htl9 : (T).length ≤ k + 1 := hTl2
              have hul9 : (U).length ≤ k + 1 := hUl2
              go_wp2_with fail
              refine (lst_one HT.out HK.out).mono ?_
              rintro e wl ⟨x1, rfl, hx1, -, hT⟩
              obtain ⟨p1, c1, rfl⟩ := own_slice hx1
              clear HT
              have HT := Lib.hid hT
              have HX := Lib.hid hx1
              clear hT hx1
              go_wp2_with fail
              obtain ⟨q, hq⟩ : ∃ q, t.l.length - busyN t.l = q := ⟨_, rfl⟩
              refine (cntb_one HT.out HK.out HR.out.cnt hq).mono ?_
              rintro e wk ⟨rfl, hb, hT⟩
              clear HT
              have HT := Lib.hid hT
              have HX := Lib.hid (HX.out.on hb)
              have hble := busy_le t.l
              rw [HR.out.cnt] at hble hq
              have h32 := HK.out.len32
              have hmx := HK.out.len
              rw [hpt] at hmx
              simp only at hmx
              have hsum : IntKind.i64.wrap (((U).length : Int) + q) = t.l.length := by
                rw [show ((U).length : Int) + q = t.l.length by omega]
                exact IntWalk.i64_in _ (by omega)
              have d1 : decide (pa < (t.l.length : Int)) = false := decide_eq_false (by omega)
              have p0 : wk.cell? ⟨w.heap.size, 0, none⟩ = some (.int .i64 pa) := (HT.out.below.cell (p := ⟨w.heap.size, 0, none⟩) hgb).trans HBB.out.1
              have p2 : wk.cell? ⟨w.heap.size, 2, none⟩ = some (.int .i64 pc) := (HT.out.below.cell (p := ⟨w.heap.size, 2, none⟩) hgb).trans HBB.out.2.1
              have hgk : w.heap.size < wk.heap.size := Nat.lt_of_lt_of_le hgb HT.out.below.size
              clear hT hb hq hble hpt
              go_wp2_with fail
              go_loopw [28] (fun i wr => ∃ j : Nat, j ≤ t.l.length ∧ i = .int .i64 j ∧ Below wk.heap.size wk wr) (fun i _ => t.l.length - (intOf i).toNat)
              case atStart => exact ⟨0, Nat.zero_le _, rfl, Below.refl _ _⟩
              case round =>
                obtain ⟨j, hj, rfl, hbw⟩ := hrel
                have HBW := Lib.hid hbw
                have p0 := (hbw.cell (p := ⟨w.heap.size, 0, none⟩) hgk).trans p0
                have p2 := (hbw.cell (p := ⟨w.heap.size, 2, none⟩) hgk).trans p2
                have hgr : w.heap.size < wr.heap.size := Nat.lt_of_lt_of_le hgk hbw.size
                clear hbw
                by_cases hjl : j < t.l.length
                · obtain ⟨g9, rfl, r0, r1, r2, r3⟩ := (HX.out.on HBW.out).cells_at (List.getElem?_eq_getElem hjl)
                  have hym := List.getElem_mem hjl
                  have hy1 := HR.out.uses _ hym
                  have hy2 := HR.out.busy _ hym
                  have hy3 := (HK.out.els _ hym).u1
                  have hy4 := (HK.out.els _ hym).st
                  rw [show t.p = ⟨pa, pb, pc, pd⟩ from HPP.out] at hy3
                  simp only at hy3
                  generalize t.l[j] = y9 at *
                  have hjI : (j : Int) < t.l.length := by omega
                  have d2 : decide (pc < y9.uses) = false := decide_eq_false (by omega)
                  have HU := Lib.hid (fun n => uses_at (HT.out.str1.on HBW.out) (by omega) y9.id hy1 n)
                  rcases hy4 with h4 | h4
                  · rw [h4] at r1 hy2
                    have HH := Lib.hid (fun n => Has_at (HT.out.str2.on HBW.out) (by omega) y9.id (hy2.trans (rfl : ((2 : Int) == 3) = false)) n)
                    clear hy1 hy2 hy3 h4 hym
                    go_wp2_with fail
                    go_quiet ((first | (go_at_call 28; exact HU.out _) | (go_at_call 27; exact HH.out _)))
                    go_wp2_with fail
                    go_roundw
                    case rel => exact ⟨j + 1, by omega, by go_num, HBW.out.trans ((below_drewN' _ _ _).mono HBW.out.size)⟩
                    case measure => simp [intOf]; omega
                  · rw [h4] at r1 hy2
                    have HH := Lib.hid (fun n => Has_at (HT.out.str2.on HBW.out) (by omega) y9.id (hy2.trans (rfl : ((3 : Int) == 3) = true)) n)
                    clear hy1 hy2 hy3 h4 hym
                    go_wp2_with fail
                    go_quiet ((first | (go_at_call 28; exact HU.out _) | (go_at_call 27; exact HH.out _)))
                    go_wp2_with fail
                    go_roundw
                    case rel => exact ⟨j + 1, by omega, by go_num, HBW.out.trans ((below_drewN' _ _ _).mono HBW.out.size)⟩
                    case measure => simp [intOf]; omega
                · obtain rfl : j = t.l.length := by omega
                  go_wp2_with fail
                  go_roundw
                  case rel => exact ⟨k + 1, t, T, U, by omega, by go_num, HT.out.on HBW.out, HK.out, HPP.out, hbt2, htl9, hul9, HTS9.out, HR.out⟩
                  case measure => simp [intOf]; omega
        · go_wp2_with fail
          refine (awake_any _ (HL.out.below HT.out.below)).mono ?_
          rintro e wz ⟨rfl, hb⟩
          go_wp2_with fail
          go_ret
          exact ⟨rfl, HB0.out.trans ((HT.out.below).trans (hb.mono (HT.out.below).size) |>.mono HB0.out.size)⟩
    · have hd : decide ((300 : Int) < l.length) = true := decide_eq_true (by omega)
      go_wp2_with fail
      refine (awake_any _ (HL.out.below HT.out.below)).mono ?_
      rintro e wz ⟨rfl, hb⟩
      go_wp2_with fail
      go_ret
      exact ⟨rfl, HB0.out.trans ((HT.out.below).trans (hb.mono (HT.out.below).size) |>.mono HB0.out.size)⟩
end Go.Proofs.YtmpaogmfceldjaaDoor
