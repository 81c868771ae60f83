/- The walk of the law PolicyDenyWins. -/
import Derived.Test.YtcmlgiilifdnfaaDoorQF
namespace Go.Proofs.YtcmlgiilifdnfaaDoor
open Go.RowKit
open Go.Sort (grow)

theorem per_step {l : List St} {k : Nat} {t : St} (ht : l[k]? = some t) (a r : ByteArray) : perB (l.take (k + 1)) a r = (perB (l.take k) a r || (t.mt a r && t.al)) := anyT_take ht _
theorem for_step {l : List St} {k : Nat} {t : St} (ht : l[k]? = some t) (a r : ByteArray) : forB (l.take (k + 1)) a r = (forB (l.take k) a r || (t.mt a r && !t.al)) := anyT_take ht _
theorem Decide1_any (t : St) (a r : ByteArray) (x : Bool) (i : Int) (hd : decS [t] a r = (x, i)) (A : Option Addr) (c : Nat) (w : World) (hl : StsAt w w.heap.size A [t]) (hz : SzL [t]) (ha : a.size ≤ 9223372036854775807) (hr : r.size ≤ 9223372036854775807) :
    Calls Tryd.prog 11 #[.slice A 1 c, .string a, .string r] w fun e w' => e = .returned (.agg #[.bool x, .int .i64 i]) ∧ Below w.heap.size w w' := by
  refine (Decide_any A c [t] a r _ hl hz ha hr).mono ?_
  rintro e w' ⟨rfl, hb⟩
  rw [hd]
  exact ⟨rfl, hb⟩
theorem held3_b {w0 w1 : World} {p0 p1 p2 : Addr} {a b c : Value} (h : (w1.cell? p0 = some a ∧ w1.cell? p1 = some b ∧ w1.cell? p2 = some c) ∧ Below w0.heap.size w0 w1) : Below w0.heap.size w0 w1 := h.2
theorem reads_on {w w' : World} {sz n : Nat} {A : Option Addr} {xs : List Value} (h : Reads w w.heap.size sz A n xs) (hb : Below w.heap.size w w') : Reads w' w'.heap.size sz A n xs := (h.below hb).more hb.size
theorem szl_more {l : List St} {s : St} (h : SzL l) (hl : l.length ≤ 20) (hs : SzSt s) (K : Nat) : SzL (l.take K ++ [s] ++ l.drop K) := ⟨by
  simp only [List.length_append, List.length_take, List.length_drop, List.length_cons, List.length_nil]; omega, fun x hx => by
  simp only [List.mem_append, List.mem_singleton] at hx
  rcases hx with (hx | rfl) | hx
  · exact h.2 x (List.mem_of_mem_take hx)
  · exact hs
  · exact h.2 x (List.mem_of_mem_drop hx)⟩
theorem Decide_n (A : Option Addr) (n c : Nat) (l : List St) (hn : n = l.length) (a r : ByteArray) (w : World) (hl : StsAt w w.heap.size A l) (hz : SzL l) (ha : a.size ≤ 9223372036854775807) (hr : r.size ≤ 9223372036854775807) :
    Calls Tryd.prog 11 #[.slice A n c, .string a, .string r] w fun e w' => e = .returned (aggD (decS l a r)) ∧ Below w.heap.size w w' := by
  subst hn
  exact Decide_any A c l a r w hl hz ha hr
set_option maxHeartbeats 8000000 in
set_option maxRecDepth 100000 in
theorem PolicyDenyWins_any (A : Option Addr) (c : Nat) (l : List St) (s : St) (A1 : Option Addr) (c1 : Nat) (B1 : Option Addr) (k1 : Nat) (v : Nat) (a r : ByteArray) (m : Int) (w : World) (hl : StsAt w w.heap.size A l) (hc : l.length ≤ c) (hn : l.length ≤ 9223372036854775807) (hs : ∀ s ∈ l, SzW s)
    (a1 : StrL w w.heap.size A1 s.ac) (b1 : StrL w w.heap.size B1 s.re) (z1 : SzW s) (hv : v < 256) (ha : a.size ≤ 9223372036854775807) (hr : r.size ≤ 9223372036854775807) (hm : w.cell? ⟨0, 0, none⟩ = some (.int .i64 m)) :
    Calls Tryd.prog 6 #[.slice A l.length c, .agg #[.bool s.al, .slice A1 s.ac.length c1, .slice B1 s.re.length k1], .int .u8 v, .string a, .string r] w fun e w' => e = .returned (.bool true) ∧ Below w.heap.size w w' := by
  have HL := Lib.hid hl
  have HS := Lib.hid hs
  have HA1 := Lib.hid a1
  have HB1' := Lib.hid b1
  have HV := Lib.hid (show StV w w.heap.size (.agg #[.bool s.al, .slice A1 s.ac.length c1, .slice B1 s.re.length k1]) s from ⟨A1, c1, B1, k1, rfl, a1, b1⟩)
  have HW := Lib.hid z1
  have HM := Lib.hid hm
  have HA := Lib.hid ha
  have HR := Lib.hid hr
  have hw0 := block_lt_of_cell hm
  clear hl hs hm a1 b1 z1 ha hr
  go_enter Tryd.func6, Tryd.ntmps6
  go_wp2_with fail
  have bs : Blk ((w).alloc (.cells #[.bool s.al, .slice A1 s.ac.length c1, .slice B1 s.re.length k1] 31)) (w.heap.size) 31 #[.bool s.al, .slice A1 s.ac.length c1, .slice B1 s.re.length k1] := Blk.new _ _ _
  have HB11 := Lib.hid (show Below w.heap.size w ((w).alloc (.cells #[.bool s.al, .slice A1 s.ac.length c1, .slice B1 s.re.length k1] 31)) from (Below.refl w.heap.size w).alloc (by first | exact Nat.le_refl _ | omega | (simp; done) | (simp; omega)) _)
  generalize (w).alloc (.cells #[.bool s.al, .slice A1 s.ac.length c1, .slice B1 s.re.length k1] 31) = w11 at *
  have hz11 : w.heap.size ≤ w11.heap.size := HB11.out.size
  go_wp2_with fail
  refine (small_any A c l w11 (HL.out.on HB11.out) hn HS.out).mono ?_
  rintro e wq ⟨rfl, rfl⟩
  cases hsm : smB l
  · clear hsm
    go_wp2_with fail
    refine (awake_any m _ (((HB11.out).cell (p := ⟨0, 0, none⟩) hw0).trans HM.out)).mono ?_
    rintro e w12 ⟨rfl, hb⟩
    have bs : Blk w12 (w.heap.size) 31 #[.bool s.al, .slice A1 s.ac.length c1, .slice B1 s.re.length k1] := (bs).on hb
    have hbz := hb.size
    have HB12 := Lib.hid ((HB11.out).trans (hb.mono (by first | exact Nat.le_refl _ | omega | (simp; done) | (simp; omega))))
    have hz12 : w.heap.size ≤ w12.heap.size := HB12.out.size
    clear hb hbz
    go_wp2_with fail
    go_ret
    exact ⟨rfl, HB12.out⟩
  · have HZ := Lib.hid (smB_SzL hsm)
    have HN := Lib.hid (show l.length ≤ 20 from (smB_st hsm).1)
    clear hsm
    have q_bs0 : w11.cell? ⟨w.heap.size, 0, none⟩ = some (.bool s.al) := bs.cell 0
    have q_bs1 : w11.cell? ⟨w.heap.size, 1, none⟩ = some (.slice A1 s.ac.length c1) := bs.cell 1
    have q_bs2 : w11.cell? ⟨w.heap.size, 2, none⟩ = some (.slice B1 s.re.length k1) := bs.cell 2
    go_wp2_with fail
    clear q_bs0 q_bs1 q_bs2
    have bs : Blk ((w11).alloc (.cells #[.bool s.al, .slice A1 s.ac.length c1, .slice B1 s.re.length k1] 31)) (w.heap.size) 31 #[.bool s.al, .slice A1 s.ac.length c1, .slice B1 s.re.length k1] := (bs).alloc _
    have bl : Blk ((w11).alloc (.cells #[.bool s.al, .slice A1 s.ac.length c1, .slice B1 s.re.length k1] 31)) (w11.heap.size) 31 #[.bool s.al, .slice A1 s.ac.length c1, .slice B1 s.re.length k1] := Blk.new _ _ _
    have HB12 := Lib.hid (show Below w.heap.size w ((w11).alloc (.cells #[.bool s.al, .slice A1 s.ac.length c1, .slice B1 s.re.length k1] 31)) from (HB11.out).alloc (by first | exact Nat.le_refl _ | omega | (simp; done) | (simp; omega)) _)
    generalize (w11).alloc (.cells #[.bool s.al, .slice A1 s.ac.length c1, .slice B1 s.re.length k1] 31) = w12 at *
    have hz12 : w.heap.size ≤ w12.heap.size := HB12.out.size
    go_wp2_with fail
    refine (small_any (some ⟨w11.heap.size, 0, none⟩) 1 [s] w12 (blk_sts1 bl (HA1.out.on HB12.out) (HB1'.out.on HB12.out)) (by simp) (fun x hx => by rw [List.mem_singleton.1 hx]; exact HW.out)).mono ?_
    rintro e wq ⟨rfl, rfl⟩
    cases hsm : smB [s]
    · clear hsm
      go_wp2_with fail
      refine (awake_any m _ (((HB12.out).cell (p := ⟨0, 0, none⟩) hw0).trans HM.out)).mono ?_
      rintro e w13 ⟨rfl, hb⟩
      have bs : Blk w13 (w.heap.size) 31 #[.bool s.al, .slice A1 s.ac.length c1, .slice B1 s.re.length k1] := (bs).on hb
      have bl : Blk w13 (w11.heap.size) 31 #[.bool s.al, .slice A1 s.ac.length c1, .slice B1 s.re.length k1] := (bl).on hb
      have hbz := hb.size
      have HB13 := Lib.hid ((HB12.out).trans (hb.mono (by first | exact Nat.le_refl _ | omega | (simp; done) | (simp; omega))))
      have hz13 : w.heap.size ≤ w13.heap.size := HB13.out.size
      clear hb hbz
      go_wp2_with fail
      go_ret
      exact ⟨rfl, HB13.out⟩
    · have HZ1 := Lib.hid (small_one hsm)
      clear hsm
      by_cases h1 : a.size ≤ 100
      · have d1 : decide ((100 : Int) < a.size) = false := decide_eq_false (by have := HA.out; omega)
        by_cases h2 : r.size ≤ 100
        · have d2 : decide ((100 : Int) < r.size) = false := decide_eq_false (by have := HR.out; omega)
          clear h1 h2
          go_wp2_with fail
          have HBO := Lib.hid HB12.out
          go_loopw [11, 12, 39] (fun p f i wr => ∃ k : Nat, k ≤ l.length ∧ i = .int .i64 k ∧ p = .bool (perB (l.take k) a r) ∧ f = .bool (forB (l.take k) a r) ∧ Below w12.heap.size w12 wr) (fun _ _ i _ => l.length - (intOf i).toNat)
          case atStart => exact ⟨0, Nat.zero_le _, rfl, rfl, rfl, Below.refl _ _⟩
          case round =>
            obtain ⟨k, hk, rfl, rfl, rfl, hbr⟩ := hrel
            have HB := Lib.hid (HBO.out.trans (hbr.mono HBO.out.size))
            have HBI := Lib.hid hbr
            have hzr : w.heap.size ≤ wr.heap.size := HB.out.size
            have bs := bs.on hbr
            clear hbr bl
            obtain ⟨p, hp⟩ : ∃ q, perB (l.take k) a r = q := ⟨_, rfl⟩
            obtain ⟨f, hf⟩ : ∃ q, forB (l.take k) a r = q := ⟨_, rfl⟩
            rw [hp, hf]
            have HP := Lib.hid hp
            have HF := Lib.hid hf
            clear hp hf
            by_cases hlt : k < l.length
            · obtain ⟨t, ht⟩ : ∃ t, l[k]? = some t := ⟨_, List.getElem?_eq_getElem hlt⟩
              have HLW := Lib.hid (HL.out.on HB.out)
              obtain ⟨b, o, P, cp, P2, cp2, rfl, hbl, c0, c1', c2, hp1, hp2⟩ := HLW.out k t ht
              have HT1 := Lib.hid (hp1.on (size_new wr (.cells #[.bool t.al, .slice P t.ac.length cp, .slice P2 t.re.length cp2] 31)))
              have HT2 := Lib.hid (hp2.on (size_new wr (.cells #[.bool t.al, .slice P t.ac.length cp, .slice P2 t.re.length cp2] 31)))
              clear hp1 hp2
              have HT := Lib.hid ht
              have HZT := Lib.hid (szl_one HZ.out ht)
              have hki : (k : Int) < l.length := by omega
              have hk0 : (0 : Int) ≤ k := by omega
              clear ht
              cases hmt : t.mt a r
              · skip
                have hd : decS [t] a r = (false, -1) := by rw [decS_one, hmt]; rfl
                have HD := Lib.hid hd
                have HMT := Lib.hid hmt
                clear hd hmt
                go_wp2_with fail
                refine (Decide1_any t a r _ _ HD.out (some ⟨wr.heap.size, 0, none⟩) 1 _ (blk_sts1 (Blk.new _ _ _) HT1.out HT2.out) HZT.out HA.out HR.out).mono ?_
                rintro e w21 ⟨rfl, hb⟩
                have bs : Blk w21 (w.heap.size) 31 #[.bool s.al, .slice A1 s.ac.length c1, .slice B1 s.re.length k1] := ((bs).alloc _).on hb
                have bt : Blk w21 (wr.heap.size) 31 #[.bool t.al, .slice P t.ac.length cp, .slice P2 t.re.length cp2] := (Blk.new _ _ _).on hb
                have hbz := hb.size
                have HB21 := Lib.hid (((Below.refl wr.heap.size wr).alloc (by first | exact Nat.le_refl _ | omega | (simp; done) | (simp; omega)) _).trans (hb.mono (by first | exact Nat.le_refl _ | omega | (simp; done) | (simp; omega))))
                have hz21 : wr.heap.size ≤ w21.heap.size := HB21.out.size
                clear hb hbz
                all_goals go_wp2_with fail
                all_goals go_roundw
                any_goals (case rel => exact ⟨k + 1, by omega, by go_num, by rw [per_step HT.out, HP.out, HMT.out]; simp, by rw [for_step HT.out, HF.out, HMT.out]; simp, HBI.out.trans (((HB21.out).alloc (by first | exact Nat.le_refl _ | omega | (simp; done) | (simp; omega)) _).mono HBI.out.size)⟩)
                any_goals (case measure => simp [intOf]; omega)
              · skip
                have hd : decS [t] a r = (t.al, 0) := by rw [decS_one, hmt]; rfl
                have HD := Lib.hid hd
                have HMT := Lib.hid hmt
                clear hd hmt
                go_wp2_with fail
                refine (Decide1_any t a r _ _ HD.out (some ⟨wr.heap.size, 0, none⟩) 1 _ (blk_sts1 (Blk.new _ _ _) HT1.out HT2.out) HZT.out HA.out HR.out).mono ?_
                rintro e w21 ⟨rfl, hb⟩
                have bs : Blk w21 (w.heap.size) 31 #[.bool s.al, .slice A1 s.ac.length c1, .slice B1 s.re.length k1] := ((bs).alloc _).on hb
                have bt : Blk w21 (wr.heap.size) 31 #[.bool t.al, .slice P t.ac.length cp, .slice P2 t.re.length cp2] := (Blk.new _ _ _).on hb
                have hbz := hb.size
                have HB21 := Lib.hid (((Below.refl wr.heap.size wr).alloc (by first | exact Nat.le_refl _ | omega | (simp; done) | (simp; omega)) _).trans (hb.mono (by first | exact Nat.le_refl _ | omega | (simp; done) | (simp; omega))))
                have hz21 : wr.heap.size ≤ w21.heap.size := HB21.out.size
                clear hb hbz
                have e0 : ((w21).alloc (.cells #[.bool t.al, .int .i64 0] 26)).cell? ⟨b, o + k * 3, none⟩ = some (.bool t.al) := (((HB21.out).alloc (by first | exact Nat.le_refl _ | omega | (simp; done) | (simp; omega)) _).cell (by exact hbl)).trans c0
                cases p <;> cases f
                all_goals go_wp2_with fail
                all_goals go_roundw
                any_goals (case rel => exact ⟨k + 1, by omega, by go_num, by rw [per_step HT.out, HP.out, HMT.out]; simp, by rw [for_step HT.out, HF.out, HMT.out]; simp, HBI.out.trans (((HB21.out).alloc (by first | exact Nat.le_refl _ | omega | (simp; done) | (simp; omega)) _).mono HBI.out.size)⟩)
                any_goals (case measure => simp [intOf]; omega)
            · have hki : ¬ (k : Int) < l.length := by omega
              obtain rfl : k = l.length := by omega
              have hx : (decS l a r).1 = (p && !f) := by rw [dec_pf, ← HP.out, ← HF.out, List.take_length]
              go_wp2_with fail
              refine (Decide_any A c l a r _ (HL.out.on HB.out) HZ.out HA.out HR.out).mono ?_
              rintro e w13 ⟨rfl, hb⟩
              have bs : Blk w13 (w.heap.size) 31 #[.bool s.al, .slice A1 s.ac.length c1, .slice B1 s.re.length k1] := (bs).on hb
              have hbz := hb.size
              have HB13 := Lib.hid ((HB.out).trans (hb.mono (by first | exact Nat.le_refl _ | omega | (simp; done) | (simp; omega))))
              have hz13 : w.heap.size ≤ w13.heap.size := HB13.out.size
              clear hb hbz
              obtain ⟨⟨x, i1⟩, hq⟩ : ∃ q, decS l a r = q := ⟨_, rfl⟩
              rw [hq] at hx ⊢
              unfold aggD
              dsimp only at hx ⊢
              clear hq HP HF
              obtain ⟨K, hK⟩ : ∃ K, v % (l.length + 1) = K := ⟨_, rfl⟩
              have hKl : K ≤ l.length := by have := Nat.mod_lt v (show 0 < l.length + 1 by omega); omega
              have e14 : Int.tmod (v : Int) ((l.length : Int) + 1) = (K : Int) := by rw [show ((l.length : Int) + 1) = ((l.length + 1 : Nat) : Int) from rfl, ← Int.ofNat_tmod, hK]
              have hKi : (K : Int) ≤ l.length := by omega
              have hK0 : (0 : Int) ≤ K := by omega
              have hKc : (K : Int) ≤ c := by omega
              clear hK
              have hn20 := HN.out
              have hlb := bs.lt
              obtain ⟨al, hal⟩ : ∃ x, s.al = x := ⟨_, rfl⟩
              have q0 : w13.cell? ⟨w.heap.size, 0, none⟩ = some (.bool al) := hal ▸ bs.cell 0
              have q1 : w13.cell? ⟨w.heap.size, 1, none⟩ = some (.slice A1 s.ac.length c1) := bs.cell 1
              have q2 : w13.cell? ⟨w.heap.size, 2, none⟩ = some (.slice B1 s.re.length k1) := bs.cell 2
              have HB3 := Lib.hid HB13.out
              have HV3 := Lib.hid (show StV w13 w13.heap.size (.agg #[.bool al, .slice A1 s.ac.length c1, .slice B1 s.re.length k1]) s by have h := HV.out.on HB13.out; rw [hal] at h; exact h)
              obtain ⟨xs, hxr, hxo⟩ := sts_row (HL.out.on HB13.out)
              have HXR := Lib.hid hxr
              have HXO := Lib.hid hxo
              have HXC := Lib.hid (show Row3 w13 w13.heap.size [.bool al, .slice A1 s.ac.length c1, .slice B1 s.re.length k1] [s] by have h := Row3.one (s := s) (c := c1) (c2 := k1) (HA1.out.on HB13.out) (HB1'.out.on HB13.out); rw [hal] at h; exact h)
              clear hxr hxo
              obtain ⟨i0, ih, iz0, iz1, iz2⟩ := info_parts info_st
              cases p
              all_goals simp only [Bool.true_and, Bool.false_and] at hx
              all_goals subst hx
              all_goals go_wp2_with fail
              all_goals (go_region_held3 (fun w' => (w'.cell? ⟨w.heap.size, 0, none⟩ = some (.bool al) ∧ w'.cell? ⟨w.heap.size, 1, none⟩ = some (.slice A1 s.ac.length c1) ∧ w'.cell? ⟨w.heap.size, 2, none⟩ = some (.slice B1 s.re.length k1)) ∧ Below w13.heap.size w13 w') (first | assumption | exact ⟨⟨q0, q1, q2⟩, (Below.refl _ _).drew⟩ | exact held_step (by assumption) (size_new _ _)) (first | (refine step_append_any _ rfl (.tmp 88) (.tmp 91) 22 rfl w13.heap.size 31 i0 (.agg #[.bool false, .slice none 0 0, .slice none 0 0]) 3 56 Tryd.underlying22 ih iz0 iz1 iz2 rfl (by decide) _ _ _ rfl (own_lit0 w13.drew w13.heap.size (by simp) (Nat.le_refl _)) _ _ _ _ (xs.take (K * 3)) rfl (by first | exact reads_to (Reads.below HXR.out (held3_b (by assumption))) hKl | exact reads_to_if (Reads.below HXR.out (held3_b (by assumption))) hKl) (fun u hu => HXO.out.one_cell u (List.mem_of_mem_take hu)) (by simp only [maxLen]; omega) (by omega) (Nat.le_trans (held3_b (w0 := w13) (by assumption)).size (Nat.le_refl _)) ?_; intro v1 wn1 ho1 hg1 hi1; have H1 := held_grown (by assumption) hg1 (fun e => by have e := Option.some.inj e; dsimp only at e; omega) (fun e => by have e := Option.some.inj e; dsimp only at e; omega) (fun e => by have e := Option.some.inj e; dsimp only at e; omega) (fun q e => by have e := Option.some.inj e; dsimp only at e; omega)) | (refine step_append_any _ rfl (.tmp 88) (.tmp 91) 22 rfl w13.heap.size 31 i0 (.agg #[.bool false, .slice none 0 0, .slice none 0 0]) 3 56 Tryd.underlying22 ih iz0 iz1 iz2 rfl (by decide) _ _ _ rfl (own_below (own_lit0 w13.drew w13.heap.size (by simp) (Nat.le_refl _)) (size_new _ _)) _ _ _ _ (xs.take (K * 3)) rfl (by first | exact reads_to (Reads.below HXR.out (held3_b (by assumption))) hKl | exact reads_to_if (Reads.below HXR.out (held3_b (by assumption))) hKl) (fun u hu => HXO.out.one_cell u (List.mem_of_mem_take hu)) (by simp only [maxLen]; omega) (by omega) (Nat.le_trans (held3_b (w0 := w13) (by assumption)).size (Nat.le_refl _)) ?_; intro v1 wn1 ho1 hg1 hi1; have H1 := held_grown (by assumption) hg1 (fun e => by have e := Option.some.inj e; dsimp only at e; omega) (fun e => by have e := Option.some.inj e; dsimp only at e; omega) (fun e => by have e := Option.some.inj e; dsimp only at e; omega) (fun q e => by have e := Option.some.inj e; dsimp only at e; omega); have hR94 := reads_grown (reads_at (w13.drew.alloc (.cells #[] 31)) (w13.heap.size + 1) (by simp) [.bool al, .slice A1 s.ac.length c1, .slice B1 s.re.length k1] 31 3 1 rfl) hg1 (fun e => by have e := Option.some.inj e; dsimp only at e; omega)) | (refine step_append_any _ rfl (.tmp 88) (.tmp 91) 22 rfl w13.heap.size 31 i0 (.agg #[.bool false, .slice none 0 0, .slice none 0 0]) 3 56 Tryd.underlying22 ih iz0 iz1 iz2 rfl (by decide) _ _ _ rfl (own_lit0 (w13.drew.alloc (.cells ([.bool al, .slice A1 s.ac.length c1, .slice B1 s.re.length k1]).toArray 31)) (w13.heap.size + 1) (by simp) (by omega)) _ _ _ _ (xs.take (K * 3)) rfl (by first | exact reads_to (Reads.below HXR.out (held3_b (by assumption))) hKl | exact reads_to_if (Reads.below HXR.out (held3_b (by assumption))) hKl) (fun u hu => HXO.out.one_cell u (List.mem_of_mem_take hu)) (by simp only [maxLen]; omega) (by omega) (Nat.le_trans (held3_b (w0 := w13) (by assumption)).size (Nat.le_refl _)) ?_; intro v1 wn1 ho1 hg1 hi1; have H1 := held_grown (by assumption) hg1 (fun e => by have e := Option.some.inj e; dsimp only at e; omega) (fun e => by have e := Option.some.inj e; dsimp only at e; omega) (fun e => by have e := Option.some.inj e; dsimp only at e; omega) (fun q e => by have e := Option.some.inj e; dsimp only at e; omega); have hR94 := reads_grown (reads_on (reads_at w13.drew w13.heap.size (by simp) [.bool al, .slice A1 s.ac.length c1, .slice B1 s.re.length k1] 31 3 1 rfl) (size_new _ _)) hg1 (fun e => by have e := Option.some.inj e; dsimp only at e; omega)) | (refine step_append_any _ rfl (.tmp 92) (.tmp 94) 22 rfl w13.heap.size 31 i0 (.agg #[.bool false, .slice none 0 0, .slice none 0 0]) 3 56 Tryd.underlying22 ih iz0 iz1 iz2 rfl (by decide) v1 _ _ rfl (own_below ho1 (size_new _ _)) _ _ _ _ [.bool al, .slice A1 s.ac.length c1, .slice B1 s.re.length k1] rfl (reads_new wn1 _ _ 3 1 rfl) (fun u hu => HXC.out.one_cell u hu) (by simp only [maxLen]; omega) (by omega) (Nat.le_trans (held3_b (w0 := w13) (by assumption)).size (Nat.le_refl _)) ?_; intro v2 wn2 ho2 hg2 hi2; have H2 := held_grown (by assumption) hg2 (fun e => by have := own_ge ho1 _ e; dsimp only at this; omega) (fun e => by have := own_ge ho1 _ e; dsimp only at this; omega) (fun e => by have := own_ge ho1 _ e; dsimp only at this; omega) (own_ge ho1)) | (refine step_append_any _ rfl (.tmp 92) (.tmp 94) 22 rfl w13.heap.size 31 i0 (.agg #[.bool false, .slice none 0 0, .slice none 0 0]) 3 56 Tryd.underlying22 ih iz0 iz1 iz2 rfl (by decide) v1 _ _ rfl ho1 _ _ _ _ [.bool al, .slice A1 s.ac.length c1, .slice B1 s.re.length k1] rfl hR94 (fun u hu => HXC.out.one_cell u hu) (by simp only [maxLen]; omega) (by omega) (Nat.le_trans (held3_b (w0 := w13) (by assumption)).size (Nat.le_refl _)) ?_; intro v2 wn2 ho2 hg2 hi2; have H2 := held_grown (by assumption) hg2 (fun e => by have := own_ge ho1 _ e; dsimp only at this; omega) (fun e => by have := own_ge ho1 _ e; dsimp only at this; omega) (fun e => by have := own_ge ho1 _ e; dsimp only at this; omega) (own_ge ho1)) | (refine step_append_any _ rfl (.tmp 95) (.tmp 98) 22 rfl w13.heap.size 31 i0 (.agg #[.bool false, .slice none 0 0, .slice none 0 0]) 3 56 Tryd.underlying22 ih iz0 iz1 iz2 rfl (by decide) v2 _ _ rfl ho2 _ _ _ _ (xs.drop (K * 3)) rfl (reads_from (Reads.below HXR.out (held3_b (by assumption))) hKl hc) (fun u hu => HXO.out.one_cell u (List.mem_of_mem_drop hu)) (by simp only [maxLen]; omega) (by omega) (Nat.le_trans (held3_b (w0 := w13) (by assumption)).size (Nat.le_refl _)) ?_; intro v3 wn3 ho3 hg3 hi3; have H3 := held_grown (by assumption) hg3 (fun e => by have := own_ge ho2 _ e; dsimp only at this; omega) (fun e => by have := own_ge ho2 _ e; dsimp only at this; omega) (fun e => by have := own_ge ho2 _ e; dsimp only at this; omega) (own_ge ho2))))
              all_goals (
                obtain ⟨p3, c3, rfl, hr3⟩ := own_reads ho3
                have HBN := Lib.hid H3.2
                have HST := Lib.hid (row_sts hr3 (by simp only [List.length_append, List.length_take, List.length_drop, List.length_cons, List.length_nil]; omega) ((((Row3.take HXO.out K).append HXC.out).append (Row3.drop HXO.out K)).on H3.2))
                have HLN := Lib.hid (show 0 + K + 1 + (l.length - K) = (l.take K ++ [s] ++ l.drop K).length by simp only [List.length_append, List.length_take, List.length_drop, List.length_cons, List.length_nil]; omega)
                have HBB := Lib.hid (HB3.out.trans (HBN.out.mono HB3.out.size))
                have HZM := Lib.hid (szl_more HZ.out HN.out HZ1.out K)
                have q1 := H3.1.2.1
                have q2 := H3.1.2.2
                have q0 := H3.1.1
                clear H1 H2 H3 hr3 ho1 ho2 ho3 hg1 hg2 hg3 hi1 hi2 hi3
                generalize 0 + K + 1 + (l.length - K) = N at *
                generalize (if c = K then A else A.map fun x => x.add (K * 3)) = X98 at *
                have HAL := Lib.hid hal
                clear hal
                cases al
                · have HVf := Lib.hid (show StV wn3 wn3.heap.size (.agg #[.bool false, .slice A1 s.ac.length c1, .slice B1 s.re.length k1]) s from HV3.out.on HBN.out)
                  go_wp2_with fail
                  refine (rMatches_st s _ a r wn3 HVf.out HZ1.out HA.out HR.out).mono ?_
                  rintro e x1 ⟨rfl, hb⟩
                  have HB5 := Lib.hid (HBB.out.trans (hb.mono HBB.out.size))
                  have HS5 := Lib.hid (HST.out.on hb)
                  clear hb q0 q1 q2
                  cases hmt : s.mt a r
                  · clear hmt
                    go_wp2_with fail
                    refine (awake_any m _ ((HB5.out.cell (p := ⟨0, 0, none⟩) hw0).trans HM.out)).mono ?_
                    rintro e x9 ⟨rfl, hb⟩
                    have HB9 := Lib.hid (HB5.out.trans (hb.mono HB5.out.size))
                    clear hb
                    go_wp2_with fail
                    go_ret
                    exact ⟨rfl, HB9.out⟩
                  · have HDD := Lib.hid (dec_deny (l := l.take K ++ [s] ++ l.drop K) (s := s) (by simp) HAL.out hmt)
                    clear hmt
                    go_wp2_with fail
                    refine (Decide_n p3 N c3 _ HLN.out a r x1 HS5.out HZM.out HA.out HR.out).mono ?_
                    rintro e x2 ⟨rfl, hb⟩
                    have HB6 := Lib.hid (HB5.out.trans (hb.mono HB5.out.size))
                    clear hb
                    obtain ⟨⟨y, j⟩, hq⟩ : ∃ q, decS (l.take K ++ [s] ++ l.drop K) a r = q := ⟨_, rfl⟩
                    have hy : y = false := by have := HDD.out; rw [hq] at this; exact this
                    rw [hq]
                    subst hy
                    unfold aggD
                    dsimp only
                    go_wp2_with fail
                    refine (awake_any m _ ((HB6.out.cell (p := ⟨0, 0, none⟩) hw0).trans HM.out)).mono ?_
                    rintro e x9 ⟨rfl, hb⟩
                    have HB9 := Lib.hid (HB6.out.trans (hb.mono HB6.out.size))
                    clear hb
                    go_wp2_with fail
                    go_ret
                    exact ⟨rfl, HB9.out⟩
                · skip
                  go_wp2_with fail
                  refine (awake_any m _ ((HBB.out.cell (p := ⟨0, 0, none⟩) hw0).trans HM.out)).mono ?_
                  rintro e x9 ⟨rfl, hb⟩
                  have HB9 := Lib.hid (HBB.out.trans (hb.mono HBB.out.size))
                  clear hb
                  go_wp2_with fail
                  go_ret
                  exact ⟨rfl, HB9.out⟩
                )
        · have d2 : decide ((100 : Int) < r.size) = true := decide_eq_true (by omega)
          clear h2
          go_wp2_with fail
          refine (awake_any m _ (((HB12.out).cell (p := ⟨0, 0, none⟩) hw0).trans HM.out)).mono ?_
          rintro e w13 ⟨rfl, hb⟩
          have bs : Blk w13 (w.heap.size) 31 #[.bool s.al, .slice A1 s.ac.length c1, .slice B1 s.re.length k1] := (bs).on hb
          have bl : Blk w13 (w11.heap.size) 31 #[.bool s.al, .slice A1 s.ac.length c1, .slice B1 s.re.length k1] := (bl).on hb
          have hbz := hb.size
          have HB13 := Lib.hid ((HB12.out).trans (hb.mono (by first | exact Nat.le_refl _ | omega | (simp; done) | (simp; omega))))
          have hz13 : w.heap.size ≤ w13.heap.size := HB13.out.size
          clear hb hbz
          go_wp2_with fail
          go_ret
          exact ⟨rfl, HB13.out⟩
      · have d1 : decide ((100 : Int) < a.size) = true := decide_eq_true (by omega)
        clear h1
        go_wp2_with fail
        refine (awake_any m _ (((HB12.out).cell (p := ⟨0, 0, none⟩) hw0).trans HM.out)).mono ?_
        rintro e w13 ⟨rfl, hb⟩
        have bs : Blk w13 (w.heap.size) 31 #[.bool s.al, .slice A1 s.ac.length c1, .slice B1 s.re.length k1] := (bs).on hb
        have bl : Blk w13 (w11.heap.size) 31 #[.bool s.al, .slice A1 s.ac.length c1, .slice B1 s.re.length k1] := (bl).on hb
        have hbz := hb.size
        have HB13 := Lib.hid ((HB12.out).trans (hb.mono (by first | exact Nat.le_refl _ | omega | (simp; done) | (simp; omega))))
        have hz13 : w.heap.size ≤ w13.heap.size := HB13.out.size
        clear hb hbz
        go_wp2_with fail
        go_ret
        exact ⟨rfl, HB13.out⟩
end Go.Proofs.YtcmlgiilifdnfaaDoor
