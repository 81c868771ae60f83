/- FifoKeeps, walked. -/
import Derived.Test.YtbofclohnmojmaaGreatDoorGU
import Derived.Test.YtbofclohnmojmaaGreatDoorY9
import Derived.Deep.CutRange
import Derived.BigQuiet
namespace Go.Proofs.YtbofclohnmojmaaGreatDoor
open Go.RowKit
open Go.Sort (grow)

theorem info_strK : (Tryz.prog.info? 9).map (fun i => (i.zero, i.size, i.bytes)) = some (some (.string ⟨#[]⟩), 1, 16) := by kernel_rfl
theorem info_sn : (Tryz.prog.info? 61).map (fun i => (i.zero, i.size, i.bytes)) = some (some (.agg #[.string ⟨#[]⟩, .string ⟨#[]⟩, .bool false, .int .i64 0]), 4, 48) := by kernel_rfl
theorem built_sn (id : ByteArray) (W : World) : (Instr.build 61 #[(0, .string id)]).run Tryz.prog W = .ok (.agg #[.string id, .string ⟨#[]⟩, .bool false, .int .i64 0]) W := run_build W _ _ _ (by kernel_rfl)
theorem snR_empty {w : World} : (snR (.slice (some ⟨w.heap.size, 0, none⟩) 0 0) []).at_ (w.alloc (.cells #[] 61)) w.heap.size := World.ownsRow_lit w #[] 0 (Nat.le_refl _) (by decide) rfl
/-- What the script's loop keeps. -/
def KpRel (w1 : World) (q : Nat) (pr : Int) (L : Nat) (v7 v8 v9 v10 : Value) (wr : World) : Prop :=
  ∃ (k : Nat) (s : QS) (T : List ByteArray) (all : List Sn) (inn : Int), k ≤ L ∧ v10 = .int .i64 k ∧ v8 = .int .i64 inn ∧ QR w1 wr q s [strR v7 T, snR v9 all] ∧ s.ok ∧ s.r = pr ∧ s.arr ≤ k ∧ T.length ≤ 256 * k ∧ (∀ t ∈ T, t.size ≤ 1000) ∧ all.length ≤ k ∧ KpI s all inn
/-- Behind the counting of a call. -/
def KpMid (w1 : World) (q : Nat) (s : QS) (v7 u : Value) (T : List ByteArray) (r : List De) (K : Nat) (v8 v9 : Value) (wr : World) : Prop :=
  ∃ (all : List Sn) (inn : Int), v8 = .int .i64 inn ∧ QR w1 wr q s [strR v7 T, snR v9 all, delR u r] ∧ all.length ≤ K ∧ KpL s r inn 0 all
/-- Behind the first of the two tests. -/
def KpOne (w1 : World) (q : Nat) (s : QS) (v7 u : Value) (T : List ByteArray) (r : List De) (K : Nat) (x : Cl) (z inn : Int) (all : List Sn) (v8 v9 : Value) (wr : World) : Prop :=
  ∃ (all' : List Sn) (inn' : Int), v8 = .int .i64 inn' ∧ QR w1 wr q s [strR v7 T, snR v9 all', delR u r] ∧ all'.length ≤ K ∧
    (((x.k = 0 ∧ z = 0) ∧ all' = all ++ [⟨x.e.id, ⟨#[]⟩, false, 0⟩] ∧ inn' = inn + 1) ∨ (¬ (x.k = 0 ∧ z = 0) ∧ all' = all ∧ inn' = inn))
/-- In the loop over a call's deliveries. -/
def KpIn (w1 : World) (q : Nat) (s : QS) (u : Value) (r : List De) (inn : Int) (K M : Nat) (v7 v9 v13 : Value) (wr : World) : Prop :=
  ∃ (j : Nat) (T : List ByteArray) (all : List Sn), j ≤ r.length ∧ v13 = .int .i64 j ∧ QR w1 wr q s [strR v7 T, snR v9 all, delR u r] ∧ T.length ≤ M + j ∧ (∀ t ∈ T, t.size ≤ 1000) ∧ all.length ≤ K ∧ KpL s r inn j all
theorem sum_is {a b c : Nat} {n : Int} (hb : b = c) (hl : a + c ≤ 256) (hn : n = (a : Int) + c) : IntKind.i64.wrap ((a : Int) + b) = n ∧ wrap64 ((a : Int) + b) = n := by
  subst hb
  subst hn
  exact w64 (x := (a : Int) + b) (by omega) (by omega)
attribute [local go_sem ↓] run_lc11 built_sn
set_option maxHeartbeats 40000000 in
set_option maxRecDepth 100000 in
theorem FifoKeeps_any (pv pr : Int) (A : Option Addr) (c : Nat) (l : List Cl) (w : World) (hl : Reads w w.heap.size 11 A l.length (l.flatMap Cl.cells)) (hn : l.length ≤ 9223372036854775807) (hin : ∀ x ∈ l, EvIn w w.heap.size x.e) (hup : ∀ x ∈ l, ClUp x) (hL : LaidW w) (hE : ErrV w) :
    Calls Tryz.prog 6 #[.agg #[.int .i64 pv, .int .i64 pr], .slice A l.length c] w fun e w' => e = .returned (.bool true) ∧ Below w.heap.size w w' := by
  obtain ⟨i0, ih, iz0, iz1, iz2⟩ := info_parts info_strK
  obtain ⟨i1, jh, jz0, jz1, jz2⟩ := info_parts info_sn
  have HO := Lib.hid hl
  have HIN := Lib.hid hin
  have HUP := Lib.hid hup
  have HN := Lib.hid hn
  have HL := Lib.hid hL.below_
  have HE := Lib.hid hE.below_
  clear hl hn hin hup hL hE
  go_enter Tryz.func6, Tryz.ntmps6
  go_wp2_with fail
  have hbb := Blk.new w 23 #[.int .i64 pv, .int .i64 pr]
  have HBB := Lib.hid (hbb.cell 1)
  have hgb := hbb.lt
  have HB0 := Lib.hid (al_new w (.cells #[.int .i64 pv, .int .i64 pr] 23))
  refine (New_any pv pr _).mono ?_
  clear hbb
  generalize w.alloc (.cells #[.int .i64 pv, .int .i64 pr] 23) = w1 at *
  change Hid (w1.cell? ⟨w.heap.size, 1, none⟩ = some (.int .i64 pr)) at HBB
  have hz1 : w.heap.size ≤ w1.heap.size := HB0.out.size
  rintro e w2 ⟨hb2, hpo⟩
  have HB2 := Lib.hid hb2
  clear hb2
  rcases hpo with ⟨hne, rfl⟩ | ⟨heq, q, rfl, hq⟩
  · have dne : (newQ pv pr != 0) = true := by simpa using hne
    have dne2 : (newQ pv pr == 0) = false := by simpa using hne
    generalize newQ pv pr = z0 at *
    go_wp2_with fail
    refine (awake_any _ (HL.out.on (HB0.out.trans (HB2.out.mono hz1))).at_.below_ (HE.out.on (HB0.out.trans (HB2.out.mono hz1))).at_.below_).mono ?_
    rintro e wz ⟨rfl, hb⟩
    go_wp2_with fail
    go_ret
    exact ⟨rfl, (HB0.out.trans (HB2.out.mono hz1)).trans (hb.mono (HB0.out.trans (HB2.out.mono hz1)).size)⟩
  · have HQ := Lib.hid (QR.first hq (Nat.le_refl _) HB2.out)
    have HK0 := Lib.hid (newS_ok heq)
    clear hq heq
    by_cases h200 : (l.length : Int) ≤ 200
    · have hd : decide ((l.length : Int) ≤ 200) = true := decide_eq_true h200
      go_wp2_with fail
      refine (small_any A l.length c _).mono ?_
      rintro e wq ⟨rfl, hwq⟩
      obtain rfl := hwq.symm
      rw [hd]
      go_wp2_with fail
      have HQ1 := Lib.hid (((HQ.out.fresh (R := strR (.slice (some ⟨w2.heap.size, 0, none⟩) 0 0) []) (al_new w2 (.cells #[] 9)) (show OwnS _ _ _ [] from OwnS.empty rfl (Nat.le_refl _)) (by show (9 : TypeId) ≠ 94; decide)).fresh (R := snR (.slice (some ⟨w2.heap.size + 1, 0, none⟩) 0 0) []) (al_new _ (.cells #[] 61)) (by have h := @snR_empty (w2.alloc (.cells #[] 9)); simpa using h) (by show (61 : TypeId) ≠ 94; decide)).perm (List.Perm.swap _ _ _))
      clear HQ
      go_loopw [7, 8, 9, 10] (fun v7 v8 v9 v10 wr => KpRel w1 q pr l.length v7 v8 v9 v10 wr) (fun _ _ _ i _ => l.length - (intOf i).toNat)
      case atStart => exact ⟨0, _, [], [], 0, Nat.zero_le _, rfl, rfl, HQ1.out, HK0.out, rfl, by simp, by simp, by simp, by simp, KpI.new pv pr⟩
      case round =>
        clear HQ1 HK0 HB2
        obtain ⟨k, s, T, all, inn, hk, rfl, rfl, hT, hok, hpr, har, hTl, hTs, hal, hI⟩ := hrel
        obtain ⟨v7, rfl⟩ : ∃ v : Value, v = u7 := ⟨_, rfl⟩
        obtain ⟨v9, rfl⟩ : ∃ v : Value, v = u9 := ⟨_, rfl⟩
        obtain ⟨wo, rfl⟩ : ∃ v : World, v = wr := ⟨_, rfl⟩
        have HT := Lib.hid hT
        have HK := Lib.hid hok
        have HPR := Lib.hid hpr
        have HTS := Lib.hid hTs
        have HI := Lib.hid hI
        clear hT hok hpr hTs hI
        have HBo := Lib.hid (HB0.out.trans (HT.out.below.mono hz1))
        by_cases hlt : k < l.length
        · skip
          have hx0 := List.getElem?_eq_getElem hlt
          obtain ⟨b, o, rfl, hbB, hld, c0, -⟩ := ld_cl (Reads.below HO.out HBo.out) hx0
          have HIX := Lib.hid ((HIN.out _ (List.getElem_mem hlt)).keep HBo.out)
          have HUX := Lib.hid (HUP.out _ (List.getElem_mem hlt))
          have HLD := Lib.hid (fun (W : World) (hW : Below w.heap.size w W) => (ld_at (Reads.below HO.out hW) hx0).2)
          have hkI : (k : Int) < l.length := by omega
          have hk0 : (0 : Int) ≤ k := by omega
          have har6 : s.arr < 1000000 := by omega
          clear hx0
          generalize l[k] = x at *
          go_wp2_with fail
          refine (call_qr HT.out HK.out har6 x (HIX.out.more hz1) HUX.out (List.mem_cons_self ..) (by omega) (fun t ht => by have := HTS.out t ht; omega) (HL.out.on HB0.out).at_.below_ (HE.out.on HB0.out).at_.below_).mono ?_
          rintro e w3 ⟨u, z, r, s', rfl, -, hst, hT3⟩
          obtain ⟨Au, cu, hu⟩ := hT3.slice (R := delR u r) (List.mem_cons_self ..)
          change u = .slice Au r.length cu at hu
          subst hu
          have HT3 := Lib.hid hT3.p231
          obtain ⟨hs0, hs2, hs3, hs1, hs256⟩ := hst.kp HI.out HK.out
          obtain ⟨hok', har', -, hr'⟩ := hst.ok HK.out har6 HUX.out.1
          have HS0 := Lib.hid hs0
          have HS2 := Lib.hid hs2
          have HS3 := Lib.hid hs3
          have HS1 := Lib.hid hs1
          have HK' := Lib.hid hok'
          have HPR' := Lib.hid (hr'.trans HPR.out)
          have HB3w := Lib.hid (HB0.out.trans (HT3.out.below.mono hz1))
          have c0 := (HLD.out _ HB3w.out).1
          have c1 := (HLD.out _ HB3w.out).2.1
          have HIB := Lib.hid (show inn = s.l.length + s.d.length from HI.out.inn)
          have hlen := HK.out.len
          have hz3 : w1.heap.size ≤ w3.heap.size := HT3.out.below.size
          clear hT3 hst hs0 hs2 hs3 hs1 hok' hr' HT HI HK HPR hld
          go_upto_region 11 with fail
          go_cut [55] from 30 to 179 (fun v55 wx => v55 = .bool (decide (x.k = 0 ∧ z = 0)) ∧ wx = w3)
          case first =>
            by_cases k0 : x.k = 0
            · rw [k0] at c0
              by_cases z0 : z = 0
              · subst z0
                have hd := decide_eq_true (p := x.k = 0 ∧ (0 : Int) = 0) ⟨k0, rfl⟩
                clear k0
                go_wp2_with fail
                go_meet
                exact ⟨by rw [hd], rfl⟩
              · have dz : (z == 0) = false := by simpa using z0
                have hd := decide_eq_false (p := x.k = 0 ∧ z = 0) (fun h => z0 h.2)
                clear k0 z0
                go_wp2_with fail
                go_meet
                exact ⟨by rw [hd], rfl⟩
            · have dk0 : (x.k == 0) = false := by simpa using k0
              have hd := decide_eq_false (p := x.k = 0 ∧ z = 0) (fun h => k0 h.1)
              clear k0
              go_wp2_with fail
              go_meet
              exact ⟨by rw [hd], rfl⟩
          case rest =>
          obtain ⟨rfl, hwc⟩ := hcut
          obtain rfl := hwc.symm
          generalize hbb : decide (x.k = 0 ∧ z = 0) = bb at *
          have HBX := Lib.hid hbb
          clear hbb
          go_upto_if 55 with fail
          go_cut [8, 9] from 30 to 179 (fun v8 v9 wx => KpOne w1 q s' v7 (.slice Au r.length cu) T r (k + 1) x z inn all v8 v9 wx)
          case first =>
            cases bb
            rotate_left
            · have HKZ := Lib.hid (of_decide_eq_true HBX.out)
              have HB1 := Lib.hid (show all.length + 1 ≤ maxLen by simp only [maxLen]; omega)
              have HB2 := Lib.hid (show (all.length + 1) * 48 ≤ 140737488355328 by omega)
              have HB3 := Lib.hid (show w1.heap.size ≤ (w3.alloc (.cells #[.string x.e.id, .string ⟨#[]⟩, .bool false, .int .i64 0] 61)).heap.size by simp; omega)
              obtain ⟨wa1, wa2⟩ := w64 (x := inn + 1) (by have := HIB.out; omega) (by have := HIB.out; omega)
              clear hlen
              go_wp2_with (at_builtin; refine wpList_append_own_at _ rfl (.tmp 58) (.tmp 66) 59 rfl w1.heap.size 61 i1 (.agg #[.string ⟨#[]⟩, .string ⟨#[]⟩, .bool false, .int .i64 0]) 4 48 Tryz.underlying59 jh jz0 jz1 jz2 rfl (by decide) _ all.length (all.flatMap Sn.cells) rfl (World.ownsRow.alloc (HT3.out.row (R := snR v9 all) (by simp)) _) ⟨w3.heap.size, 0, none⟩ 1 1 [.string x.e.id, .string ⟨#[]⟩, .bool false, .int .i64 0] rfl rfl (cells_new_at rfl) (by intro u hu; simp at hu; rcases hu with rfl | rfl | rfl | rfl <;> rfl) HB1.out HB2.out HB3.out ?_; intro v' wn hown1 hgr hiff hblk; clear hiff; have HT4 := Lib.hid ((((HT3.out.p213).on (al_new w3 (.cells #[.string x.e.id, .string ⟨#[]⟩, .bool false, .int .i64 0] 61))).push (x := ⟨x.e.id, ⟨#[]⟩, false, 0⟩) hown1 hgr hblk).p213); clear hown1 hgr hblk)
              clear wa1 wa2
              go_wp2_with fail
              go_meet
              exact ⟨_, _, rfl, HT4.out, by rw [List.length_append]; exact Nat.succ_le_succ hal, .inl ⟨HKZ.out, rfl, rfl⟩⟩
            · have HKZ := Lib.hid (of_decide_eq_false HBX.out)
              clear hlen
              go_wp2_with fail
              go_meet
              exact ⟨_, _, rfl, HT3.out, by omega, .inr ⟨HKZ.out, rfl, rfl⟩⟩
          case rest =>
          obtain ⟨all4, inn4, rfl, hT4, hal4, hP4⟩ := hcut
          obtain ⟨v9c, rfl⟩ : ∃ v : Value, v = u9 := ⟨_, rfl⟩
          have HT4 := Lib.hid hT4
          have HP4 := Lib.hid hP4
          have HB4w := Lib.hid (HB0.out.trans (HT4.out.below.mono hz1))
          have c0 := (HLD.out _ HB4w.out).1
          clear hT4 hP4 HT3
          obtain ⟨w4, rfl⟩ : ∃ v : World, v = wc := ⟨_, rfl⟩
          go_upto_region 14 with fail
          go_cut [85] from 30 to 179 (fun v85 wx => v85 = .bool (decide ((x.k = 2 ∨ x.k = 4) ∧ z = 0)) ∧ wx = w4)
          case first =>
            by_cases z0 : z = 0
            · subst z0
              by_cases k2 : x.k = 2
              · have hd := decide_eq_true (p := (x.k = 2 ∨ x.k = 4) ∧ (0 : Int) = 0) ⟨.inl k2, rfl⟩
                rw [k2] at c0
                clear k2
                go_wp2_with fail
                go_meet
                exact ⟨by rw [hd], rfl⟩
              · have dk2 : (x.k == 2) = false := by simpa using k2
                by_cases k4 : x.k = 4
                · have hd := decide_eq_true (p := (x.k = 2 ∨ x.k = 4) ∧ (0 : Int) = 0) ⟨.inr k4, rfl⟩
                  rw [k4] at c0
                  clear k2 dk2 k4
                  go_wp2_with fail
                  go_meet
                  exact ⟨by rw [hd], rfl⟩
                · have dk4 : (x.k == 4) = false := by simpa using k4
                  have hd := decide_eq_false (p := (x.k = 2 ∨ x.k = 4) ∧ (0 : Int) = 0) (fun h => h.1.elim k2 k4)
                  clear k2 k4
                  go_wp2_with fail
                  go_meet
                  exact ⟨by rw [hd], rfl⟩
            · have dz : (z == 0) = false := by simpa using z0
              have hd := decide_eq_false (p := (x.k = 2 ∨ x.k = 4) ∧ z = 0) (fun h => z0 h.2)
              clear z0
              go_wp2_with fail
              go_meet
              exact ⟨by rw [hd], rfl⟩
          case rest =>
          obtain ⟨rfl, hwc⟩ := hcut
          obtain rfl := hwc.symm
          generalize hbb : decide ((x.k = 2 ∨ x.k = 4) ∧ z = 0) = bb2 at *
          have HBY := Lib.hid hbb
          clear hbb
          go_upto_if 85 with fail
          go_cut [8] from 30 to 179 (fun v8 wx => KpMid w1 q s' v7 (.slice Au r.length cu) T r (k + 1) v8 v9c wx)
          case first =>
            cases bb2
            rotate_left
            · have k2 := of_decide_eq_true HBY.out
              obtain ⟨rfl, rfl⟩ : all4 = all ∧ inn4 = inn := by
                rcases HP4.out with ⟨h, -, -⟩ | ⟨-, h1, h2⟩
                · omega
                · exact ⟨h1, h2⟩
              have HKL := Lib.hid (HS2.out k2.1 k2.2)
              obtain ⟨wa1, wa2⟩ := w64 (x := inn4 - 1) (by have := HIB.out; omega) (by have := HIB.out; omega)
              clear hlen k2
              go_wp2_with fail
              clear wa1 wa2
              go_meet
              exact ⟨_, _, rfl, HT4.out, hal4, HKL.out⟩
            · have k2 := of_decide_eq_false HBY.out
              have HKL := Lib.hid (show KpL s' r inn4 0 all4 from by
                rcases HP4.out with ⟨⟨h1, h2⟩, rfl, rfl⟩ | ⟨h, rfl, rfl⟩
                · exact HS0.out h1 h2
                · exact HS3.out h k2)
              clear hlen k2
              go_wp2_with fail
              go_meet
              exact ⟨_, _, rfl, HT4.out, hal4, HKL.out⟩
          case rest =>
            obtain ⟨all', inn', rfl, hT, hal', hL⟩ := hcut
            clear HT4 HS0 HS2 HS3 c0 HIB hlen hal hal4
            obtain ⟨v9d, rfl⟩ : ∃ v : Value, v = v9c := ⟨_, rfl⟩
            have HT := Lib.hid hT
            have HKL := Lib.hid hL
            have HIN' := Lib.hid hL.in_
            have hlen' := HK'.out.len
            clear hT hL
            as_aux_lemma =>
              obtain ⟨w4d, rfl⟩ : ∃ v : World, v = wc := ⟨_, rfl⟩
              go_upto_region 16 with fail
              go_cut [114] from 30 to 179 (fun v114 wx => v114 = .bool false ∧ Below w4d.heap.size w4d wx)
              case first =>
                go_wp2_with fail
                refine (len_qr HT.out HK'.out).mono ?_
                rintro e wq ⟨rfl, hq⟩
                obtain rfl := hq.symm
                go_wp2_with fail
                refine (dead_qr HT.out HK'.out).mono ?_
                rintro e w5 ⟨v5, r5, rfl, hown5, hcore5, -, hb5⟩
                obtain ⟨A5, c5, rfl⟩ := own_slice hown5
                have hr5 : r5.length = s'.d.length := by simpa using congrArg List.length hcore5
                have HT5 := Lib.hid (HT.out.on hb5)
                have HB5w := Lib.hid (HB0.out.trans (HT5.out.below.mono hz1))
                have HB5 := Lib.hid hb5
                have c0 := (HLD.out _ HB5w.out).1
                have c10 := (HLD.out _ HB5w.out).2.2.2.2.2
                have HSUM := Lib.hid (show IntKind.i64.wrap ((s'.l.length : Int) + r5.length) = inn' ∧ wrap64 ((s'.l.length : Int) + r5.length) = inn' from
                  sum_is hr5 hlen' HIN'.out)
                clear hown5 hcore5 hb5 HT hr5 hlen' HIN' HT5 HB5w
                obtain ⟨wa1, wa2⟩ := HSUM.out
                by_cases k1 : x.k = 1
                · have dM : decide (max x.n 0 < (r.length : Int)) = false := decide_eq_false (by have := HS1.out k1; omega)
                  rw [k1] at c0
                  clear k1
                  go_wp2_with fail
                  go_meet
                  exact ⟨rfl, HB5.out⟩
                · have dk1 : (x.k == 1) = false := by simpa using k1
                  clear k1
                  go_wp2_with fail
                  go_meet
                  exact ⟨rfl, HB5.out⟩
              case rest =>
                obtain ⟨rfl, hb5⟩ := hcut
                have HT5 := Lib.hid (HT.out.on hb5)
                clear hb5 HT HS1 HIN' hlen'
                obtain ⟨w5, rfl⟩ : ∃ v : World, v = wc := ⟨_, rfl⟩
                go_wp2_with fail
                go_loopw [7, 13] (fun v7 v13 wx => KpIn w1 q s' (.slice Au r.length cu) r inn' (k + 1) (256 * k) v7 v9d v13 wx) (fun _ i _ => r.length - (intOf i).toNat)
                case atStart => exact ⟨0, T, all', Nat.zero_le _, rfl, HT5.out, by omega, HTS.out, hal', HKL.out⟩
                case round =>
                  clear HT5 HKL HTS hTl HB3w
                  obtain ⟨j, T2, all2, hj, rfl, hT, hTl2, hTs2, hal2, hL⟩ := hrel
                  obtain ⟨t7, rfl⟩ : ∃ v : Value, v = u7 := ⟨_, rfl⟩
                  obtain ⟨w6, rfl⟩ : ∃ v : World, v = wr := ⟨_, rfl⟩
                  obtain ⟨P2, cP2, hp2⟩ := hT.slice (R := strR t7 T2) (by simp)
                  change t7 = .slice P2 T2.length cP2 at hp2
                  subst hp2
                  have HT6 := Lib.hid hT
                  have HTS2 := Lib.hid hTs2
                  have HL6 := Lib.hid hL
                  clear hT hTs2 hL
                  by_cases hjl : j < r.length
                  · have hd := List.getElem?_eq_getElem hjl
                    obtain ⟨gd, cd, hud, hgd, e0, e1, -, e8⟩ := HT6.out.de m3 hd
                    injection hud with hud _ hcd
                    subst hud hcd
                    obtain ⟨i, y, hf, hy, hcn, ⟨hc1, hc10, hcr⟩, hrs, hL2⟩ := HL6.out.step hd
                    obtain ⟨gn, cn, hv9, hgn, ⟨-, -, -, n3⟩, hfz⟩ := HT6.out.sn (v := v9d) (l := all2) m2 hy
                    subst hv9
                    have HF := Lib.hid hf
                    have HY := Lib.hid hy
                    have HL7 := Lib.hid hL2
                    have HD := Lib.hid hd
                    clear HL6 hd hf hy hL2
                    generalize r[j] = d at *
                    have hjI : (j : Int) < r.length := by omega
                    have hj0 : (0 : Int) ≤ j := by omega
                    have hiI : (i : Int) < all2.length := by have := (List.getElem?_eq_some_iff.1 HY.out).1; omega
                    have hi0 : (0 : Int) ≤ i := by omega
                    have di : decide ((i : Int) < 0) = false := decide_eq_false (by omega)
                    go_wp2_with fail
                    refine (find_sn HT6.out (l := all2) m2 d.ev.id (by omega)).mono ?_
                    rintro e wq ⟨rfl, hq⟩
                    obtain rfl := hq.symm
                    rw [HF.out]
                    have ngd : gd ≠ gn := by
                      intro e
                      subst e
                      obtain ⟨_, _, _, _, hP⟩ := HT6.out.ex
                      exact ((List.pairwise_cons.1 (List.pairwise_cons.1 hP.ne).2).1 _ m1) _ rfl rfl
                    have hge : w1.heap.size ≤ gn := (own_lt (HT6.out.row (R := snR (.slice (some ⟨gn, 0, none⟩) all2.length cn) all2) m2) rfl).1
                    have ngb : w.heap.size ≠ gn := by
                      intro e
                      omega
                    by_cases d1 : d.cnt = 1
                    · have HT9 := Lib.hid (((HT6.out.p213).put2 (i := i) (j := 3) (x := y) (x' := { y with times := 0 }) (x2 := { y with times := d.cnt }) (u := .int .i64 0) (u' := .int .i64 d.cnt) HY.out (by decide) rfl rfl).p213)
                      rw [d1] at e8
                      rw [d1] at HT9
                      go_upto_region 27 with fail
                      generalize (w6.setCell ⟨gn, i * 4 + 3, none⟩ (.int .i64 0)).setCell ⟨gn, i * 4 + 3, none⟩ (.int .i64 1) = w7 at *
                      rw [← d1] at HT9
                      as_aux_lemma =>
                        clear e0 e1 e8 n3 hfz HT6
                        have hilt := (List.getElem?_eq_some_iff.1 HY.out).1
                        obtain ⟨g3, c3, hu3, -, f0, -, -, f8⟩ := HT9.out.de m3 HD.out
                        injection hu3 with hu3 hv4l hv4c
                        clear hv4l hv4c
                        injection hu3 with hu3
                        injection hu3 with hu3 hv4l hv4c
                        clear hv4l hv4c
                        subst hu3
                        obtain ⟨g4, c4, hv4, -, ⟨-, -, -, f3⟩, -⟩ := HT9.out.sn (v := .slice (some ⟨gn, 0, none⟩) all2.length cn) (l := all2.set i { y with times := d.cnt }) m2 (List.getElem?_set_self hilt)
                        injection hv4 with hv4 hv4l hv4c
                        clear hv4l hv4c
                        injection hv4 with hv4
                        injection hv4 with hv4 hv4l hv4c
                        clear hv4l hv4c
                        subst hv4
                        have pB : w7.cell? ⟨w.heap.size, 1, none⟩ = some (.int .i64 pr) := (HT9.out.below.cell (p := ⟨w.heap.size, 1, none⟩) hgb).trans HBB.out
                        have hprr := HPR'.out
                        have dP : decide (pr < d.cnt) = false := decide_eq_false (by omega)
                        have hi9 : (i : Int) < ((all2.length : Nat) : Int) := hiI
                        clear hprr d1 hilt
                        go_wp2_with fail
                        go_quiet (fail)
                        have hb := below_drewN' w7.heap.size w7 nq
                        have HT10 := Lib.hid (HT9.out.on hb)
                        have f0 := (hb.cell (p := ⟨gd, j * 9, none⟩) (by obtain ⟨g5, _, hu5, hlt5, -⟩ := HT9.out.de m3 HD.out; injection hu5 with hu5 _ _; injection hu5 with hu5; injection hu5 with hu5 _ _; subst hu5; exact hlt5)).trans f0
                        clear hb HT9 f8 f3 pB dP
                        generalize w7.drewN nq = w8 at *
                        have HC1 := Lib.hid (show T2.length + 1 ≤ maxLen by simp only [maxLen]; omega)
                        have HC2 := Lib.hid (show (T2.length + 1) * 16 ≤ 140737488355328 by omega)
                        have HC3 := Lib.hid (show w1.heap.size ≤ (w8.alloc (.cells #[.string d.rc] 9)).heap.size by have := HT10.out.below.size; simp; omega)
                        go_wp2_with (at_builtin; refine wpList_append_own_at _ rfl (.tmp 172) (.tmp 178) 34 rfl w1.heap.size 9 i0 (.string ⟨#[]⟩) 1 16 Tryz.underlying34 ih iz0 iz1 iz2 rfl (by decide) _ T2.length (svals T2) rfl (World.ownsRow.alloc (HT10.out.row (R := strR (.slice P2 T2.length cP2) T2) (by simp)) _) ⟨w8.heap.size, 0, none⟩ 1 1 [.string d.rc] rfl rfl (cells_new_at rfl) (by intro u hu; simp at hu; subst hu; rfl) HC1.out HC2.out HC3.out ?_; intro v' wn hown1 hgr hiff hblk; clear hiff; have HT11 := Lib.hid ((HT10.out.on (al_new w8 (.cells #[.string d.rc] 9))).tell hown1 hgr hblk); clear hown1 hgr hblk)
                        go_wp2_with fail
                        go_roundw
                        case rel => exact ⟨j + 1, T2 ++ [d.rc], all2.set i { y with times := d.cnt }, by omega, by go_num, HT11.out, by rw [List.length_append]; simp; omega, by
                          intro t ht
                          rcases List.mem_append.1 ht with ht | ht
                          · exact HTS2.out t ht
                          · rw [List.mem_singleton] at ht; subst ht; exact hrs, by rw [List.length_set]; exact hal2, HL7.out⟩
                        case measure => simp [intOf] <;> omega
                    · have hcn2 : y.times + 1 = d.cnt := by omega
                      have dd1 : (d.cnt == 1) = false := by simpa using d1
                      have HT9 := Lib.hid (((HT6.out.p213).put (i := i) (j := 3) (x := y) (x' := { y with times := d.cnt }) (u := .int .i64 d.cnt) HY.out (by decide) rfl).p213)
                      obtain ⟨wb1, wb2⟩ := w64 (x := y.times + 1) (by omega) (by omega)
                      rw [hcn2] at wb1 wb2
                      go_upto_region 27 with fail
                      clear wb1 wb2
                      generalize w6.setCell ⟨gn, i * 4 + 3, none⟩ (.int .i64 d.cnt) = w7 at *
                      as_aux_lemma =>
                        clear e0 e1 e8 n3 hfz HT6
                        have hilt := (List.getElem?_eq_some_iff.1 HY.out).1
                        obtain ⟨g3, c3, hu3, -, f0, -, -, f8⟩ := HT9.out.de m3 HD.out
                        injection hu3 with hu3 hv4l hv4c
                        clear hv4l hv4c
                        injection hu3 with hu3
                        injection hu3 with hu3 hv4l hv4c
                        clear hv4l hv4c
                        subst hu3
                        obtain ⟨g4, c4, hv4, -, ⟨-, -, -, f3⟩, -⟩ := HT9.out.sn (v := .slice (some ⟨gn, 0, none⟩) all2.length cn) (l := all2.set i { y with times := d.cnt }) m2 (List.getElem?_set_self hilt)
                        injection hv4 with hv4 hv4l hv4c
                        clear hv4l hv4c
                        injection hv4 with hv4
                        injection hv4 with hv4 hv4l hv4c
                        clear hv4l hv4c
                        subst hv4
                        have pB : w7.cell? ⟨w.heap.size, 1, none⟩ = some (.int .i64 pr) := (HT9.out.below.cell (p := ⟨w.heap.size, 1, none⟩) hgb).trans HBB.out
                        have hprr := HPR'.out
                        have dP : decide (pr < d.cnt) = false := decide_eq_false (by omega)
                        have hi9 : (i : Int) < ((all2.length : Nat) : Int) := hiI
                        clear hprr d1 hilt
                        go_wp2_with fail
                        go_quiet (fail)
                        have hb := below_drewN' w7.heap.size w7 nq
                        have HT10 := Lib.hid (HT9.out.on hb)
                        have f0 := (hb.cell (p := ⟨gd, j * 9, none⟩) (by obtain ⟨g5, _, hu5, hlt5, -⟩ := HT9.out.de m3 HD.out; injection hu5 with hu5 _ _; injection hu5 with hu5; injection hu5 with hu5 _ _; subst hu5; exact hlt5)).trans f0
                        clear hb HT9 f8 f3 pB dP
                        generalize w7.drewN nq = w8 at *
                        have HC1 := Lib.hid (show T2.length + 1 ≤ maxLen by simp only [maxLen]; omega)
                        have HC2 := Lib.hid (show (T2.length + 1) * 16 ≤ 140737488355328 by omega)
                        have HC3 := Lib.hid (show w1.heap.size ≤ (w8.alloc (.cells #[.string d.rc] 9)).heap.size by have := HT10.out.below.size; simp; omega)
                        go_wp2_with (at_builtin; refine wpList_append_own_at _ rfl (.tmp 172) (.tmp 178) 34 rfl w1.heap.size 9 i0 (.string ⟨#[]⟩) 1 16 Tryz.underlying34 ih iz0 iz1 iz2 rfl (by decide) _ T2.length (svals T2) rfl (World.ownsRow.alloc (HT10.out.row (R := strR (.slice P2 T2.length cP2) T2) (by simp)) _) ⟨w8.heap.size, 0, none⟩ 1 1 [.string d.rc] rfl rfl (cells_new_at rfl) (by intro u hu; simp at hu; subst hu; rfl) HC1.out HC2.out HC3.out ?_; intro v' wn hown1 hgr hiff hblk; clear hiff; have HT11 := Lib.hid ((HT10.out.on (al_new w8 (.cells #[.string d.rc] 9))).tell hown1 hgr hblk); clear hown1 hgr hblk)
                        go_wp2_with fail
                        go_roundw
                        case rel => exact ⟨j + 1, T2 ++ [d.rc], all2.set i { y with times := d.cnt }, by omega, by go_num, HT11.out, by rw [List.length_append]; simp; omega, by
                          intro t ht
                          rcases List.mem_append.1 ht with ht | ht
                          · exact HTS2.out t ht
                          · rw [List.mem_singleton] at ht; subst ht; exact hrs, by rw [List.length_set]; exact hal2, HL7.out⟩
                        case measure => simp [intOf] <;> omega
                  · obtain rfl : j = r.length := by omega
                    go_wp2_with fail
                    go_roundw
                    case rel => exact ⟨k + 1, s', T2, all2, inn', by omega, by go_num, rfl, HT6.out.sub (by simp), HK'.out, HPR'.out, by omega, by omega, HTS2.out, hal2, HL6.out.done⟩
                    case measure => simp [intOf] <;> omega
        · go_wp2_with fail
          refine (awake_any _ (HL.out.on (HBo.out)).at_.below_ (HE.out.on (HBo.out)).at_.below_).mono ?_
          rintro e wz ⟨rfl, hb⟩
          go_wp2_with fail
          go_ret
          exact ⟨rfl, (HBo.out).trans (hb.mono (HBo.out).size)⟩
    · have hd : decide ((l.length : Int) ≤ 200) = false := decide_eq_false h200
      go_wp2_with fail
      refine (small_any A l.length c _).mono ?_
      rintro e wq ⟨rfl, hwq⟩
      obtain rfl := hwq.symm
      rw [hd]
      go_wp2_with fail
      refine (awake_any _ (HL.out.on (HB0.out.trans (HB2.out.mono hz1))).at_.below_ (HE.out.on (HB0.out.trans (HB2.out.mono hz1))).at_.below_).mono ?_
      rintro e wz ⟨rfl, hb⟩
      go_wp2_with fail
      go_ret
      exact ⟨rfl, (HB0.out.trans (HB2.out.mono hz1)).trans (hb.mono (HB0.out.trans (HB2.out.mono hz1)).size)⟩
end Go.Proofs.YtbofclohnmojmaaGreatDoor
