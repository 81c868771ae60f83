/- FifoOrders, walked. -/
import Derived.Test.YtbofclohnmojmaaGreatDoorGDD
import Derived.Test.YtbofclohnmojmaaGreatDoorGV
namespace Go.Proofs.YtbofclohnmojmaaGreatDoor
open Go.RowKit
open Go.Sort (grow)

theorem built_sn2 (id key : ByteArray) (W : World) : (Instr.build 61 #[(0, .string id), (1, .string key)]).run Tryz.prog W = .ok (.agg #[.string id, .string key, .bool false, .int .i64 0]) W := run_build W _ _ _ (by kernel_rfl)
theorem reads_new4 (W : World) (T : TypeId) (x0 x1 x2 x3 : Value) : Reads (W.alloc (.cells #[x0, x1, x2, x3] T)) (W.heap.size + 1) 4 (some ⟨W.heap.size, 0, none⟩) 1 [x0, x1, x2, x3] :=
  ⟨rfl, fun _ => ⟨_, _, rfl, by omega, fun j u hu => by have := cells_new_at (w := W) (cs := [x0, x1, x2, x3]) (e := T) (g := W.heap.size) rfl j u hu; rwa [Addr.add_lit] at this⟩⟩
section
variable {w0 w w' : World} {q : Nat} {s : QS} {R1 R2 R3 R4 : Row} {Rs : List Row}
theorem QR.p2341 (h : QR w0 w q s [R1, R2, R3, R4]) : QR w0 w q s [R2, R3, R4, R1] := h.perm (List.perm_append_comm (l₁ := [R1]) (l₂ := [R2, R3, R4]))
theorem QR.p312 (h : QR w0 w q s (R1 :: R2 :: R3 :: Rs)) : QR w0 w q s (R3 :: R1 :: R2 :: Rs) := h.perm ((List.perm_append_comm (l₁ := [R1, R2]) (l₂ := [R3])).append_right Rs)
theorem QR.p231' (h : QR w0 w q s (R1 :: R2 :: R3 :: Rs)) : QR w0 w q s (R2 :: R3 :: R1 :: Rs) := h.perm ((List.perm_append_comm (l₁ := [R1]) (l₂ := [R2, R3])).append_right Rs)
theorem QR.str_cell {v : Value} {T : List ByteArray} (h : QR w0 w q s Rs) (hR : strR v T ∈ Rs) {k : Nat} {x : ByteArray} (hk : T[k]? = some x) : ∃ g c, v = .slice (some ⟨g, 0, none⟩) T.length c ∧ w.cell? ⟨g, k, none⟩ = some (.string x) := by
  obtain ⟨p, c, e⟩ := own_slice (h.str hR)
  have h2 := h.str hR
  rw [e] at h2
  obtain ⟨g, e2, _, h3⟩ := OwnS.cell_at h2 hk
  subst e2
  exact ⟨g, c, e, h3⟩
end
section
variable {w0 w : World} {q : Nat} {s : QS} {R1 R2 R3 : Row} {g c : Nat} {r : List De}
theorem del_at (h : QR w0 w q s [R1, R2, R3, delR (.slice (some ⟨g, 0, none⟩) r.length c) r]) {j : Nat} {d : De} (hd : r[j]? = some d) : w.cell? ⟨g, j * 9 + 1, none⟩ = some (.string d.ev.id) := by
  obtain ⟨g', c', hu, -, -, e1, -, -⟩ := h.de m4 hd
  injection hu with hu _ _
  injection hu with hu
  injection hu with hu _ _
  subst hu
  exact e1
theorem OrL.sizes {s' : QS} {T I : List ByteArray} {all : List Sn} (h : OrL s' r T I all) : ∀ d ∈ r, d.rc.size ≤ 1000 := by
  intro d hd
  obtain ⟨j, hj⟩ := List.getElem?_of_mem hd
  obtain ⟨p, y, R, -, -, -, -, h5, -⟩ := h.dlv hj
  exact h5
end
/-- What the script's loop keeps. -/
def OrRel (w1 : World) (q : Nat) (L : Nat) (v7 v8 v9 v10 : Value) (wr : World) : Prop :=
  ∃ (k : Nat) (s : QS) (T I : List ByteArray) (all : List Sn), k ≤ L ∧ v10 = .int .i64 k ∧ QR w1 wr q s [strR v7 T, strR v8 I, snR v9 all] ∧ s.ok ∧ s.arr ≤ k ∧ T.length ≤ 256 * k ∧ (∀ t ∈ T, t.size ≤ 1000) ∧ all.length ≤ k ∧ OrI s all T I
/-- Behind the first of the two tests. -/
def OrOne (w1 : World) (q : Nat) (s : QS) (v7 v8 u : Value) (T I : List ByteArray) (r : List De) (K : Nat) (x : Cl) (z : Int) (all : List Sn) (v9 : Value) (wr : World) : Prop :=
  ∃ all' : List Sn, QR w1 wr q s [strR v7 T, strR v8 I, snR v9 all', delR u r] ∧ all'.length ≤ K ∧ (((x.k = 0 ∧ z = 0) ∧ all' = all ++ [⟨x.e.id, x.e.key, false, 0⟩]) ∨ (¬ (x.k = 0 ∧ z = 0) ∧ all' = all))
/-- Behind both. -/
def OrMid (w1 : World) (q : Nat) (s : QS) (v7 v8 u : Value) (T I : List ByteArray) (r : List De) (K : Nat) (v9 : Value) (wr : World) : Prop :=
  ∃ all' : List Sn, QR w1 wr q s [strR v7 T, strR v8 I, snR v9 all', delR u r] ∧ all'.length ≤ K ∧ OrL s r T I all'
/-- In the loop over receipts. -/
def OrDel (w1 : World) (q : Nat) (s : QS) (v7 v8 v9 u : Value) (T I : List ByteArray) (r : List De) (rc : ByteArray) (all : List Sn) (p : Nat) (y : Sn) (v14 : Value) (wr : World) : Prop :=
  ∃ (j : Nat) (allj : List Sn), j ≤ T.length ∧ v14 = .int .i64 j ∧ QR w1 wr q s [strR v7 T, strR v8 I, snR v9 allj, delR u r] ∧ OrM all rc T p y j allj
/-- In the loop over deliveries. -/
def OrIn (w1 : World) (q : Nat) (s : QS) (u v9 : Value) (r : List De) (T I : List ByteArray) (all : List Sn) (v7 v8 v15 : Value) (wr : World) : Prop :=
  ∃ j : Nat, j ≤ r.length ∧ v15 = .int .i64 j ∧ QR w1 wr q s [strR v7 (T ++ (r.take j).map De.rc), strR v8 (I ++ (r.take j).map fun d => d.ev.id), snR v9 all, delR u r]
attribute [local go_sem ↓] run_lc11 built_sn2
set_option maxHeartbeats 40000000 in
set_option maxRecDepth 100000 in
theorem FifoOrders_any (pv pr : Int) (A : Option Addr) (c : Nat) (l : List Cl) (w : World) (hl : Reads w w.heap.size 11 A l.length (l.flatMap Cl.cells)) (hn : l.length ≤ 9223372036854775807) (hin : ∀ x ∈ l, EvIn w w.heap.size x.e) (hup : ∀ x ∈ l, ClUp x) (hL : LaidW w) (hE : ErrV w) :
    Calls Tryz.prog 5 #[.agg #[.int .i64 pv, .int .i64 pr], .slice A l.length c] w fun e w' => e = .returned (.bool true) ∧ Below w.heap.size w w' := by
  obtain ⟨i0, ih, iz0, iz1, iz2⟩ := info_parts info_strK
  obtain ⟨i1, jh, jz0, jz1, jz2⟩ := info_partsO info_sn
  have HO := Lib.hid hl
  have HIN := Lib.hid hin
  have HUP := Lib.hid hup
  have HN := Lib.hid hn
  have HL := Lib.hid hL.below_
  have HE := Lib.hid hE.below_
  clear hl hn hin hup hL hE
  go_enter Tryz.func5, Tryz.ntmps5
  go_wp2_with fail
  have HB0 := Lib.hid (al_new w (.cells #[.int .i64 pv, .int .i64 pr] 23))
  refine (New_any pv pr _).mono ?_
  generalize w.alloc (.cells #[.int .i64 pv, .int .i64 pr] 23) = w1 at *
  have hz1 : w.heap.size ≤ w1.heap.size := HB0.out.size
  rintro e w2 ⟨hb2, hpo⟩
  have HB2 := Lib.hid hb2
  clear hb2
  rcases hpo with ⟨hne, rfl⟩ | ⟨heq, q, rfl, hq⟩
  · have dne : (newQ pv pr != 0) = true := by simpa using hne
    have dne2 : (newQ pv pr == 0) = false := by simpa using hne
    generalize newQ pv pr = z0 at *
    go_wp2_with fail
    refine (awake_any _ (HL.out.on (HB0.out.trans (HB2.out.mono hz1))).at_.below_ (HE.out.on (HB0.out.trans (HB2.out.mono hz1))).at_.below_).mono ?_
    rintro e wz ⟨rfl, hb⟩
    go_wp2_with fail
    go_ret
    exact ⟨rfl, (HB0.out.trans (HB2.out.mono hz1)).trans (hb.mono (HB0.out.trans (HB2.out.mono hz1)).size)⟩
  · have HQ := Lib.hid (QR.first hq (Nat.le_refl _) HB2.out)
    have HK0 := Lib.hid (newS_ok heq)
    clear hq heq
    by_cases h200 : (l.length : Int) ≤ 200
    · have hd : decide ((l.length : Int) ≤ 200) = true := decide_eq_true h200
      go_wp2_with fail
      refine (small_any A l.length c _).mono ?_
      rintro e wq ⟨rfl, hwq⟩
      obtain rfl := hwq.symm
      rw [hd]
      go_wp2_with fail
      have HQ1 := Lib.hid ((((HQ.out.fresh (R := strR (.slice (some ⟨w2.heap.size, 0, none⟩) 0 0) []) (al_new w2 (.cells #[] 9)) (show OwnS _ _ _ [] from OwnS.empty rfl (Nat.le_refl _)) (by show (9 : TypeId) ≠ 94; decide)).fresh (R := strR (.slice (some ⟨w2.heap.size + 1, 0, none⟩) 0 0) []) (al_new _ (.cells #[] 9)) (show OwnS ((w2.alloc (.cells #[] 9)).alloc (.cells #[] 9)) (w2.alloc (.cells #[] 9)).heap.size (.slice (some ⟨w2.heap.size + 1, 0, none⟩) 0 0) [] from by have h := @OwnS.empty (w2.alloc (.cells #[] 9)); simpa using h rfl (Nat.le_refl _)) (by show (9 : TypeId) ≠ 94; decide)).p213.fresh (R := snR (.slice (some ⟨w2.heap.size + 2, 0, none⟩) 0 0) []) (al_new _ (.cells #[] 61)) (by have h := @snR_empty ((w2.alloc (.cells #[] 9)).alloc (.cells #[] 9)); simpa using h) (by show (61 : TypeId) ≠ 94; decide)).p231')
      clear HQ
      go_loopw [7, 8, 9, 10] (fun v7 v8 v9 v10 wr => OrRel w1 q l.length v7 v8 v9 v10 wr) (fun _ _ _ i _ => l.length - (intOf i).toNat)
      case atStart => exact ⟨0, _, [], [], [], Nat.zero_le _, rfl, HQ1.out, HK0.out, by simp, by simp, by simp, by simp, OrI.new pv pr⟩
      case round =>
        clear HQ1 HK0 HB2
        obtain ⟨k, s, T, I, all, hk, rfl, hT, hok, har, hTl, hTs, hal, hI⟩ := hrel
        obtain ⟨v7, rfl⟩ : ∃ v : Value, v = u7 := ⟨_, rfl⟩
        obtain ⟨v8, rfl⟩ : ∃ v : Value, v = u8 := ⟨_, rfl⟩
        obtain ⟨v9, rfl⟩ : ∃ v : Value, v = u9 := ⟨_, rfl⟩
        obtain ⟨wo, rfl⟩ : ∃ v : World, v = wr := ⟨_, rfl⟩
        have HT := Lib.hid hT
        have HK := Lib.hid hok
        have HTS := Lib.hid hTs
        have HI := Lib.hid hI
        clear hT hok hTs hI
        have HBo := Lib.hid (HB0.out.trans (HT.out.below.mono hz1))
        by_cases hlt : k < l.length
        · skip
          have hx0 := List.getElem?_eq_getElem hlt
          obtain ⟨b, o, rfl, hbB, hld, c0, -⟩ := ld_cl (Reads.below HO.out HBo.out) hx0
          have HIX := Lib.hid ((HIN.out _ (List.getElem_mem hlt)).keep HBo.out)
          have HUX := Lib.hid (HUP.out _ (List.getElem_mem hlt))
          have HLD := Lib.hid (fun (W : World) (hW : Below w.heap.size w W) => (ld_at (Reads.below HO.out hW) hx0).2)
          have hkI : (k : Int) < l.length := by omega
          have hk0 : (0 : Int) ≤ k := by omega
          have har6 : s.arr < 1000000 := by omega
          clear hx0
          generalize l[k] = x at *
          go_wp2_with fail
          refine (call_qr HT.out HK.out har6 x (HIX.out.more hz1) HUX.out m1 (by omega) (fun t ht => by have := HTS.out t ht; omega) (HL.out.on HB0.out).at_.below_ (HE.out.on HB0.out).at_.below_).mono ?_
          rintro e w3 ⟨u, z, r, s', rfl, -, hst, hT3⟩
          obtain ⟨Au, cu, hu⟩ := hT3.slice (R := delR u r) m1
          change u = .slice Au r.length cu at hu
          subst hu
          have HT3 := Lib.hid hT3.p2341
          obtain ⟨hs0, hs2, hs3, hs256⟩ := hst.or HI.out HK.out
          obtain ⟨hok', har', -, -⟩ := hst.ok HK.out har6 HUX.out.1
          have HS0 := Lib.hid hs0
          have HS2 := Lib.hid hs2
          have HS3 := Lib.hid hs3
          have HK' := Lib.hid hok'
          have HB3w := Lib.hid (HB0.out.trans (HT3.out.below.mono hz1))
          have c0 := (HLD.out _ HB3w.out).1
          have HIL := Lib.hid HI.out.len
          have hz3 : w1.heap.size ≤ w3.heap.size := HT3.out.below.size
          clear hT3 hst hs0 hs2 hs3 hok' HT HI HK hld
          go_upto_region 11 with fail
          go_cut [60] from 35 to 248 (fun vt wx => vt = .bool (decide (x.k = 0 ∧ z = 0)) ∧ wx = w3)
          case first =>
            by_cases k0 : x.k = 0
            · rw [k0] at c0
              by_cases z0 : z = 0
              · subst z0
                have hd := decide_eq_true (p := x.k = 0 ∧ (0 : Int) = 0) ⟨k0, rfl⟩
                clear k0
                as_aux_lemma =>
                  go_wp2_with fail
                  go_meet
                  exact ⟨by rw [hd], rfl⟩
              · have dz : (z == 0) = false := by simpa using z0
                have hd := decide_eq_false (p := x.k = 0 ∧ z = 0) (fun h => z0 h.2)
                clear k0 z0
                as_aux_lemma =>
                  go_wp2_with fail
                  go_meet
                  exact ⟨by rw [hd], rfl⟩
            · have dk0 : (x.k == 0) = false := by simpa using k0
              have hd := decide_eq_false (p := x.k = 0 ∧ z = 0) (fun h => k0 h.1)
              clear k0
              as_aux_lemma =>
                go_wp2_with fail
                go_meet
                exact ⟨by rw [hd], rfl⟩
          case rest =>
          obtain ⟨rfl, hwc⟩ := hcut
          obtain rfl := hwc.symm
          generalize hbb : decide (x.k = 0 ∧ z = 0) = bb at *
          have HBX := Lib.hid hbb
          clear hbb
          go_upto_if 60 with fail
          go_cut [9] from 35 to 248 (fun v9 wx => OrOne w1 q s' v7 v8 (.slice Au r.length cu) T I r (k + 1) x z all v9 wx)
          case first =>
            cases bb
            rotate_left
            · have HKZ := Lib.hid (of_decide_eq_true HBX.out)
              have c1 := (HLD.out _ HB3w.out).2.1
              have c4 := (HLD.out _ HB3w.out).2.2.1
              have HCC := Lib.hid (And.intro c1 c4)
              have HA1 := Lib.hid (show all.length + 1 ≤ maxLen by simp only [maxLen]; omega)
              have HA2 := Lib.hid (show (all.length + 1) * 48 ≤ 140737488355328 by omega)
              obtain ⟨P9, cP9, hp9⟩ := HT3.out.slice (R := snR v9 all) m3
              change v9 = .slice P9 all.length cP9 at hp9
              subst hp9
              clear c0
              go_wp2_with fail
              go_region_held3 (fun w' => w'.cell? ⟨b, o + k * 11 + 1, none⟩ = some (.string x.e.id) ∧ w'.cell? ⟨b, o + k * 11 + 4, none⟩ = some (.string x.e.key)) (first | assumption | exact HCC.out | exact ⟨c1, c4⟩ | exact ⟨HLN.out.2.1, HLN.out.2.2.1⟩ | exact ⟨(HLD.out _ (HB3w.out.trans (((al_new w3 _).trans ((below_drew' _).mono (by simp))).mono HB3w.out.size))).2.1, (HLD.out _ (HB3w.out.trans (((al_new w3 _).trans ((below_drew' _).mono (by simp))).mono HB3w.out.size))).2.2.1⟩) (first
                | (refine step_append_any _ rfl (.tmp 61) (.tmp 75) 59 rfl w1.heap.size 61 i1 (.agg #[.string ⟨#[]⟩, .string ⟨#[]⟩, .bool false, .int .i64 0]) 4 48 Tryz.underlying59 jh jz0 jz1 jz2 rfl (by decide) (.slice P9 all.length cP9) all.length (all.flatMap Sn.cells) (by simp [Act.eval]) (own_below (HT3.out.row (R := snR (.slice P9 all.length cP9) all) m3) ((al_new w3 _).trans ((below_drew' _).mono (by simp)))) (w3.heap.size + 1) (some ⟨w3.heap.size, 0, none⟩) 1 1 [.string x.e.id, .string x.e.key, .bool false, .int .i64 0] (by simp [Act.eval]) (reads_new4 w3 _ _ _ _ _) (Sn.one ⟨x.e.id, x.e.key, false, 0⟩) HA1.out HA2.out (Nat.le_trans hz3 (by simp)) ?_; intro v' wn hown hgr hblk; have HT4 := Lib.hid (((HT3.out.p312).on ((al_new w3 (.cells #[.string x.e.id, .string x.e.key, .bool false, .int .i64 0] 61)).trans ((below_drew' _).mono (by simp)))).push (x := ⟨x.e.id, x.e.key, false, 0⟩) hown hgr hblk).p231'; have HLN := Lib.hid (HLD.out wn (HB0.out.trans (HT4.out.below.mono hz1))); clear hown hgr hblk))
              as_aux_lemma =>
                go_wp2_with fail
                go_meet
                exact ⟨_, HT4.out, by rw [List.length_append]; exact Nat.succ_le_succ hal, .inl ⟨HKZ.out, rfl⟩⟩
            · have HKZ := Lib.hid (of_decide_eq_false HBX.out)
              as_aux_lemma =>
                go_wp2_with fail
                go_meet
                exact ⟨_, HT3.out, by omega, .inr ⟨HKZ.out, rfl⟩⟩
          case rest =>
          obtain ⟨all4, hT4, hal4, hP4⟩ := hcut
          obtain ⟨v9c, rfl⟩ : ∃ v : Value, v = u9 := ⟨_, rfl⟩
          have HT4 := Lib.hid hT4
          have HP4 := Lib.hid hP4
          have HB4w := Lib.hid (HB0.out.trans (HT4.out.below.mono hz1))
          have c0 := (HLD.out _ HB4w.out).1
          clear hT4 hP4 HT3
          obtain ⟨w4, rfl⟩ : ∃ v : World, v = wc := ⟨_, rfl⟩
          go_upto_region 13 with fail
          go_cut [94] from 35 to 248 (fun vt wx => vt = .bool (decide ((x.k = 2 ∨ x.k = 4) ∧ z = 0)) ∧ wx = w4)
          case first =>
            by_cases z0 : z = 0
            · subst z0
              by_cases k2 : x.k = 2
              · have hd := decide_eq_true (p := (x.k = 2 ∨ x.k = 4) ∧ (0 : Int) = 0) ⟨.inl k2, rfl⟩
                rw [k2] at c0
                clear k2
                as_aux_lemma =>
                  go_wp2_with fail
                  go_meet
                  exact ⟨by rw [hd], rfl⟩
              · have dk2 : (x.k == 2) = false := by simpa using k2
                by_cases k4 : x.k = 4
                · have hd := decide_eq_true (p := (x.k = 2 ∨ x.k = 4) ∧ (0 : Int) = 0) ⟨.inr k4, rfl⟩
                  rw [k4] at c0
                  clear k2 dk2 k4
                  as_aux_lemma =>
                    go_wp2_with fail
                    go_meet
                    exact ⟨by rw [hd], rfl⟩
                · have dk4 : (x.k == 4) = false := by simpa using k4
                  have hd := decide_eq_false (p := (x.k = 2 ∨ x.k = 4) ∧ (0 : Int) = 0) (fun h => h.1.elim k2 k4)
                  clear k2 k4
                  as_aux_lemma =>
                    go_wp2_with fail
                    go_meet
                    exact ⟨by rw [hd], rfl⟩
            · have dz : (z == 0) = false := by simpa using z0
              have hd := decide_eq_false (p := (x.k = 2 ∨ x.k = 4) ∧ z = 0) (fun h => z0 h.2)
              clear z0
              as_aux_lemma =>
                go_wp2_with fail
                go_meet
                exact ⟨by rw [hd], rfl⟩
          case rest =>
          obtain ⟨rfl, hwc⟩ := hcut
          obtain rfl := hwc.symm
          generalize hbb : decide ((x.k = 2 ∨ x.k = 4) ∧ z = 0) = bb2 at *
          have HBY := Lib.hid hbb
          clear hbb
          go_upto_if 94 with fail
          go_cut [9, 13, 14] from 35 to 248 (fun v9 _ _ wx => OrMid w1 q s' v7 v8 (.slice Au r.length cu) T I r (k + 1) v9 wx)
          case first =>
            cases bb2
            rotate_left
            · have k2 := of_decide_eq_true HBY.out
              have ha4 : all4 = all := by
                rcases HP4.out with ⟨h, -⟩ | ⟨-, h1⟩
                · omega
                · exact h1
              subst ha4
              obtain ⟨hr0, id9, p9, y9, hD9, hI9⟩ := HS2.out k2.1 k2.2
              subst hr0
              have HD9 := Lib.hid hD9
              have HI9 := Lib.hid hI9
              have HK2 := Lib.hid k2.1
              clear k2 hD9 hI9
              as_aux_lemma =>
                have c8 := (HLD.out _ HB4w.out).2.2.2.1
                go_upto_if 105 with fail
                go_cut [13] from 35 to 248 (fun v13 wx => v13 = .string (x.rc T) ∧ wx = w4)
                case first =>
                  rcases HK2.out with k2 | k4
                  · have HRC := Lib.hid (show x.rc T = x.s by unfold Cl.rc; rw [if_pos (.inl k2)])
                    rw [k2] at c0
                    go_wp2_with fail
                    go_meet
                    exact ⟨by rw [HRC.out], rfl⟩
                  · have HRC := Lib.hid (show x.rc T = nthS T x.n by unfold Cl.rc; rw [if_neg (by omega)])
                    rw [k4] at c0
                    have c10 := (HLD.out _ HB4w.out).2.2.2.2.2
                    go_wp2_with fail
                    refine (nth_any (HT4.out.str m1) (by omega) x.n).mono ?_
                    rintro e wq ⟨rfl, hq⟩
                    obtain rfl := hq.symm
                    go_wp2_with fail
                    go_meet
                    exact ⟨by rw [HRC.out], rfl⟩
                case rest =>
                  obtain ⟨rfl, hwc⟩ := hcut
                  obtain rfl := hwc.symm
                  obtain ⟨P1, cP1, hp1⟩ := HT4.out.slice (R := strR v7 T) m1
                  change v7 = .slice P1 T.length cP1 at hp1
                  subst hp1
                  obtain ⟨P2, cP2, hp2⟩ := HT4.out.slice (R := strR v8 I) m2
                  change v8 = .slice P2 I.length cP2 at hp2
                  subst hp2
                  go_wp2_with fail
                  go_loopw [14] (fun v14 wx => OrDel w1 q s' (.slice P1 T.length cP1) (.slice P2 I.length cP2) v9c (.slice Au ([] : List De).length cu) T I [] (x.rc T) all4 p9 y9 v14 wx) (fun i _ => T.length - (intOf i).toNat)
                  case atStart => exact ⟨0, all4, Nat.zero_le _, rfl, HT4.out, OrM.start⟩
                  case round =>
                    clear HT4 HB4w c0 c8 HLD
                    obtain ⟨j, allj, hj, rfl, hT, hM⟩ := hrel
                    obtain ⟨w6, rfl⟩ : ∃ v : World, v = wr := ⟨_, rfl⟩
                    have HT6 := Lib.hid hT
                    have HM := Lib.hid hM
                    have halj : allj.length ≤ k + 1 := by rw [hM.len]; exact hal4
                    clear hT hM
                    generalize hrc : x.rc T = rc9 at *
                    clear hrc
                    by_cases hjl : j < T.length
                    · have hx := List.getElem?_eq_getElem hjl
                      have hjl2 : j < I.length := by have := HIL.out; omega
                      have hy := List.getElem?_eq_getElem hjl2
                      obtain ⟨g1, c1', hv1, e1⟩ := HT6.out.str_cell m1 hx
                      injection hv1 with hv1 hv1l hv1c
                      subst hv1
                      clear hv1l hv1c
                      obtain ⟨g2, c2', hv2, e2⟩ := HT6.out.str_cell m2 hy
                      injection hv2 with hv2 hv2l hv2c
                      subst hv2
                      clear hv2l hv2c
                      have HX := Lib.hid hx
                      have HY := Lib.hid hy
                      clear hx hy
                      generalize T[j] = t9 at *
                      generalize I[j] = i9 at *
                      have hjI : (j : Int) < T.length := by omega
                      have hjI2 : (j : Int) < I.length := by omega
                      have hj0 : (0 : Int) ≤ j := by omega
                      have ht := toL_eq t9 rc9
                      cases hq : eqS t9 rc9
                      · rw [hq] at ht
                        have HNE := Lib.hid (show t9 ≠ rc9 from fun e => by rw [(eqS_iff _ _).2 e] at hq; cases hq)
                        clear hq
                        as_aux_lemma =>
                          go_wp2_with fail
                          go_roundw
                          case rel => exact ⟨j + 1, allj, by omega, by go_num, HT6.out, HM.out.skip HX.out HNE.out⟩
                          case measure => simp [intOf] <;> omega
                      · rw [hq] at ht
                        have hte := (eqS_iff _ _).1 hq
                        have hie : i9 = id9 := HD9.out.is j i9 (by rw [HX.out, hte]) HY.out
                        subst hie
                        obtain ⟨A9, c9, hs9⟩ := HT6.out.slice (R := snR v9c allj) m3
                        change v9c = .slice A9 allj.length c9 at hs9
                        clear hq hte
                        rcases HM.out.hit HD9.out with ⟨hf, hp, hM2⟩ | ⟨hf, hM2⟩
                        · obtain ⟨gn, cn, hv9, hgn, ⟨-, -, n2, -⟩, hfz⟩ := HT6.out.sn (v := v9c) (l := allj) m3 hp
                          subst hv9
                          have HF := Lib.hid hf
                          have HM3 := Lib.hid hM2
                          have HP := Lib.hid hp
                          clear hs9 hf hM2 hp
                          have hiI : (p9 : Int) < allj.length := by have := (List.getElem?_eq_some_iff.1 HP.out).1; omega
                          have hi0 : (0 : Int) ≤ p9 := by omega
                          have HT9 := Lib.hid (((HT6.out.p312).put (i := p9) (j := 2) (x := y9) (x' := { y9 with gone := true }) (u := .bool true) HP.out (by decide) rfl).p231')
                          as_aux_lemma =>
                            go_wp2_with fail
                            refine (find_sn HT6.out (l := allj) m3 i9 (by omega)).mono ?_
                            rintro e wq ⟨rfl, hq⟩
                            obtain rfl := hq.symm
                            rw [HF.out]
                            go_wp2_with fail
                            refine (find_sn HT6.out (l := allj) m3 i9 (by omega)).mono ?_
                            rintro e wq ⟨rfl, hq⟩
                            obtain rfl := hq.symm
                            rw [HF.out]
                            go_wp2_with fail
                            go_roundw
                            case rel => exact ⟨j + 1, _, by omega, by go_num, HT9.out, HM3.out⟩
                            case measure => simp [intOf] <;> omega
                        · have HF := Lib.hid hf
                          have HM3 := Lib.hid hM2
                          clear hf hM2
                          subst hs9
                          as_aux_lemma =>
                            go_wp2_with fail
                            refine (find_sn HT6.out (l := allj) m3 i9 (by omega)).mono ?_
                            rintro e wq ⟨rfl, hq⟩
                            obtain rfl := hq.symm
                            rw [HF.out]
                            go_wp2_with fail
                            go_roundw
                            case rel => exact ⟨j + 1, _, by omega, by go_num, HT6.out, HM3.out⟩
                            case measure => simp [intOf] <;> omega
                    · obtain rfl : j = T.length := by omega
                      have HDN := Lib.hid (HM.out.done HD9.out)
                      as_aux_lemma =>
                        go_wp2_with fail
                        go_meet
                        exact ⟨allj, HT6.out, halj, by rw [HDN.out]; exact OrL.of HI9.out⟩
            · have k2 := of_decide_eq_false HBY.out
              have HKL := Lib.hid (show OrL s' r T I all4 from by
                rcases HP4.out with ⟨⟨h1, h2⟩, rfl⟩ | ⟨h, rfl⟩
                · exact HS0.out h1 h2
                · exact HS3.out h k2)
              clear k2
              as_aux_lemma =>
                go_wp2_with fail
                go_meet
                exact ⟨_, HT4.out, hal4, HKL.out⟩
          case rest =>
            obtain ⟨all', hT, hal', hL⟩ := hcut
            clear HT4 HS0 HS2 HS3 c0 hal hal4 HP4 HLD
            obtain ⟨v9d, rfl⟩ : ∃ v : Value, v = u9 := ⟨_, rfl⟩
            obtain ⟨w4d, rfl⟩ : ∃ v : World, v = wc := ⟨_, rfl⟩
            have HT := Lib.hid hT
            have HKL := Lib.hid hL
            clear hT hL
            as_aux_lemma =>
              go_wp2_with fail
              go_loopw [7, 8, 15] (fun v7x v8x v15 wx => OrIn w1 q s' (.slice Au r.length cu) v9d r T I all' v7x v8x v15 wx) (fun _ _ i _ => r.length - (intOf i).toNat)
              case atStart => exact ⟨0, Nat.zero_le _, rfl, by simpa using HT.out⟩
              case round =>
                clear HT
                obtain ⟨j, hj, rfl, hT⟩ := hrel
                obtain ⟨t7, rfl⟩ : ∃ v : Value, v = u7 := ⟨_, rfl⟩
                obtain ⟨t8, rfl⟩ : ∃ v : Value, v = u8 := ⟨_, rfl⟩
                obtain ⟨w6, rfl⟩ : ∃ v : World, v = wr := ⟨_, rfl⟩
                obtain ⟨TT, hTT⟩ : ∃ TT, T ++ (r.take j).map De.rc = TT := ⟨_, rfl⟩
                obtain ⟨II, hII⟩ : ∃ II, (I ++ (r.take j).map fun d => d.ev.id) = II := ⟨_, rfl⟩
                rw [hTT, hII] at hT
                have HTT := Lib.hid hTT
                have HII := Lib.hid hII
                have hTL : TT.length ≤ 256 * k + 256 := by rw [← hTT, List.length_append, List.length_map, List.length_take]; omega
                have hIL : II.length = TT.length := by rw [← hTT, ← hII, List.length_append, List.length_append, List.length_map, List.length_map, HIL.out]
                have HIL2 := Lib.hid hIL
                clear hTT hII hIL
                obtain ⟨P7, c7, hp7⟩ := hT.slice (R := strR t7 TT) m1
                change t7 = .slice P7 TT.length c7 at hp7
                subst hp7
                obtain ⟨P8, c8, hp8⟩ := hT.slice (R := strR t8 II) m2
                change t8 = .slice P8 II.length c8 at hp8
                subst hp8
                have HT6 := Lib.hid hT
                clear hT
                by_cases hjl : j < r.length
                · have hd := List.getElem?_eq_getElem hjl
                  obtain ⟨gd, cd, hud, hgd, e0, e1, e4, -⟩ := HT6.out.de m4 hd
                  injection hud with hud hudl hudc
                  subst hud
                  clear hudl hudc
                  obtain ⟨p, y, R, hf, hy, hyk, hw, hrs, his, hdead⟩ := HKL.out.dlv hd
                  obtain ⟨gn, cn, hv9, hgn, ⟨-, n1, -, -⟩, -⟩ := HT6.out.sn (v := v9d) (l := all') m3 hy
                  subst hv9
                  have HDC := Lib.hid (fun (W : World) {v7x v8x : Value} {T7 T8 : List ByteArray} (hW : QR w1 W q s' [strR v7x T7, strR v8x T8, snR (.slice (some ⟨gn, 0, none⟩) all'.length cn) all', delR (.slice (some ⟨gd, 0, none⟩) r.length cu) r]) => del_at hW hd)
                  have HD := Lib.hid hd
                  have HY := Lib.hid hy
                  have HDD := Lib.hid hdead
                  have hiI : (p : Int) < all'.length := by have := (List.getElem?_eq_some_iff.1 hy).1; omega
                  clear hd hy hdead
                  generalize r[j] = d at *
                  have hjI : (j : Int) < r.length := by omega
                  have hj0 : (0 : Int) ≤ j := by omega
                  have hi0 : (0 : Int) ≤ p := by omega
                  have di : decide ((p : Int) < 0) = false := decide_eq_false (by omega)
                  go_wp2_with fail
                  refine (find_sn HT6.out (l := all') m3 d.ev.id (by omega)).mono ?_
                  rintro e wq ⟨rfl, hq⟩
                  obtain rfl := hq.symm
                  rw [hf]
                  go_wp2_with fail
                  refine (wait_qr HT6.out HK'.out d.ev.key).mono ?_
                  rintro e w7 ⟨v, rfl, hown, hb⟩
                  rw [hw] at hown
                  obtain ⟨pw, cw, hv⟩ := own_slice hown
                  subst hv
                  obtain ⟨gw, hgw, -, f0⟩ := OwnS.cell_at hown (k := 0) (x := d.ev.id) rfl
                  subst hgw
                  have e1 := (hb.cell (p := ⟨gd, j * 9 + 1, none⟩) hgd).trans e1
                  have e4 := (hb.cell (p := ⟨gd, j * 9 + 4, none⟩) hgd).trans e4
                  have n1 := (hb.cell (p := ⟨gn, p * 4 + 1, none⟩) hgn).trans n1
                  rw [hyk] at n1
                  have HT7 := Lib.hid (HT6.out.on hb)
                  have HYK := Lib.hid hyk
                  have dl : (((d.ev.id :: R).length : Int) == 0) = false := by simp <;> omega
                  have dl2 : (((d.ev.id :: R).length : Int) == 0) = false := dl
                  have dl3 : decide ((0 : Int) < ((d.ev.id :: R).length : Int)) = true := decide_eq_true (by simp <;> omega)
                  have dl4 : (0 : Int) < ((d.ev.id :: R).length : Int) := by simp <;> omega
                  generalize hLN : (d.ev.id :: R).length = LN at *
                  clear hb hown hf hw hyk e0
                  go_wp2_with fail
                  go_quiet (fail)
                  have hb := below_drewN' w7.heap.size w7 nq
                  have HT8 := Lib.hid (HT7.out.on hb)
                  clear hb HT7 f0 e1 e4 n1 dl dl2 dl3 dl4 hLN
                  generalize w7.drewN nq = w8 at *
                  go_wp2_with fail
                  go_loopw [18] (fun v18 wx => ∃ m : Nat, m ≤ p ∧ v18 = .int .i64 m ∧ Below w8.heap.size w8 wx) (fun i _ => p - (intOf i).toNat)
                  case atStart => exact ⟨0, Nat.zero_le _, rfl, Below.refl _ _⟩
                  case round =>
                    obtain ⟨m, hm, rfl, hbx⟩ := hrel
                    obtain ⟨w9, rfl⟩ : ∃ v : World, v = wr := ⟨_, rfl⟩
                    have HBX9 := Lib.hid hbx
                    have HT9 := Lib.hid (HT8.out.on hbx)
                    clear hbx
                    by_cases hml : m < p
                    · have hmlen : m < all'.length := by omega
                      have hz := List.getElem?_eq_getElem hmlen
                      obtain ⟨g3, c3, hv3, -, ⟨z0, z1, z2, -⟩, -⟩ := HT9.out.sn (v := .slice (some ⟨gn, 0, none⟩) all'.length cn) (l := all') m3 hz
                      injection hv3 with hv3 hv3l hv3c
                      injection hv3 with hv3
                      injection hv3 with hv3 _ _
                      subst hv3
                      clear hv3l hv3c
                      obtain ⟨g4, c4, hv4, -, ⟨-, y1, -, -⟩, -⟩ := HT9.out.sn (v := .slice (some ⟨gn, 0, none⟩) all'.length cn) (l := all') m3 HY.out
                      injection hv4 with hv4 hv4l hv4c
                      injection hv4 with hv4
                      injection hv4 with hv4 _ _
                      subst hv4
                      clear hv4l hv4c
                      have HZ := Lib.hid hz
                      clear hz
                      generalize all'[m] = z9 at *
                      have hmI : (m : Int) < all'.length := by omega
                      have hm0 : (0 : Int) ≤ m := by omega
                      have hmp : (m : Int) < p := by omega
                      have ht := toL_eq z9.key y.key
                      cases hq : eqS z9.key y.key
                      · rw [hq] at ht
                        clear hq
                        as_aux_lemma =>
                          as_aux_lemma =>
                            go_wp2_with fail
                            go_quiet (fail)
                            have hb := below_drewN' w9.heap.size w9 nq
                            have HBY9 := Lib.hid (HBX9.out.trans (hb.mono HBX9.out.size))
                            clear hb
                            generalize w9.drewN nq = w10 at *
                            go_wp2_with fail
                            go_roundw
                            case rel => exact ⟨m + 1, by omega, by go_num, HBY9.out⟩
                            case measure => simp [intOf] <;> omega
                      · rw [hq] at ht
                        cases hgn2 : z9.gone
                        rotate_left
                        · rw [hgn2] at z2
                          clear hq hgn2
                          go_wp2_with fail
                          go_quiet (fail)
                          have hb := below_drewN' w9.heap.size w9 nq
                          have HBY9 := Lib.hid (HBX9.out.trans (hb.mono HBX9.out.size))
                          clear hb
                          generalize w9.drewN nq = w10 at *
                          go_wp2_with fail
                          go_roundw
                          case rel => exact ⟨m + 1, by omega, by go_num, HBY9.out⟩
                          case measure => simp [intOf] <;> omega
                        · have hhd : hasD s'.d z9.id = true := HDD.out m z9 hml HZ.out ((eqS_iff _ _).1 hq) hgn2
                          rw [hgn2] at z2
                          have HCD := Lib.hid (fun d' os => Calls.regrown_of (dead_any (HT9.out.on (below_regrown w9 d' os)) HK'.out z9.id))
                          rw [hhd] at HCD
                          have r0 := fun d' os => cell_regrown z0 d' os
                          have r1 := fun d' os => cell_regrown z1 d' os
                          have r2 := fun d' os => cell_regrown z2 d' os
                          have r3 := fun d' os => cell_regrown y1 d' os
                          clear hq hgn2 hhd
                          as_aux_lemma =>
                            go_wp2_with fail
                            refine wp_region_quiet_below (by kernel_rfl) (by kernel_rfl) ?_
                            repeat (go_big_quiet_step (first | (go_at_call 27; go_must (exact HCD.out _ _))))
                            refine wpQuiet_nil ?_
                            intro _ hw'
                            obtain ⟨⟨dq, osq⟩, hw''⟩ := hw'
                            subst hw''
                            have hb4 := below_regrown w9 dq osq
                            have HBY9 := Lib.hid (HBX9.out.trans (hb4.mono HBX9.out.size))
                            clear hb4 r0 r1 r2 r3 HCD
                            generalize grow (redrawn w9 dq) osq = w10 at *
                            go_wp2_with fail
                            go_roundw
                            case rel => exact ⟨m + 1, by omega, by go_num, HBY9.out⟩
                            case measure => simp [intOf] <;> omega
                    · obtain rfl : m = p := by omega
                      obtain ⟨g5, c5, hu5, -, f0, f1, -, -⟩ := HT9.out.de m4 HD.out
                      injection hu5 with hu5 hu5l hu5c
                      injection hu5 with hu5
                      injection hu5 with hu5 _ _
                      subst hu5
                      clear hu5l hu5c
                      have HC1 := Lib.hid (show TT.length + 1 ≤ maxLen by simp only [maxLen]; omega)
                      have HC2 := Lib.hid (show (TT.length + 1) * 16 ≤ 140737488355328 by omega)
                      have HC3 := Lib.hid (show w1.heap.size ≤ (w9.alloc (.cells #[.string d.rc] 9)).heap.size by have := HT9.out.below.size; simp; omega)
                      have HD1 := Lib.hid (show II.length + 1 ≤ maxLen by rw [HIL2.out]; simp only [maxLen]; omega)
                      have HD2 := Lib.hid (show (II.length + 1) * 16 ≤ 140737488355328 by rw [HIL2.out]; omega)
                      as_aux_lemma =>
                        go_wp2_with (first | (at_builtin; refine wpList_append_own_at _ rfl (.tmp 232) (.tmp 238) 34 rfl w1.heap.size 9 i0 (.string ⟨#[]⟩) 1 16 Tryz.underlying34 ih iz0 iz1 iz2 rfl (by decide) _ TT.length (svals TT) rfl (World.ownsRow.alloc (HT9.out.row (R := strR (.slice P7 TT.length c7) TT) m1) _) ⟨w9.heap.size, 0, none⟩ 1 1 [.string d.rc] rfl rfl (cells_new_at rfl) (by intro u hu; simp at hu; subst hu; rfl) HC1.out HC2.out HC3.out ?_; intro v7n wn hown1 hgr hiff hblk; clear hiff; have HT10 := Lib.hid (((HT9.out.on (al_new w9 (.cells #[.string d.rc] 9))).tell hown1 hgr hblk).p213); have e1 : wn.cell? ⟨gd, j * 9 + 1, none⟩ = some (.string d.ev.id) := HDC.out wn (HT10.out.on (Below.refl _ _)); have HC4 := Lib.hid (show w1.heap.size ≤ (wn.alloc (.cells #[.string d.ev.id] 9)).heap.size by have := HT10.out.below.size; simp; omega); clear hown1 hgr hblk) | (at_builtin; refine wpList_append_own_at _ rfl (.tmp 240) (.tmp 247) 34 rfl w1.heap.size 9 i0 (.string ⟨#[]⟩) 1 16 Tryz.underlying34 ih iz0 iz1 iz2 rfl (by decide) _ II.length (svals II) rfl (World.ownsRow.alloc (HT10.out.row (R := strR (.slice P8 II.length c8) II) m1) _) ⟨wn.heap.size, 0, none⟩ 1 1 [.string d.ev.id] rfl rfl (cells_new_at rfl) (by intro u hu; simp at hu; subst hu; rfl) HD1.out HD2.out HC4.out ?_; intro v8n wn2 hown1 hgr hiff hblk; clear hiff; have HT11 := Lib.hid (((HT10.out.on (al_new wn (.cells #[.string d.ev.id] 9))).tell hown1 hgr hblk).p213); clear hown1 hgr hblk))
                        go_wp2_with fail
                        go_roundw
                        case rel => exact ⟨j + 1, by omega, by go_num, by rw [take_snocs HD.out, List.map_append, List.map_append, ← List.append_assoc, ← List.append_assoc, HTT.out, HII.out]; exact HT11.out⟩
                        case measure => simp [intOf] <;> omega
                · obtain rfl : j = r.length := by omega
                  have hdn := HKL.out.done
                  have hTT2 := HTT.out
                  have hII2 := HII.out
                  rw [List.take_length] at hTT2 hII2
                  rw [hTT2, hII2] at hdn
                  have HDN := Lib.hid hdn
                  have HSZ := Lib.hid (show ∀ t ∈ TT, t.size ≤ 1000 from by
                    intro t ht
                    rw [← hTT2] at ht
                    rcases List.mem_append.1 ht with h | h
                    · exact HTS.out t h
                    · obtain ⟨d, hd, rfl⟩ := List.mem_map.1 h
                      exact HKL.out.sizes d hd)
                  clear hdn hTT2 hII2
                  as_aux_lemma =>
                    go_wp2_with fail
                    go_roundw
                    case rel => exact ⟨k + 1, s', TT, II, all', by omega, by go_num, HT6.out.sub (by simp), HK'.out, by omega, by omega, HSZ.out, hal', HDN.out⟩
                    case measure => simp [intOf] <;> omega
        · go_wp2_with fail
          refine (awake_any _ (HL.out.on (HBo.out)).at_.below_ (HE.out.on (HBo.out)).at_.below_).mono ?_
          rintro e wz ⟨rfl, hb⟩
          go_wp2_with fail
          go_ret
          exact ⟨rfl, (HBo.out).trans (hb.mono (HBo.out).size)⟩
    · have hd : decide ((l.length : Int) ≤ 200) = false := decide_eq_false h200
      go_wp2_with fail
      refine (small_any A l.length c _).mono ?_
      rintro e wq ⟨rfl, hwq⟩
      obtain rfl := hwq.symm
      rw [hd]
      go_wp2_with fail
      refine (awake_any _ (HL.out.on (HB0.out.trans (HB2.out.mono hz1))).at_.below_ (HE.out.on (HB0.out.trans (HB2.out.mono hz1))).at_.below_).mono ?_
      rintro e wz ⟨rfl, hb⟩
      go_wp2_with fail
      go_ret
      exact ⟨rfl, (HB0.out.trans (HB2.out.mono hz1)).trans (hb.mono (HB0.out.trans (HB2.out.mono hz1)).size)⟩
end Go.Proofs.YtbofclohnmojmaaGreatDoor
