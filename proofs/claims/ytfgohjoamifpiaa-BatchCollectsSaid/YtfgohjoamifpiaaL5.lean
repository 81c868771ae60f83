/- BatchCollects returns true whatever its arguments, and its arguments read behind the call as they did. No condition. -/
import Derived.Test.YtfgohjoamifpiaaWO
namespace Go.Proofs.Ytfgohjoamifpiaa
open Go.ChangeShapes Go.WideShapes Go.ChangeAt Go.RowKit
open Go.Sort (grow)

theorem fl_fin {win f n m n2 n3 : Int} {zs zs' xs xs2 ys ys2 : List RecX} (hs : xs.map (·.r) = ys.map (·.r)) (h1 : (zs.map (·.r), xs2.map (·.r), n2) = flR win (xs.map (·.r)) f n m) (h2 : (zs'.map (·.r), ys2.map (·.r), n3) = flR win (ys.map (·.r)) f n m)
    (hn : 0 ≤ n ∧ n ≤ 1073741824) : zs.map (·.r) = zs'.map (·.r) ∧ xs2.map (·.r) = ys2.map (·.r) ∧ n2 = n3 ∧ (0 ≤ n2 ∧ n2 ≤ 1073741824) ∧ sumBody zs ≤ sumBody xs ∧ zs.length ≤ xs.length ∧ sumBody xs2 ≤ sumBody xs ∧ xs2.length ≤ xs.length := by
  rw [← hs, ← h1] at h2
  simp only [Prod.mk.injEq] at h2
  obtain ⟨b1, b2, b3, b4, b5, b6⟩ := flR_bound win (xs.map (·.r)) f n m hn
  rw [← h1] at b1 b2 b3 b4 b5 b6
  simp only [← sumR_eq, List.length_map] at b1 b2 b3 b4 b5 b6
  exact ⟨h2.1.symm, h2.2.1.symm, h2.2.2.symm, ⟨b3, b4⟩, b5, b6, b1, b2⟩
theorem ad_fin {s c f n m n2 n3 f2 f3 er er' : Int} {zs zs' xs xs2 ys ys2 : List RecX} {x : Rec} (hs : xs.map (·.r) = ys.map (·.r)) (h1 : (zs.map (·.r), xs2.map (·.r), f2, n2, er) = adR s c (xs.map (·.r)) f n m x) (h2 : (zs'.map (·.r), ys2.map (·.r), f3, n3, er') = adR s c (ys.map (·.r)) f n m x)
    (hf : 0 ≤ f ∧ f ≤ 1073741824) (hn : 0 ≤ n ∧ n ≤ 1073741824) : zs.map (·.r) = zs'.map (·.r) ∧ xs2.map (·.r) = ys2.map (·.r) ∧ f2 = f3 ∧ n2 = n3 ∧ er = er' ∧ (0 ≤ f2 ∧ f2 ≤ 1073741824) ∧ (0 ≤ n2 ∧ n2 ≤ 1073741824) ∧ sumBody zs ≤ sumBody xs ∧ zs.length ≤ xs.length ∧
      sumBody xs2 ≤ sumBody xs + x.body.length ∧ xs2.length ≤ xs.length + 1 := by
  rw [← hs, ← h1] at h2
  simp only [Prod.mk.injEq] at h2
  obtain ⟨b1, b2, b3, b4, b5, b6⟩ := adR_bound s c (xs.map (·.r)) f n m x hf hn
  rw [← h1] at b1 b2 b3 b4 b5 b6
  simp only [← sumR_eq, List.length_map] at b1 b2 b3 b4 b5 b6
  exact ⟨h2.1.symm, h2.2.1.symm, h2.2.2.1.symm, h2.2.2.2.1.symm, h2.2.2.2.2.symm, b3, b4, b5, b6, b1, b2⟩

def St (p : Pol) (w3 : World) (B g h : Nat) (R : List RecX) (k : Nat) (wr : World) : Prop :=
  ∃ A c xs A' c' ys f n, Two p w3 B g h wr A c xs f n A' c' ys f n ∧ xs.map (·.r) = ys.map (·.r) ∧ (0 ≤ f ∧ f ≤ 1073741824) ∧ (0 ≤ n ∧ n ≤ 1073741824) ∧ sumBody xs ≤ sumBody (R.take k) ∧ xs.length ≤ k

set_option maxRecDepth 8000 in
set_option maxHeartbeats 2000000 in
theorem law_collects (s c n : Int) (A : Option Addr) (ca : Nat) (l : List OpX) (w : World) (hl : OpsAt w w.heap.size A l) (hn : ∀ o ∈ l, o.x.r.body.length ≤ maxLen) :
    Calls Try.prog 5 #[.agg #[.int .i64 s, .int .i64 c, .int .i64 n], .slice A l.length ca] w fun e w' => e = .returned (.bool true) ∧ Below w.heap.size w w' := by
  go_enter Try.func5, Try.ntmps5
  have d0 : (w.alloc (.cells #[.int .i64 s, .int .i64 c, .int .i64 n] 23)).cell? ⟨w.heap.size, 0, none⟩ = some (.int .i64 s) := by go_simp
  have d1 : (w.alloc (.cells #[.int .i64 s, .int .i64 c, .int .i64 n] 23)).cell? ⟨w.heap.size, 1, none⟩ = some (.int .i64 c) := by go_simp
  have d2 : (w.alloc (.cells #[.int .i64 s, .int .i64 c, .int .i64 n] 23)).cell? ⟨w.heap.size, 2, none⟩ = some (.int .i64 n) := by go_simp
  have hlow : Below w.heap.size w (w.alloc (.cells #[.int .i64 s, .int .i64 c, .int .i64 n] 23)) := (Below.refl _ _).alloc (Nat.le_refl _) _
  have hz : w.heap.size < (w.alloc (.cells #[.int .i64 s, .int .i64 c, .int .i64 n] 23)).heap.size := by simp
  by_cases h300 : 300 < l.length
  · have b0 : decide ((l.length : Int) > 300) = true := decide_eq_true (by omega)
    go_wp2_with fail
    refine (awake_any _).mono ?_
    rintro e w1 ⟨rfl, hb⟩
    go_wp2_with fail
    go_ret
    exact ⟨rfl, hlow.trans (hb.mono (by omega))⟩
  have b0 : decide (300 < l.length) = false := decide_eq_false h300
  go_wp2_with fail
  generalize hW : World.alloc w _ = W at *
  clear hW b0
  have hlW : OpsAt W W.heap.size A l := (hl.below hlow).more (by omega)
  clear hl
  refine (records_all A ca l W hlW (by omega)).mono ?_
  rintro e w0 ⟨A0, c0, rfl, hr0, hb0⟩
  have hz0 := hb0.size
  go_wp2_with fail
  refine (small_any (recsOfOps l) A0 c0 w0 hr0 (fun x hx => by obtain ⟨o, ho, rfl⟩ := List.mem_map.1 hx; exact hn o ho)).mono ?_
  rintro e w' ⟨rfl, rfl⟩
  cases hs : smallB (recsOfOps l)
  · clear hs
    go_wp2_with fail
    refine (awake_any _).mono ?_
    rintro e w1 ⟨rfl, hb⟩
    go_wp2_with fail
    go_ret
    exact ⟨rfl, hlow.trans ((hb0.mono (by omega)).trans (hb.mono (by omega)))⟩
  obtain ⟨hsum, hlen⟩ := small_bd hs
  have e0 : w0.cell? ⟨w.heap.size, 0, none⟩ = some (.int .i64 s) := (hb0.cell (p := ⟨_, _, _⟩) hz).trans d0
  have e1 : w0.cell? ⟨w.heap.size, 1, none⟩ = some (.int .i64 c) := (hb0.cell (p := ⟨_, _, _⟩) hz).trans d1
  have e2 : w0.cell? ⟨w.heap.size, 2, none⟩ = some (.int .i64 n) := (hb0.cell (p := ⟨_, _, _⟩) hz).trans d2
  have HLW := Lib.hid hlW
  clear hs hr0 d0 d1 d2 hlW
  go_wp2_with fail
  cases hp : Pol.bad ⟨s, c, n⟩
  · refine (newC_ok s c n w0 (good_E _ hp)).mono ?_
    rintro e w1 ⟨g, rfl, hg, hcol, hb1⟩
    have hz1 := hb1.size
    have f0 : w1.cell? ⟨w.heap.size, 0, none⟩ = some (.int .i64 s) := (hb1.cell (p := ⟨_, _, _⟩) (by show w.heap.size < _; omega)).trans e0
    have f1 : w1.cell? ⟨w.heap.size, 1, none⟩ = some (.int .i64 c) := (hb1.cell (p := ⟨_, _, _⟩) (by show w.heap.size < _; omega)).trans e1
    have f2 : w1.cell? ⟨w.heap.size, 2, none⟩ = some (.int .i64 n) := (hb1.cell (p := ⟨_, _, _⟩) (by show w.heap.size < _; omega)).trans e2
    have HCL := Lib.hid hcol
    clear e0 e1 e2 hcol
    go_wp2_with fail
    refine (newD_ok s c n w1 (good_E _ hp)).mono ?_
    rintro e w3 ⟨h, rfl, hh, hdol, hb3⟩
    have hz3 := hb3.size
    have hgw : g < w1.heap.size := HCL.out.lt
    have hwin : 0 ≤ n ∧ n ≤ 1073741824 := by
      unfold Pol.bad at hp
      simp at hp
      omega
    have hT0 : St ⟨s, c, n⟩ w3 W.heap.size g h (recsOfOps l) 0 w3 := by
      refine ⟨none, 0, [], none, 0, [], 0, 0, ⟨(HCL.out.below hb3).lower (by omega), hdol.lower (by omega), Chg.refl _ _, fun k hk => .inl (foot_nil hk), fun k hk => .inl (foot_nil hk), fun k hk hd => ?_⟩, rfl, by omega, by omega, by simp [sumBody], by simp⟩
      have := foot_nil hk
      have := foot_nil hd
      omega
    have HL3 : Hid (OpsAt w3 W.heap.size A l) := ((HLW.out.below hb0).below (hb1.mono (by omega))).below (hb3.mono (by omega))
    have HLOW := Lib.hid (hlow.trans ((hb0.mono (by omega)).trans ((hb1.mono (by omega)).trans (hb3.mono (by omega)))))
    have hz4 : W.heap.size ≤ w3.heap.size := by omega
    have hgB : W.heap.size ≤ g := by omega
    have hhB : W.heap.size ≤ h := by omega
    clear hdol HCL HLW f0 f1 f2 hb0 hb1 hb3
    go_wp2_with fail
    go_loopw [57] (fun i wr => ∃ (k : Nat), k ≤ l.length ∧ i = .int .i64 k ∧ St ⟨s, c, n⟩ w3 W.heap.size g h (recsOfOps l) k wr) (fun i _ => l.length - (intOf i).toNat)
    case atStart => exact ⟨0, Nat.zero_le _, rfl, hT0⟩
    case round =>
      obtain ⟨k, hk, rfl, Ax, cx, xs, Ay, cy, ys, f, nw, hT, hsame, hf, hnw, hsb, hxk⟩ := hrel
      clear hT0
      have hbB : Below W.heap.size w3 wr := hT.low.toBelow (fun k e => by rcases e with rfl | rfl <;> omega) hz4
      have hlr : OpsAt wr W.heap.size A l := HL3.out.below hbB
      have hzr : W.heap.size ≤ wr.heap.size := Nat.le_trans hz4 hbB.size
      obtain ⟨hys, hyl⟩ := same_len hsame
      have HT := Lib.hid hT
      have HS := Lib.hid hsame
      have HBB := Lib.hid hbB
      have hxs3 : xs.length ≤ 300 := by
        have : l.length ≤ 300 := by omega
        omega
      have hxs4 : sumBody xs ≤ 30000 := by
        have := sumBody_le (recsOfOps l) k
        omega
      clear hT hsame hbB
      by_cases hlt : k < l.length
      · obtain ⟨b, o, hA, hbl, q0, q1, hten⟩ := HL3.out.get hlt
        subst hA
        have c0 : wr.cell? ⟨b, o + k * 12, none⟩ = some (.bool l[k].fl) := (HBB.out.cell (p := ⟨_, _, _⟩) hbl).trans q0
        have c1 : wr.cell? ⟨b, o + k * 12 + 1, none⟩ = some (.int .i64 l[k].n) := (HBB.out.cell (p := ⟨_, _, _⟩) hbl).trans q1
        have HTN := Lib.hid (ten_below hten HBB.out hbl)
        have HQ1 := Lib.hid q1
        have HT3 := Lib.hid hten
        clear hlr q0 q1 hten
        have hbr : b < wr.heap.size := by omega
        have hRl : k < (recsOfOps l).length := by simpa [recsOfOps] using hlt
        have hRk : (recsOfOps l)[k] = l[k].x := by simp [recsOfOps]
        have hRs := sumBody_snoc (recsOfOps l) k hRl
        have hRt := sumBody_le (recsOfOps l) (k + 1)
        rw [hRk] at hRs
        clear hRk
        cases hfl : l[k].fl
        · rw [hfl] at c0
          go_wp2_with fail
          have hxb3 := HL3.out.2 _ (List.getElem_mem hlt)
          have hx0 : 0 < l[k].x.r.body.length → ∀ ad, l[k].x.ba = some ad → ad.block < W.heap.size := fun hp ad ha => by
            obtain ⟨b', o', e, hb', _⟩ := hxb3.2 hp
            rw [ha] at e; injection e with e; subst e
            exact hb'
          have HXB := Lib.hid hxb3
          have HX0 := Lib.hid hx0
          have hd : Below wr.heap.size wr wr.drew := (Below.refl _ _).drew
          have TA := Lib.hid (HT.out.below hd)
          have hA := addC_all (p := ⟨s, c, n⟩) l[k].n l[k].x TA.out.cc (by omega) (by omega) ((Reads.more (Reads.below hxb3 (HBB.out.trans (hd.mono hzr))) (by simp; omega))) hx0
          simp only [RecX.cells] at hA
          have HA := Lib.hid hA
          clear hA hxb3 hx0 hd
          obtain ⟨t0, t1, t2, t3, t4, t5, t6, t7, t8, t9⟩ := HTN.out
          go_region_held3 (fun w' => w'.cell? ⟨b, o + k * 12 + 1, none⟩ = some (.int .i64 l[k].n) ∧ w'.cell? ⟨b, o + k * 12 + 2, none⟩ = some (.int .i64 l[k].x.r.shard) ∧ w'.cell? ⟨b, o + k * 12 + 2 + 1, none⟩ = some (.int .i64 l[k].x.r.seq) ∧ w'.cell? ⟨b, o + k * 12 + 2 + 2, none⟩ = some (.int .i64 l[k].x.r.at_) ∧ w'.cell? ⟨b, o + k * 12 + 2 + 3, none⟩ = some (.string l[k].x.r.id) ∧ w'.cell? ⟨b, o + k * 12 + 2 + 4, none⟩ = some (.string l[k].x.r.tenant) ∧ w'.cell? ⟨b, o + k * 12 + 2 + 5, none⟩ = some (.string l[k].x.r.source) ∧ w'.cell? ⟨b, o + k * 12 + 2 + 6, none⟩ = some (.string l[k].x.r.key) ∧ w'.cell? ⟨b, o + k * 12 + 2 + 7, none⟩ = some (.int .i64 l[k].x.r.eat) ∧ w'.cell? ⟨b, o + k * 12 + 2 + 8, none⟩ = some (.string l[k].x.r.cause) ∧ w'.cell? ⟨b, o + k * 12 + 2 + 9, none⟩ = some (.slice l[k].x.ba l[k].x.r.body.length l[k].x.bc))
            (first | go_keep | exact ⟨(hB5.cell (p := ⟨_, _, _⟩) hbl).trans HQ1.out, (hB5.cell (p := ⟨_, _, _⟩) hbl).trans HT3.out.c0, (hB5.cell (p := ⟨_, _, _⟩) hbl).trans HT3.out.c1, (hB5.cell (p := ⟨_, _, _⟩) hbl).trans HT3.out.c2, (hB5.cell (p := ⟨_, _, _⟩) hbl).trans HT3.out.c3, (hB5.cell (p := ⟨_, _, _⟩) hbl).trans HT3.out.c4, (hB5.cell (p := ⟨_, _, _⟩) hbl).trans HT3.out.c5, (hB5.cell (p := ⟨_, _, _⟩) hbl).trans HT3.out.c6, (hB5.cell (p := ⟨_, _, _⟩) hbl).trans HT3.out.c7, (hB5.cell (p := ⟨_, _, _⟩) hbl).trans HT3.out.c8, (hB5.cell (p := ⟨_, _, _⟩) hbl).trans HT3.out.c9⟩)
            (first | (go_at_call 22; refine HA.out.mono ?_; rintro e w5 ⟨V, cV, zs, A2, c2, xs2, f2, n2, er, rfl, hcol5, hch5, hrec5, hrf5, hft5, had5⟩; have T5 := Lib.hid (TA.out.stepC hcol5 hch5 (fun k e => .inl e) hft5); have hB5 : Below W.heap.size w3 w5 := T5.out.low.toBelow (fun k e => by rcases e with rfl | rfl <;> omega) hz4))
          clear t0 t1 t2 t3 t4 t5 t6 t7 t8 t9 HA hcol5 hch5 hft5 c0
          have hbr5 : b < w5.heap.size := by have := hB5.size; omega
          have HB5 := Lib.hid hB5
          have hd5 : Below w5.heap.size w5 w5.drew := (Below.refl _ _).drew
          have TB := Lib.hid (T5.out.below hd5)
          have hz5 : W.heap.size ≤ w5.heap.size := by have := hB5.size; omega
          have hA := addD_all (p := ⟨s, c, n⟩) l[k].n l[k].x TB.out.dd (by omega) (by omega) (Reads.more (Reads.below HXB.out (hB5.trans (hd5.mono hz5))) (by simp; omega)) HX0.out
          simp only [RecX.cells] at hA
          have HA := Lib.hid hA
          have HR5 : Hid (RecsAt w5.drew w5.drew.heap.size V zs) := (hrec5.below hd5).more hd5.size
          have HV5 : Hid (∀ k, rowFoot W.heap.size V zs k → ¬ foot W.heap.size h Ay ys k) := fun k hk => TA.out.apart k (.inr (hrf5 k hk))
          obtain ⟨t0, t1, t2, t3, t4, t5, t6, t7, t8, t9⟩ := ten_below HT3.out hB5 hbl
          have c1' : w5.cell? ⟨b, o + k * 12 + 1, none⟩ = some (.int .i64 l[k].n) := (hB5.cell (p := ⟨_, _, _⟩) hbl).trans HQ1.out
          clear hA hd5 hrec5 hrf5 hB5 c1
          go_wp2_with fail
          go_region_held3 (fun w' => w'.cell? ⟨b, o + k * 12 + 1, none⟩ = some (.int .i64 l[k].n) ∧ w'.cell? ⟨b, o + k * 12 + 2, none⟩ = some (.int .i64 l[k].x.r.shard) ∧ w'.cell? ⟨b, o + k * 12 + 2 + 1, none⟩ = some (.int .i64 l[k].x.r.seq) ∧ w'.cell? ⟨b, o + k * 12 + 2 + 2, none⟩ = some (.int .i64 l[k].x.r.at_) ∧ w'.cell? ⟨b, o + k * 12 + 2 + 3, none⟩ = some (.string l[k].x.r.id) ∧ w'.cell? ⟨b, o + k * 12 + 2 + 4, none⟩ = some (.string l[k].x.r.tenant) ∧ w'.cell? ⟨b, o + k * 12 + 2 + 5, none⟩ = some (.string l[k].x.r.source) ∧ w'.cell? ⟨b, o + k * 12 + 2 + 6, none⟩ = some (.string l[k].x.r.key) ∧ w'.cell? ⟨b, o + k * 12 + 2 + 7, none⟩ = some (.int .i64 l[k].x.r.eat) ∧ w'.cell? ⟨b, o + k * 12 + 2 + 8, none⟩ = some (.string l[k].x.r.cause) ∧ w'.cell? ⟨b, o + k * 12 + 2 + 9, none⟩ = some (.slice l[k].x.ba l[k].x.r.body.length l[k].x.bc))
            (first | go_keep | exact ⟨(hB6.cell (p := ⟨_, _, _⟩) hbl).trans HQ1.out, (hB6.cell (p := ⟨_, _, _⟩) hbl).trans HT3.out.c0, (hB6.cell (p := ⟨_, _, _⟩) hbl).trans HT3.out.c1, (hB6.cell (p := ⟨_, _, _⟩) hbl).trans HT3.out.c2, (hB6.cell (p := ⟨_, _, _⟩) hbl).trans HT3.out.c3, (hB6.cell (p := ⟨_, _, _⟩) hbl).trans HT3.out.c4, (hB6.cell (p := ⟨_, _, _⟩) hbl).trans HT3.out.c5, (hB6.cell (p := ⟨_, _, _⟩) hbl).trans HT3.out.c6, (hB6.cell (p := ⟨_, _, _⟩) hbl).trans HT3.out.c7, (hB6.cell (p := ⟨_, _, _⟩) hbl).trans HT3.out.c8, (hB6.cell (p := ⟨_, _, _⟩) hbl).trans HT3.out.c9⟩)
            (first | (go_at_call 23; refine HA.out.mono ?_; rintro e w6 ⟨V', cV', zs', A3, c3, ys2, f3, n3, er', rfl, hcol6, hch6, hrec6, hrf6, hft6, had6⟩; have T6 := Lib.hid (TB.out.stepD hcol6 hch6 (fun k e => .inl e) hft6); have hB6 : Below W.heap.size w3 w6 := T6.out.low.toBelow (fun k e => by rcases e with rfl | rfl <;> omega) hz4))
          have G6 := Lib.hid (TB.out.given HR5.out HV5.out hch6 (fun k e => .inl e))
          obtain ⟨h1, e2, rfl, rfl, rfl, e3, e4, h2, h3, e7, e8⟩ := ad_fin HS.out had5 had6 hf hnw
          have HH1 := Lib.hid h1
          have HR6 := Lib.hid hrec6
          have HE0 := Lib.hid e2
          clear t0 t1 t2 t3 t4 t5 t6 t7 t8 t9 HA hcol6 hch6 hft6 hrf6 had5 had6 hB6 hrec6 h1 e2 c1'
          go_wp2_with fail
          refine (Same_any zs zs' V V' cV cV' w6 G6.out HR6.out HH1.out (by omega) (by omega)).mono ?_
          rintro e w7 ⟨rfl, hb7⟩
          have TT := T6.out.below hb7
          have e2 := HE0.out
          have HTT := Lib.hid TT
          have hemp : ys2.isEmpty = xs2.isEmpty := by
            have := (same_len e2).2
            cases xs2 <;> cases ys2 <;> simp at this ⊢
          have hdue : dueOf ⟨s, c, n⟩ ys2 f2 = dueOf ⟨s, c, n⟩ xs2 f2 := by unfold dueOf; rw [hemp]
          have hyl2 : ys2.length = xs2.length := (same_len e2).2.symm
          have hx3 : xs2.length ≤ 1000 := by omega
          have HE := Lib.hid e2
          clear TT e2 HS HT TA TB T5 T6 G6 HR6 HH1 HE0 HR5 HV5 HB5 hb7
          go_wp2_with fail
          refine (dueC_any (p := ⟨s, c, n⟩) HTT.out.cc (by omega) e3 hwin).mono ?_
          rintro e w8 ⟨rfl, hb8⟩
          have T8 := Lib.hid (HTT.out.below hb8)
          clear hb8
          go_wp2_with fail
          refine (dueD_any (p := ⟨s, c, n⟩) T8.out.dd (by omega) e3 hwin).mono ?_
          rintro e w9 ⟨rfl, hb9⟩
          have T9 := Lib.hid (T8.out.below hb9)
          clear hb9
          rw [hdue, hemp]
          clear hdue hemp
          generalize dueOf ⟨s, c, n⟩ xs2 f2 = D
          generalize xs2.isEmpty = E
          go_wp2_with fail
          refine (lenC_any T9.out.cc (by omega)).mono ?_
          rintro e w10 ⟨rfl, rfl⟩
          go_wp2_with fail
          refine (lenD_any T9.out.dd (by omega)).mono ?_
          rintro e w10 ⟨rfl, rfl⟩
          rw [hyl2]
          have HN : Hid (St ⟨s, c, n⟩ w3 W.heap.size g h (recsOfOps l) (k + 1) w9) := ⟨_, _, _, _, _, _, _, _, T9.out, HE.out, e3, e4, by omega, by omega⟩
          clear hyl2
          go_wp2_with fail
          go_roundw
          case rel => exact ⟨k + 1, by omega, by go_num, HN.out⟩
          case measure => simp [intOf]; omega
        · rw [hfl] at c0
          go_wp2_with fail
          have T0 := Lib.hid (HT.out.below (Below.refl wr.heap.size wr).drew)
          go_region_held3 (fun w' => w'.cell? ⟨b, o + k * 12 + 1, none⟩ = some (.int .i64 l[k].n))
            (first | go_keep | exact (hB7.cell (p := ⟨_, _, _⟩) hbl).trans HQ1.out | exact (hB6.cell (p := ⟨_, _, _⟩) hbl).trans HQ1.out | exact (hB5.cell (p := ⟨_, _, _⟩) hbl).trans HQ1.out)
            (first | (go_at_call 20; refine (flushC_all (p := ⟨s, c, n⟩) _ T0.out.cc (by omega) hf hwin).mono ?_; rintro e w5 ⟨V, cV, zs, A2, c2, xs2, n2, rfl, hcol5, hch5, hrec5, hrf5, hft5, hfl5⟩; have T5 := Lib.hid (T0.out.stepC hcol5 hch5 (fun k e => e ▸ .inl (.inl rfl)) (fun k hk => .inl (hft5 k hk))); have hB5 : Below W.heap.size w3 w5 := T5.out.low.toBelow (fun k e => by rcases e with rfl | rfl <;> omega) hz4) | (go_at_call 21; refine (flushD_all (p := ⟨s, c, n⟩) _ T5.out.dd (by omega) hf hwin).mono ?_; rintro e w6 ⟨V', cV', zs', A3, c3, ys2, n3, rfl, hcol6, hch6, hrec6, hrf6, hft6, hfl6⟩; have T6 := Lib.hid (T5.out.stepD hcol6 hch6 (fun k e => e ▸ .inl (.inl rfl)) (fun k hk => .inl (hft6 k hk))); have hB6 : Below W.heap.size w3 w6 := T6.out.low.toBelow (fun k e => by rcases e with rfl | rfl <;> omega) hz4; have G6 := Lib.hid (T5.out.given hrec5 (fun k hk => T0.out.apart k (.inr (hrf5 k hk))) hch6 (fun k e => e ▸ .inl (.inl rfl))); have F6 := Lib.hid (fl_fin HS.out hfl5 hfl6 hnw)) | (go_at_call 16; refine (Same_any zs zs' V V' cV cV' w6 G6.out hrec6 F6.out.1 (by have := F6.out.2.2.2.2.1; omega) (by have := F6.out.2.2.2.2.2.1; omega)).mono ?_; rintro e w7 ⟨rfl, hb7⟩; have hB7 : Below W.heap.size w3 w7 := hB6.trans (hb7.mono (by have := hB6.size; omega))))
          obtain ⟨e1, e2, rfl, e4, _, _, e7, e8⟩ := F6.out
          have TT := T6.out.below hb7
          have e3 := hf
          generalize f = f2 at *
          have HTT := Lib.hid TT
          have hemp : ys2.isEmpty = xs2.isEmpty := by
            have := (same_len e2).2
            cases xs2 <;> cases ys2 <;> simp at this ⊢
          have hdue : dueOf ⟨s, c, n⟩ ys2 f2 = dueOf ⟨s, c, n⟩ xs2 f2 := by unfold dueOf; rw [hemp]
          have hyl2 : ys2.length = xs2.length := (same_len e2).2.symm
          have hx3 : xs2.length ≤ 1000 := by omega
          have HE := Lib.hid e2
          clear hcol5 hch5 hrec5 hrf5 hft5 hfl5 hcol6 hch6 hrec6 hrf6 hft6 hfl6 T5 T6 TT G6 F6 T0 hB5 hB6 hB7 hb7 e1 e2 HS HT
          go_wp2_with fail
          refine (dueC_any (p := ⟨s, c, n⟩) HTT.out.cc (by omega) e3 hwin).mono ?_
          rintro e w8 ⟨rfl, hb8⟩
          have T8 := Lib.hid (HTT.out.below hb8)
          clear hb8
          go_wp2_with fail
          refine (dueD_any (p := ⟨s, c, n⟩) T8.out.dd (by omega) e3 hwin).mono ?_
          rintro e w9 ⟨rfl, hb9⟩
          have T9 := Lib.hid (T8.out.below hb9)
          clear hb9
          rw [hdue, hemp]
          clear hdue hemp
          generalize dueOf ⟨s, c, n⟩ xs2 f2 = D
          generalize xs2.isEmpty = E
          go_wp2_with fail
          refine (lenC_any T9.out.cc (by omega)).mono ?_
          rintro e w10 ⟨rfl, rfl⟩
          go_wp2_with fail
          refine (lenD_any T9.out.dd (by omega)).mono ?_
          rintro e w10 ⟨rfl, rfl⟩
          rw [hyl2]
          have HN : Hid (St ⟨s, c, n⟩ w3 W.heap.size g h (recsOfOps l) (k + 1) w9) := ⟨_, _, _, _, _, _, _, _, T9.out, HE.out, e3, e4, by omega, by omega⟩
          clear hyl2
          go_wp2_with fail
          go_roundw
          case rel => exact ⟨k + 1, by omega, by go_num, HN.out⟩
          case measure => simp [intOf]; omega
      · obtain rfl : k = l.length := by omega
        go_wp2_with fail
        refine (awake_any _).mono ?_
        rintro e w7 ⟨rfl, hb7⟩
        go_wp2_with fail
        go_ret
        have := HBB.out.size
        exact ⟨rfl, HLOW.out.trans ((HBB.out.mono (by omega)).trans (hb7.mono (by omega)))⟩
  · refine (newC_bad s c n w0 (bad_E _ hp)).mono ?_
    rintro e w1 ⟨rfl, hb1⟩
    have hz1 := hb1.size
    have f0 : w1.cell? ⟨w.heap.size, 0, none⟩ = some (.int .i64 s) := (hb1.cell (p := ⟨_, _, _⟩) (by show w.heap.size < _; omega)).trans e0
    have f1 : w1.cell? ⟨w.heap.size, 1, none⟩ = some (.int .i64 c) := (hb1.cell (p := ⟨_, _, _⟩) (by show w.heap.size < _; omega)).trans e1
    have f2 : w1.cell? ⟨w.heap.size, 2, none⟩ = some (.int .i64 n) := (hb1.cell (p := ⟨_, _, _⟩) (by show w.heap.size < _; omega)).trans e2
    clear e0 e1 e2
    go_wp2_with fail
    refine (newD_bad s c n w1 (bad_E _ hp)).mono ?_
    rintro e w2 ⟨rfl, hb2⟩
    have hz2 := hb2.size
    go_wp2_with fail
    refine (awake_any _).mono ?_
    rintro e w3 ⟨rfl, hb3⟩
    go_wp2_with fail
    go_ret
    exact ⟨rfl, hlow.trans ((hb0.mono (by omega)).trans ((hb1.mono (by omega)).trans ((hb2.mono (by omega)).trans (hb3.mono (by omega)))))⟩

set_option maxRecDepth 100000 in
theorem batchCollects_lifted (os : Os) (started : os.Started) (H : Type) (enc : TypeId × Value → H) :
    ReturnsInHanded {} Try.checked os 5 .any (Rows.batchCollectsSpec.pre6 enc Try.prog Try.f5 Rows.batchCollectsRow.domain false) (Rows.batchCollectsSpec.post enc Try.prog Try.f5 false true false false) := by
  refine returnsInHanded_of_change (C := Try.checked) Try.own started (by kernel_rfl) Try.func5
    (ChangeSpec.witness6 (enc := enc) (C := Try.checked) false ⟨#[], #[.agg #[.int .i64 0, .int .i64 0, .int .i64 0], .slice none 0 0], []⟩ 8 (by kernel_rfl) (by kernel_rfl) (by kernel_rfl) (by kernel_rfl)) ?_
  intro W base args ds gs before hval0 hW _ _
  have hval : ∀ (j : Nat) t v, Try.f5.params[j]? = some t → args[j]? = some v → Value.okWide Try.prog W .any base t v := hval0
  have hW' := hW
  obtain ⟨p, q, hA0, hV, rfl, hfz, hnd⟩ := hW
  have hA : DataW.TrodAll enc Try.prog W 0 (fun _ => true) true Try.f5.params.toList args.toList ds p := hA0
  have hA2 := hA
  rw [Try.params5] at hA hval
  obtain ⟨v0, v1, d0, d1, p0, p1, rfl, rfl, rfl, h0, h1⟩ := trodAll_two hA
  obtain ⟨rfl, rfl⟩ := trodVars_none hV
  obtain ⟨s, c, n, rfl⟩ := open_pol (hval 0 23 v0 rfl rfl) h0
  obtain ⟨A, ca, l, rfl, hl, hb, _⟩ := open_ops (okWide_slice Try.underlying41 (hval 1 41 v1 rfl rfl)) h1
  clear hA0 hval0
  simp only [List.append_nil] at hW'
  refine (law_collects s c n A ca l W hl hb).mono fun e W' ⟨he, hw⟩ => ?_
  subst he
  refine ⟨_, rfl, _, _, _, [], p0 ++ p1, [], hW', trodAll_mk1 (shut_bool Try.underlying4 true), ?_, rfl, hw.frame _, fun h => by cases h⟩
  refine below_trodAll hw _ _ _ _ ?_ (fun x hx => by simpa using hW'.lt x hx) hA2
  rw [Try.params5]
  intro t ht
  simp only [List.mem_cons, List.not_mem_nil, or_false] at ht
  rcases ht with rfl | rfl
  · exact ⟨by kernel_rfl, of_decide_eq_true (by kernel_rfl)⟩
  · exact ⟨by kernel_rfl, of_decide_eq_true (by kernel_rfl)⟩

theorem batchCollects_holds : Rows.BatchCollectsSaid :=
  OpenClaim.holds_of_wide 5 Try.f5 rfl rfl rfl rfl rfl rfl rfl ⟨rfl, rfl, rfl, rfl, rfl⟩ rfl rfl rfl rfl rfl (by kernel_rfl) Try.func5 (by kernel_rfl)
    (of_decide_eq_true (by kernel_rfl)) (by unfold Func.isWrapper; first | (rw [if_pos (by decide +kernel)]; kernel_rfl) | (rw [if_neg (by decide +kernel)]; exact ⟨rfl, rfl⟩))
    (fun os started H enc _ => batchCollects_lifted os started H enc)
#print axioms batchCollects_holds
end Go.Proofs.Ytfgohjoamifpiaa
