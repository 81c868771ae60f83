/- The reference's Poll. -/
import Derived.Test.YtojghgeemdpmpaaMCM
namespace Go.Proofs.Ytojghgeemdpmpaa
open Go.RowKit
open Go.Sort (grow)
open BO (inB)

theorem rsumBody_sub {a b : List Rec} (h : a.Sublist b) : (a.map fun x => x.body.length).sum ≤ (b.map fun x => x.body.length).sum := by
  induction h with
  | slnil => simp
  | cons x _ ih => simp; omega
  | cons_cons x _ ih => simp; omega
theorem rsumBody_r (l : List RecX) : sumBody l = ((l.map (·.r)).map fun x => x.body.length).sum := by unfold sumBody; rw [List.map_map]; rfl
theorem rsumBody_cand {nx li : Int} {xs l : List RecX} (h : xs.map (·.r) = cand nx li (l.map (·.r))) : sumBody xs ≤ sumBody l := by
  rw [rsumBody_r, rsumBody_r, h]; exact rsumBody_sub (cand_sub _)
theorem MineInv.lit0 (w : World) (g base : Nat) (hg : w.heap.size = g) (hb : base ≤ g) : MineInv (w.alloc (.cells #[] 54)) base (.slice (some ⟨g, 0, none⟩) 0 0) [] := by
  subst hg
  exact ⟨World.ownsRow_lit w #[] 0 hb (Nat.zero_le _) (by simp), by simp, by simp⟩
theorem Ints.none (w : World) : Ints w w.heap.size := fun _ _ h => absurd (block_lt_of_cell h) (Nat.lt_irrefl _)
theorem alR {w : World} (o : Obj) : Below w.heap.size w (w.alloc o) := (Below.refl _ _).alloc (Nat.le_refl _) _
theorem Blk.r5 {w : World} {g : Nat} {t : TypeId} {y0 y1 y2 y3 y4 y5 y6 : Value} (h : Blk w g t #[y0, y1, y2, y3, y4, y5, y6]) (n q a b c : Value) : Blk (((((w.setCell ⟨g, 2, none⟩ n).setCell ⟨g, 1, none⟩ q).setCell ⟨g, 3, none⟩ a).setCell ⟨g, 3, none⟩ b).setCell ⟨g, 4, none⟩ c) g t #[y0, q, n, b, c, y5, y6] := by
  simpa using (((((h.set_ 2 n).set_ 1 q).set_ 3 a).set_ 3 b).set_ 4 c)
theorem Blk.r4 {w : World} {g : Nat} {t : TypeId} {y0 y1 y2 y3 y4 y5 y6 : Value} (h : Blk w g t #[y0, y1, y2, y3, y4, y5, y6]) (n q b c : Value) : Blk ((((w.setCell ⟨g, 2, none⟩ n).setCell ⟨g, 1, none⟩ q).setCell ⟨g, 3, none⟩ b).setCell ⟨g, 4, none⟩ c) g t #[y0, q, n, b, c, y5, y6] := by
  simpa using ((((h.set_ 2 n).set_ 1 q).set_ 3 b).set_ 4 c)
theorem Blk.r3 {w : World} {g : Nat} {t : TypeId} {y0 y1 y2 y3 y4 y5 y6 : Value} (h : Blk w g t #[y0, y1, y2, y3, y4, y5, y6]) (n q b : Value) : Blk (((w.setCell ⟨g, 2, none⟩ n).setCell ⟨g, 1, none⟩ q).setCell ⟨g, 3, none⟩ b) g t #[y0, q, n, b, y4, y5, y6] := by
  simpa using (((h.set_ 2 n).set_ 1 q).set_ 3 b)
set_option maxHeartbeats 16000000 in
set_option maxRecDepth 100000 in
theorem rPoll_any (sh nx fl ac fi wa li p0 p1 p2 now : Int) (A : Option Addr) (ca : Nat) (l : List RecX) (w : World) (hl : RecsAt w w.heap.size A l) (hn : l.length ≤ 1034834473170) (hsb : okB l) :
    Calls Try.prog 8 #[.agg #[.int .i64 sh, .int .i64 nx, .int .i64 fl, .int .i64 ac, .int .i64 fi, .int .i64 wa, .int .i64 li], .agg #[.int .i64 p0, .int .i64 p1, .int .i64 p2], .slice A l.length ca, .int .i64 now] w (PollPost (pollS ⟨sh, nx, fl, ac, fi, wa, li⟩ ⟨p0, p1, p2⟩ (l.map (·.r)) now) w) := by
  have hn0 := Nat.le_refl w.heap.size
  obtain ⟨i1, hi1, hy0, hy1, hy2⟩ := info_parts info39
  have HL0 := Lib.hid hl
  clear hl
  go_enter Try.func8, Try.ntmps8
  go_wp2_with fail
  have bs : Blk ((((w).alloc (.cells #[.int .i64 sh, .int .i64 nx, .int .i64 fl, .int .i64 ac, .int .i64 fi, .int .i64 wa, .int .i64 li] 23)).alloc (.cells #[.int .i64 p0, .int .i64 p1, .int .i64 p2] 25)).alloc (.cells #[.int .i64 0, .int .i64 0, .int .i64 0, .int .i64 0, .int .i64 0, .int .i64 0, .int .i64 0] 23)) (w.heap.size) 23 #[.int .i64 sh, .int .i64 nx, .int .i64 fl, .int .i64 ac, .int .i64 fi, .int .i64 wa, .int .i64 li] := ((Blk.new _ _ _).alloc _).alloc _
  have bp : Blk ((((w).alloc (.cells #[.int .i64 sh, .int .i64 nx, .int .i64 fl, .int .i64 ac, .int .i64 fi, .int .i64 wa, .int .i64 li] 23)).alloc (.cells #[.int .i64 p0, .int .i64 p1, .int .i64 p2] 25)).alloc (.cells #[.int .i64 0, .int .i64 0, .int .i64 0, .int .i64 0, .int .i64 0, .int .i64 0, .int .i64 0] 23)) (w.heap.size + 1) 25 #[.int .i64 p0, .int .i64 p1, .int .i64 p2] := (Blk.new1 _ _ _ _).alloc _
  have br : Blk ((((w).alloc (.cells #[.int .i64 sh, .int .i64 nx, .int .i64 fl, .int .i64 ac, .int .i64 fi, .int .i64 wa, .int .i64 li] 23)).alloc (.cells #[.int .i64 p0, .int .i64 p1, .int .i64 p2] 25)).alloc (.cells #[.int .i64 0, .int .i64 0, .int .i64 0, .int .i64 0, .int .i64 0, .int .i64 0, .int .i64 0] 23)) (w.heap.size + 2) 23 #[.int .i64 0, .int .i64 0, .int .i64 0, .int .i64 0, .int .i64 0, .int .i64 0, .int .i64 0] := Blk.new2 _ _ _ _ _
  have HB1 := Lib.hid (show Below w.heap.size w ((((w).alloc (.cells #[.int .i64 sh, .int .i64 nx, .int .i64 fl, .int .i64 ac, .int .i64 fi, .int .i64 wa, .int .i64 li] 23)).alloc (.cells #[.int .i64 p0, .int .i64 p1, .int .i64 p2] 25)).alloc (.cells #[.int .i64 0, .int .i64 0, .int .i64 0, .int .i64 0, .int .i64 0, .int .i64 0, .int .i64 0] 23)) from (((Below.refl w.heap.size w).alloc (by first | exact Nat.le_refl _ | omega | (simp; done) | (simp; omega)) _).alloc (by first | exact Nat.le_refl _ | omega | (simp; done) | (simp; omega)) _).alloc (by first | exact Nat.le_refl _ | omega | (simp; done) | (simp; omega)) _)
  generalize (((w).alloc (.cells #[.int .i64 sh, .int .i64 nx, .int .i64 fl, .int .i64 ac, .int .i64 fi, .int .i64 wa, .int .i64 li] 23)).alloc (.cells #[.int .i64 p0, .int .i64 p1, .int .i64 p2] 25)).alloc (.cells #[.int .i64 0, .int .i64 0, .int .i64 0, .int .i64 0, .int .i64 0, .int .i64 0, .int .i64 0] 23) = w1 at *
  have hz1 : w.heap.size ≤ w1.heap.size := HB1.out.size
  have HL := Lib.hid ((HL0.out.below HB1.out).more HB1.out.size)
  clear HL0
  have q_bs0 : w1.cell? ⟨w.heap.size, 0, none⟩ = some (.int .i64 sh) := bs.cell 0
  have q_bs1 : w1.cell? ⟨w.heap.size, 1, none⟩ = some (.int .i64 nx) := bs.cell 1
  have q_bs2 : w1.cell? ⟨w.heap.size, 2, none⟩ = some (.int .i64 fl) := bs.cell 2
  have q_bs3 : w1.cell? ⟨w.heap.size, 3, none⟩ = some (.int .i64 ac) := bs.cell 3
  have q_bs4 : w1.cell? ⟨w.heap.size, 4, none⟩ = some (.int .i64 fi) := bs.cell 4
  have q_bs5 : w1.cell? ⟨w.heap.size, 5, none⟩ = some (.int .i64 wa) := bs.cell 5
  have q_bs6 : w1.cell? ⟨w.heap.size, 6, none⟩ = some (.int .i64 li) := bs.cell 6
  have q_bp0 : w1.cell? ⟨w.heap.size + 1, 0, none⟩ = some (.int .i64 p0) := bp.cell 0
  have q_bp1 : w1.cell? ⟨w.heap.size + 1, 1, none⟩ = some (.int .i64 p1) := bp.cell 1
  have q_bp2 : w1.cell? ⟨w.heap.size + 1, 2, none⟩ = some (.int .i64 p2) := bp.cell 2
  refine (rready_any sh nx fl ac fi wa li p0 p1 p2 now A ca l _ HL.out hn).mono ?_
  rintro e w2 ⟨rfl, hb⟩
  have HL2 := Lib.hid ((HL.out.below hb).more hb.size)
  clear HL
  clear q_bs0 q_bs1 q_bs2 q_bs3 q_bs4 q_bs5 q_bs6 q_bp0 q_bp1 q_bp2
  have bs : Blk w2 (w.heap.size) 23 #[.int .i64 sh, .int .i64 nx, .int .i64 fl, .int .i64 ac, .int .i64 fi, .int .i64 wa, .int .i64 li] := bs.on hb
  have bp : Blk w2 (w.heap.size + 1) 25 #[.int .i64 p0, .int .i64 p1, .int .i64 p2] := bp.on hb
  have br : Blk w2 (w.heap.size + 2) 23 #[.int .i64 0, .int .i64 0, .int .i64 0, .int .i64 0, .int .i64 0, .int .i64 0, .int .i64 0] := br.on hb
  have HB2 := Lib.hid ((HB1.out).trans (hb.mono (by omega)))
  have hz2 : w.heap.size ≤ w2.heap.size := HB2.out.size
  clear hb
  by_cases h0 : pollE ⟨sh, nx, fl, ac, fi, wa, li⟩ ⟨p0, p1, p2⟩ (l.map (·.r)) now = 0
  rotate_left
  · have HD := Lib.hid (poll_no (s := ⟨sh, nx, fl, ac, fi, wa, li⟩) (p := ⟨p0, p1, p2⟩) (l := l.map (·.r)) (now := now) rfl h0)
    generalize pollE ⟨sh, nx, fl, ac, fi, wa, li⟩ ⟨p0, p1, p2⟩ (l.map (·.r)) now = n at *
    have hne : (n == 0) = false := beq_eq_false_iff_ne.2 h0
    clear h0
    have q_bs0 : w2.cell? ⟨w.heap.size, 0, none⟩ = some (.int .i64 sh) := bs.cell 0
    have q_bs1 : w2.cell? ⟨w.heap.size, 1, none⟩ = some (.int .i64 nx) := bs.cell 1
    have q_bs2 : w2.cell? ⟨w.heap.size, 2, none⟩ = some (.int .i64 fl) := bs.cell 2
    have q_bs3 : w2.cell? ⟨w.heap.size, 3, none⟩ = some (.int .i64 ac) := bs.cell 3
    have q_bs4 : w2.cell? ⟨w.heap.size, 4, none⟩ = some (.int .i64 fi) := bs.cell 4
    have q_bs5 : w2.cell? ⟨w.heap.size, 5, none⟩ = some (.int .i64 wa) := bs.cell 5
    have q_bs6 : w2.cell? ⟨w.heap.size, 6, none⟩ = some (.int .i64 li) := bs.cell 6
    have q_br0 : w2.cell? ⟨w.heap.size + 2, 0, none⟩ = some (.int .i64 0) := br.cell 0
    have q_br1 : w2.cell? ⟨w.heap.size + 2, 1, none⟩ = some (.int .i64 0) := br.cell 1
    have q_br2 : w2.cell? ⟨w.heap.size + 2, 2, none⟩ = some (.int .i64 0) := br.cell 2
    have q_br3 : w2.cell? ⟨w.heap.size + 2, 3, none⟩ = some (.int .i64 0) := br.cell 3
    have q_br4 : w2.cell? ⟨w.heap.size + 2, 4, none⟩ = some (.int .i64 0) := br.cell 4
    have q_br5 : w2.cell? ⟨w.heap.size + 2, 5, none⟩ = some (.int .i64 0) := br.cell 5
    have q_br6 : w2.cell? ⟨w.heap.size + 2, 6, none⟩ = some (.int .i64 0) := br.cell 6
    have f_br0 : w2.frozen? ⟨w.heap.size + 2, 0, none⟩ = false := br.frozen 0
    have f_br1 : w2.frozen? ⟨w.heap.size + 2, 1, none⟩ = false := br.frozen 1
    have f_br2 : w2.frozen? ⟨w.heap.size + 2, 2, none⟩ = false := br.frozen 2
    have f_br3 : w2.frozen? ⟨w.heap.size + 2, 3, none⟩ = false := br.frozen 3
    have f_br4 : w2.frozen? ⟨w.heap.size + 2, 4, none⟩ = false := br.frozen 4
    have f_br5 : w2.frozen? ⟨w.heap.size + 2, 5, none⟩ = false := br.frozen 5
    have f_br6 : w2.frozen? ⟨w.heap.size + 2, 6, none⟩ = false := br.frozen 6
    go_wp2_with fail
    exact bodyPost_ret (v := .tuple #[.agg #[.int .i64 0, .int .i64 0, .int .i64 0, .int .i64 0, .int .i64 0, .int .i64 0, .int .i64 0], .slice none 0 0, .int .i64 n]) (by simp [results, Try.results8, go_sem, q_br0, q_br1, q_br2, q_br3, q_br4, q_br5, q_br6]) rfl (post_no HD.out (below_set7 HB2.out (H := w.heap.size + 2) (by omega) _ _ _ _ _ _ _))
  have HN := Lib.hid (poll_go h0)
  obtain ⟨he, hc, h256, hord, hfl0, hin⟩ := pollE_ok h0
  rw [h0]
  have h256' : l.length ≤ 256 := by simpa using h256
  have hli : 0 ≤ li := (MS.ok_iff.1 he).1.2.2.2.2.2.2.1
  have hac : 0 ≤ ac ∧ ac ≤ 10 := ⟨(MS.ok_iff.1 he).1.2.2.2.2.2.2.2.2.1, (MS.ok_iff.1 he).1.2.2.2.2.2.2.2.2.2.1⟩
  have HC := Lib.hid hc
  clear h0 he hc h256 hord hfl0 hin
  go_wp2_with fail
  go_loopw [12, 13] (fun v i wr => ∃ (k : Nat) (vv : Value), k ≤ l.length ∧ i = .int .i64 k ∧ vv = v ∧ CandAt w2 nx li l k vv wr) (fun _ i _ => l.length - (intOf i).toNat)
  case atStart => exact ⟨0, _, Nat.zero_le _, rfl, rfl, ⟨(Below.refl _ _).alloc (Nat.le_refl _) _, [], MineInv.lit0 w2 _ _ rfl (Nat.le_refl _), by unfold cand candF; simp⟩⟩
  case round =>
    obtain ⟨k, v, hk, rfl, rfl, hbr, xs, hinv, hxs⟩ := hrel
    have hzr : w2.heap.size ≤ wr.heap.size := hbr.size
    have hxl : xs.length ≤ 256 := by have h1 := congrArg List.length hxs; have h2 := cand_le (nx := nx) (li := li) ((l.take k).map (·.r)); simp at h1 h2; omega
    have hxl2 : xs.length = (cand nx li ((l.take k).map (·.r))).length := by have h1 := congrArg List.length hxs; simpa using h1
    obtain ⟨A', c', rfl⟩ := hinv.shape
    have HLR := Lib.hid (HL2.out.below hbr)
    have HX := Lib.hid hxs
    have HXL := Lib.hid hxl2
    have HB := Lib.hid hbr
    have HI := Lib.hid hinv
    clear hxs hxl2 hbr hinv
    by_cases hlt : k < l.length
    · have bsr := bs.on HB.out
      have q1 : wr.cell? ⟨w.heap.size, 1, none⟩ = some (.int .i64 nx) := bsr.cell 1
      have q6 : wr.cell? ⟨w.heap.size, 6, none⟩ = some (.int .i64 li) := bsr.cell 6
      obtain ⟨b, o, hA, hbl, ⟨c0, c1, c2, c3, c4, c5, c6, c7, c8, c9⟩⟩ := HLR.out.ten hlt
      subst hA
      have hbw : b < wr.heap.size := by omega
      have hgw : w.heap.size < wr.heap.size := bsr.lt
      have hki : (k : Int) < l.length := by omega
      clear bsr
      rcases decide_cases (nx ≤ l[k].r.seq) with ⟨h1, h1b⟩ | ⟨h1, h1b⟩
      · have HNX := Lib.hid h1
        by_cases h2 : li ≠ 0 ∧ li ≤ (xs.length : Int)
        · obtain ⟨h2a, h2b⟩ := h2
          have HO := Lib.hid (HX.out.trans (cand_full1 (nx := nx) hlt h2a (by rw [← HXL.out]; exact h2b)).symm)
          have g1 : (li == 0) = false := beq_eq_false_iff_ne.2 h2a
          have g2 : decide ((xs.length : Int) < li) = false := decide_eq_false (by omega)
          clear h2a h2b
          go_wp2_with fail
          go_quiet (fail)
          go_wp2
          go_roundw
          case rel => exact ⟨k + 1, _, by omega, by go_num, rfl, ⟨HB.out.trans (World.below_drewN' _ _ nq), xs, HI.out.below (World.below_drewN' _ _ nq), HO.out⟩⟩
          case measure => simp [intOf]; omega
        · have HO := Lib.hid (cand_push (li := li) hlt HNX.out hli (by
            rw [← HXL.out]
            by_cases hz : li = 0
            · exact .inl hz
            · right
              have h3 : ¬ li ≤ (xs.length : Int) := fun hh => h2 ⟨hz, hh⟩
              omega))
          have h3 : (li == 0) = true ∨ ((li == 0) = false ∧ decide ((xs.length : Int) < li) = true) := by
            by_cases hz : li = 0
            · left; simp [hz]
            · right; exact ⟨beq_eq_false_iff_ne.2 hz, decide_eq_true (by have h3 : ¬ li ≤ (xs.length : Int) := fun hh => h2 ⟨hz, hh⟩; omega)⟩
          have HBODY := Lib.hid (show BodyAt wr w2.heap.size l[k] from HLR.out.2 _ (List.getElem_mem hlt))
          clear h2
          rcases h3 with g1 | ⟨g1, g2⟩
          all_goals
            go_wp2_with fail
            go_quiet (fail)
            have hinv2 : MineInv (wr.drewN nq) w2.heap.size (.slice A' xs.length c') xs := HI.out.below (World.below_drewN' _ _ nq)
            have hlow2 : Below w2.heap.size w2 (wr.drewN nq) := HB.out.trans (World.below_drewN' _ _ nq)
            have hxb : BodyAt (wr.drewN nq) (wr.drewN nq).heap.size l[k] := (Reads.below HBODY.out (World.below_drewN' _ _ nq)).more hzr
            have hxa : 0 < l[k].r.body.length → ∀ ad, l[k].ba = some ad → (Value.slice A' xs.length c').ownBlock ≠ some ad.block := by
              intro hn ad ha e
              obtain ⟨b', o', e', hb', _⟩ := HBODY.out.2 hn
              rw [ha] at e'
              injection e' with e'
              subst e'
              have h2 := (HI.out.row.lt _ e).1
              simp at h2
              omega
            have HLOW := Lib.hid hlow2
            have HI2 := Lib.hid hinv2
            have HXB := Lib.hid hxb
            have HXA := Lib.hid hxa
            clear hlow2 hinv2 hxb hxa q1 q6
            go_wp2_with (at_builtin; go_must (refine wpList_append_any _ rfl (.tmp 52) (.tmp 57) 28 rfl w2.heap.size 54 i1 _ 10 136 Try.underlying28 hi1 hy0 hy1 hy2 rfl (by decide) (.slice A' xs.length c') xs.length _ rfl (HI2.out.row.alloc _) (wr.heap.size + 1) (some ⟨wr.heap.size, 0, none⟩) 1 1 (RecX.cells l[k]) rfl ⟨rfl, fun _ => ⟨_, _, rfl, by omega, fun j u hu => by have := cells_new_at (w := wr.drewN nq) (e := 54) (g := wr.heap.size) rfl j u hu; rwa [Addr.add_lit] at this⟩⟩ (RecX.oneCell _) (by simp [maxLen]; omega) (by omega) (by simp; omega) ?_); intro v' w3 hown hgr hblk)
            have hb3 : Below w2.heap.size w2 w3 := (HLOW.out.alloc hzr _).grown hgr (by simp; omega) (fun k hk => (HI2.out.row.lt k hk).1)
            go_roundw
            case rel => exact ⟨k + 1, v', by omega, by go_num, rfl, ⟨hb3, xs ++ [l[k]], MineInv.push HI2.out HXB.out rfl HXA.out hown hgr hblk, by rw [List.map_append, HX.out, HO.out]; rfl⟩⟩
            case measure => simp [intOf]; omega
      · have HO := Lib.hid (HX.out.trans (cand_skip (li := li) hlt h1).symm)
        go_wp2_with fail
        go_quiet (fail)
        go_wp2
        go_roundw
        case rel => exact ⟨k + 1, _, by omega, by go_num, rfl, ⟨HB.out.trans (World.below_drewN' _ _ nq), xs, HI.out.below (World.below_drewN' _ _ nq), HO.out⟩⟩
        case measure => simp [intOf]; omega
    · obtain rfl : k = l.length := by omega
      rw [List.take_length] at HX
      have hb := HB.out
      have bs : Blk wr (w.heap.size) 23 #[.int .i64 sh, .int .i64 nx, .int .i64 fl, .int .i64 ac, .int .i64 fi, .int .i64 wa, .int .i64 li] := bs.on hb
      have bp : Blk wr (w.heap.size + 1) 25 #[.int .i64 p0, .int .i64 p1, .int .i64 p2] := bp.on hb
      have br : Blk wr (w.heap.size + 2) 23 #[.int .i64 0, .int .i64 0, .int .i64 0, .int .i64 0, .int .i64 0, .int .i64 0, .int .i64 0] := br.on hb
      have HB3 := Lib.hid ((HB2.out).trans (hb.mono (by omega)))
      have hz3 : w.heap.size ≤ wr.heap.size := HB3.out.size
      clear hb
      have hxb : okB xs := okB_sub (by rw [HX.out]; exact cand_sub _) hsb
      clear HXL HB
      by_cases hx0 : xs.length = 0
      · have hx1 := List.eq_nil_of_length_eq_zero hx0
        have HD := Lib.hid (HN.out.trans (pollG1 (s := ⟨sh, nx, fl, ac, fi, wa, li⟩) (p := ⟨p0, p1, p2⟩) (l := l.map (·.r)) (now := now) (by rw [← HX.out, hx1]; rfl)))
        have g0 : ((xs.length : Int) == 0) = true := by rw [hx0]; rfl
        clear hx1 hx0
        have q_bs0 : wr.cell? ⟨w.heap.size, 0, none⟩ = some (.int .i64 sh) := bs.cell 0
        have q_bs1 : wr.cell? ⟨w.heap.size, 1, none⟩ = some (.int .i64 nx) := bs.cell 1
        have q_bs2 : wr.cell? ⟨w.heap.size, 2, none⟩ = some (.int .i64 fl) := bs.cell 2
        have q_bs3 : wr.cell? ⟨w.heap.size, 3, none⟩ = some (.int .i64 ac) := bs.cell 3
        have q_bs4 : wr.cell? ⟨w.heap.size, 4, none⟩ = some (.int .i64 fi) := bs.cell 4
        have q_bs5 : wr.cell? ⟨w.heap.size, 5, none⟩ = some (.int .i64 wa) := bs.cell 5
        have q_bs6 : wr.cell? ⟨w.heap.size, 6, none⟩ = some (.int .i64 li) := bs.cell 6
        have q_br0 : wr.cell? ⟨w.heap.size + 2, 0, none⟩ = some (.int .i64 0) := br.cell 0
        have q_br1 : wr.cell? ⟨w.heap.size + 2, 1, none⟩ = some (.int .i64 0) := br.cell 1
        have q_br2 : wr.cell? ⟨w.heap.size + 2, 2, none⟩ = some (.int .i64 0) := br.cell 2
        have q_br3 : wr.cell? ⟨w.heap.size + 2, 3, none⟩ = some (.int .i64 0) := br.cell 3
        have q_br4 : wr.cell? ⟨w.heap.size + 2, 4, none⟩ = some (.int .i64 0) := br.cell 4
        have q_br5 : wr.cell? ⟨w.heap.size + 2, 5, none⟩ = some (.int .i64 0) := br.cell 5
        have q_br6 : wr.cell? ⟨w.heap.size + 2, 6, none⟩ = some (.int .i64 0) := br.cell 6
        have f_br0 : wr.frozen? ⟨w.heap.size + 2, 0, none⟩ = false := br.frozen 0
        have f_br1 : wr.frozen? ⟨w.heap.size + 2, 1, none⟩ = false := br.frozen 1
        have f_br2 : wr.frozen? ⟨w.heap.size + 2, 2, none⟩ = false := br.frozen 2
        have f_br3 : wr.frozen? ⟨w.heap.size + 2, 3, none⟩ = false := br.frozen 3
        have f_br4 : wr.frozen? ⟨w.heap.size + 2, 4, none⟩ = false := br.frozen 4
        have f_br5 : wr.frozen? ⟨w.heap.size + 2, 5, none⟩ = false := br.frozen 5
        have f_br6 : wr.frozen? ⟨w.heap.size + 2, 6, none⟩ = false := br.frozen 6
        go_wp2_with fail
        exact bodyPost_ret (v := .tuple #[.agg #[.int .i64 sh, .int .i64 nx, .int .i64 fl, .int .i64 ac, .int .i64 fi, .int .i64 wa, .int .i64 li], .slice none 0 0, .int .i64 0]) (by simp [results, Try.results8, go_sem, q_br0, q_br1, q_br2, q_br3, q_br4, q_br5, q_br6]) rfl (post_no HD.out (below_set7 HB3.out (H := w.heap.size + 2) (by omega) _ _ _ _ _ _ _))
      · have g0 : ((xs.length : Int) == 0) = false := beq_eq_false_iff_ne.2 (by omega)
        have HNE := Lib.hid (show xs ≠ [] by rintro rfl; exact hx0 rfl)
        have HCN := Lib.hid (show cand nx li (l.map (·.r)) ≠ [] by rw [← HX.out]; intro h; exact HNE.out (List.map_eq_nil_iff.1 h))
        clear hx0
        have q_bp0 : wr.cell? ⟨w.heap.size + 1, 0, none⟩ = some (.int .i64 p0) := bp.cell 0
        have q_bp1 : wr.cell? ⟨w.heap.size + 1, 1, none⟩ = some (.int .i64 p1) := bp.cell 1
        have q_bp2 : wr.cell? ⟨w.heap.size + 1, 2, none⟩ = some (.int .i64 p2) := bp.cell 2
        go_wp2_with fail
        refine (rCut_ok p0 p1 p2 A' c' xs _ HC.out HI.out.recs hxb hxl).mono ?_
        rintro e w4 ⟨v, bs2, rfl, hout, hbs, hb⟩
        have hbody : ∀ x ∈ xs, BodyAt w4 w4.heap.size x := fun x hx => Reads.more (Reads.below (HI.out.body x hx) hb) hb.size
        clear q_bp0 q_bp1 q_bp2
        have bs : Blk w4 (w.heap.size) 23 #[.int .i64 sh, .int .i64 nx, .int .i64 fl, .int .i64 ac, .int .i64 fi, .int .i64 wa, .int .i64 li] := bs.on hb
        have bp : Blk w4 (w.heap.size + 1) 25 #[.int .i64 p0, .int .i64 p1, .int .i64 p2] := bp.on hb
        have br : Blk w4 (w.heap.size + 2) 23 #[.int .i64 0, .int .i64 0, .int .i64 0, .int .i64 0, .int .i64 0, .int .i64 0, .int .i64 0] := br.on hb
        have HB4 := Lib.hid ((HB3.out).trans (hb.mono (by omega)))
        have hz4 : w.heap.size ≤ w4.heap.size := HB4.out.size
        clear hb
        obtain ⟨b0, bs', rfl⟩ := cut_some hbs HNE.out
        have HB0 := Lib.hid (show pollB ⟨sh, nx, fl, ac, fi, wa, li⟩ ⟨p0, p1, p2⟩ (l.map (·.r)) = b0.l.map (·.r) from head_eq hbs HX.out)
        obtain ⟨g, c5, rfl, hg1, hg2⟩ := hout.head
        have hown := hout.own b0 (by simp)
        have HR := Lib.hid (show RecsAt w4 w4.heap.size b0.a b0.l from hown.recs (Nat.le_refl _) fun x hx => hbody x (by have : (List.map (·.l) (b0 :: bs')).flatten = xs := (by rw [hbs, cutS_flatten]); rw [← this]; exact List.mem_flatten.2 ⟨b0.l, by simp, hx⟩))
        obtain ⟨g', x0, r0, ha, hg3, hl0, hg4⟩ := hown.first
        have HSQ := Lib.hid (show seqOf (b0.l.map (·.r)) = x0.r.seq by rw [hl0]; rfl)
        have hbl1 : 0 < b0.l.length := hown.1
        have hbl2 : b0.l.length ≤ 1000000 := by have h1 : (List.map (·.l) (b0 :: bs')).flatten.length = xs.length := (by rw [hbs, cutS_flatten]); simp at h1; omega
        rw [ha] at hg2
        generalize hq : x0.r.seq = q at *
        have g1 : ((bs'.length : Int) + 1 == 0) = false := beq_eq_false_iff_ne.2 (by omega)
        have g2 : (0 : Int) < (bs'.length : Int) + 1 := by omega
        have g3 : (0 : Int) < (b0.l.length : Int) := by omega
        have HA := Lib.hid ha
        have HG4 := Lib.hid hg4
        have HG2 := Lib.hid hg2
        clear hbs hbody hown hl0 hq hout hg4 hg2 ha HX HI HNE
        have hlr : w.heap.size + 2 < w4.heap.size := br.lt
        have HGR := Lib.hid (show g ≠ w.heap.size + 2 by intro e; subst e; have := br.cell 0; rw [HG2.out] at this; cases this)
        have HIS := Lib.hid (Ints.none w4)
        have HIR := Lib.hid (Ints.of br)
        have hwg : w.heap.size < w4.heap.size := bs.lt
        have hca : ac = 0 ∨ ac ≠ 0 := by omega
        rcases decide_cases (nx < q) with ⟨hq1, hq1b⟩ | ⟨hq1, hq1b⟩
        · have HT := Lib.hid (by have h := pollT1 (s := ⟨sh, nx, fl, ac, fi, wa, li⟩) (b := b0.l.map (·.r)) (now := now) (.inr (by rw [HSQ.out]; exact hq1)); rw [HSQ.out, List.length_map] at h; exact h)
          have q_bs0 : w4.cell? ⟨w.heap.size, 0, none⟩ = some (.int .i64 sh) := bs.cell 0
          have q_bs1 : w4.cell? ⟨w.heap.size, 1, none⟩ = some (.int .i64 nx) := bs.cell 1
          have q_bs2 : w4.cell? ⟨w.heap.size, 2, none⟩ = some (.int .i64 fl) := bs.cell 2
          have q_bs3 : w4.cell? ⟨w.heap.size, 3, none⟩ = some (.int .i64 ac) := bs.cell 3
          have q_bs4 : w4.cell? ⟨w.heap.size, 4, none⟩ = some (.int .i64 fi) := bs.cell 4
          have q_bs5 : w4.cell? ⟨w.heap.size, 5, none⟩ = some (.int .i64 wa) := bs.cell 5
          have q_bs6 : w4.cell? ⟨w.heap.size, 6, none⟩ = some (.int .i64 li) := bs.cell 6
          have hg4 := HG4.out
          have hg2 := HG2.out
          go_wp2_with fail
          refine (rMCheck_lit sh q (b0.l.length : Int) 1 now wa li _).mono ?_
          rintro e w6 ⟨rfl, hb⟩
          have hbb : Below w4.heap.size w4 w6 := (alR _).trans (hb.mono (by simp))
          have bo : Blk w6 w4.heap.size 23 #[.int .i64 sh, .int .i64 q, .int .i64 (b0.l.length : Int), .int .i64 1, .int .i64 now, .int .i64 wa, .int .i64 li] := (Blk.new _ _ _).on hb
          have br : Blk w6 (w.heap.size + 2) 23 #[.int .i64 0, .int .i64 0, .int .i64 0, .int .i64 0, .int .i64 0, .int .i64 0, .int .i64 0] := br.on hbb
          have ho : Only w4.heap.size (w.heap.size + 2) w4 w6 := (Only.refl _ _ _).below hbb
          have c2 : w6.cell? ⟨g, 0, none⟩ = some (.slice (some ⟨g', 0, none⟩) b0.l.length b0.c) := (hbb.cell (p := ⟨g, 0, none⟩) hg1).trans HG2.out
          have HB9 := Lib.hid (HB4.out.trans (hbb.mono (by omega)))
          have hzw : w4.heap.size < w6.heap.size := bo.lt
          have hgl6 : g < w6.heap.size := by omega
          have HO := Lib.hid ho
          clear hb hbb ho hg4 hg2 q_bs0 q_bs1 q_bs2 q_bs3 q_bs4 q_bs5 q_bs6
          by_cases he : MS.e ⟨sh, q, b0.l.length, 1, now, wa, li⟩ = 0
          rotate_left
          · have HD := Lib.hid (HN.out.trans (pollG3 HCN.out HB0.out HT.out he))
            generalize MS.e ⟨sh, q, b0.l.length, 1, now, wa, li⟩ = n at *
            have hne : (n == 0) = false := beq_eq_false_iff_ne.2 he
            clear he
            have q_bo0 : w6.cell? ⟨w4.heap.size, 0, none⟩ = some (.int .i64 sh) := bo.cell 0
            have q_bo1 : w6.cell? ⟨w4.heap.size, 1, none⟩ = some (.int .i64 q) := bo.cell 1
            have q_bo2 : w6.cell? ⟨w4.heap.size, 2, none⟩ = some (.int .i64 (b0.l.length : Int)) := bo.cell 2
            have q_bo3 : w6.cell? ⟨w4.heap.size, 3, none⟩ = some (.int .i64 1) := bo.cell 3
            have q_bo4 : w6.cell? ⟨w4.heap.size, 4, none⟩ = some (.int .i64 now) := bo.cell 4
            have q_bo5 : w6.cell? ⟨w4.heap.size, 5, none⟩ = some (.int .i64 wa) := bo.cell 5
            have q_bo6 : w6.cell? ⟨w4.heap.size, 6, none⟩ = some (.int .i64 li) := bo.cell 6
            have q_br0 : w6.cell? ⟨w.heap.size + 2, 0, none⟩ = some (.int .i64 0) := br.cell 0
            have q_br1 : w6.cell? ⟨w.heap.size + 2, 1, none⟩ = some (.int .i64 0) := br.cell 1
            have q_br2 : w6.cell? ⟨w.heap.size + 2, 2, none⟩ = some (.int .i64 0) := br.cell 2
            have q_br3 : w6.cell? ⟨w.heap.size + 2, 3, none⟩ = some (.int .i64 0) := br.cell 3
            have q_br4 : w6.cell? ⟨w.heap.size + 2, 4, none⟩ = some (.int .i64 0) := br.cell 4
            have q_br5 : w6.cell? ⟨w.heap.size + 2, 5, none⟩ = some (.int .i64 0) := br.cell 5
            have q_br6 : w6.cell? ⟨w.heap.size + 2, 6, none⟩ = some (.int .i64 0) := br.cell 6
            have f_br0 : w6.frozen? ⟨w.heap.size + 2, 0, none⟩ = false := br.frozen 0
            have f_br1 : w6.frozen? ⟨w.heap.size + 2, 1, none⟩ = false := br.frozen 1
            have f_br2 : w6.frozen? ⟨w.heap.size + 2, 2, none⟩ = false := br.frozen 2
            have f_br3 : w6.frozen? ⟨w.heap.size + 2, 3, none⟩ = false := br.frozen 3
            have f_br4 : w6.frozen? ⟨w.heap.size + 2, 4, none⟩ = false := br.frozen 4
            have f_br5 : w6.frozen? ⟨w.heap.size + 2, 5, none⟩ = false := br.frozen 5
            have f_br6 : w6.frozen? ⟨w.heap.size + 2, 6, none⟩ = false := br.frozen 6
            go_wp2_with fail
            exact bodyPost_ret (v := .tuple #[.agg #[.int .i64 0, .int .i64 0, .int .i64 0, .int .i64 0, .int .i64 0, .int .i64 0, .int .i64 0], .slice none 0 0, .int .i64 2]) (by simp [results, Try.results8, go_sem, q_br0, q_br1, q_br2, q_br3, q_br4, q_br5, q_br6]) rfl (post_no HD.out (below_set7 HB9.out (H := w.heap.size + 2) (by omega) _ _ _ _ _ _ _))
          · have HD := Lib.hid (HN.out.trans (pollG2 HCN.out HB0.out HT.out he))
            rw [he]
            clear he
            have q_bo0 : w6.cell? ⟨w4.heap.size, 0, none⟩ = some (.int .i64 sh) := bo.cell 0
            have q_bo1 : w6.cell? ⟨w4.heap.size, 1, none⟩ = some (.int .i64 q) := bo.cell 1
            have q_bo2 : w6.cell? ⟨w4.heap.size, 2, none⟩ = some (.int .i64 (b0.l.length : Int)) := bo.cell 2
            have q_bo3 : w6.cell? ⟨w4.heap.size, 3, none⟩ = some (.int .i64 1) := bo.cell 3
            have q_bo4 : w6.cell? ⟨w4.heap.size, 4, none⟩ = some (.int .i64 now) := bo.cell 4
            have q_bo5 : w6.cell? ⟨w4.heap.size, 5, none⟩ = some (.int .i64 wa) := bo.cell 5
            have q_bo6 : w6.cell? ⟨w4.heap.size, 6, none⟩ = some (.int .i64 li) := bo.cell 6
            have q_br0 : w6.cell? ⟨w.heap.size + 2, 0, none⟩ = some (.int .i64 0) := br.cell 0
            have q_br1 : w6.cell? ⟨w.heap.size + 2, 1, none⟩ = some (.int .i64 0) := br.cell 1
            have q_br2 : w6.cell? ⟨w.heap.size + 2, 2, none⟩ = some (.int .i64 0) := br.cell 2
            have q_br3 : w6.cell? ⟨w.heap.size + 2, 3, none⟩ = some (.int .i64 0) := br.cell 3
            have q_br4 : w6.cell? ⟨w.heap.size + 2, 4, none⟩ = some (.int .i64 0) := br.cell 4
            have q_br5 : w6.cell? ⟨w.heap.size + 2, 5, none⟩ = some (.int .i64 0) := br.cell 5
            have q_br6 : w6.cell? ⟨w.heap.size + 2, 6, none⟩ = some (.int .i64 0) := br.cell 6
            have f_br0 : w6.frozen? ⟨w.heap.size + 2, 0, none⟩ = false := br.frozen 0
            have f_br1 : w6.frozen? ⟨w.heap.size + 2, 1, none⟩ = false := br.frozen 1
            have f_br2 : w6.frozen? ⟨w.heap.size + 2, 2, none⟩ = false := br.frozen 2
            have f_br3 : w6.frozen? ⟨w.heap.size + 2, 3, none⟩ = false := br.frozen 3
            have f_br4 : w6.frozen? ⟨w.heap.size + 2, 4, none⟩ = false := br.frozen 4
            have f_br5 : w6.frozen? ⟨w.heap.size + 2, 5, none⟩ = false := br.frozen 5
            have f_br6 : w6.frozen? ⟨w.heap.size + 2, 6, none⟩ = false := br.frozen 6
            have n1 : ¬ g = w.heap.size + 1 + 1 := HGR.out
            have n2 : ¬ w.heap.size + 1 + 1 = g := fun h => HGR.out h.symm
            go_wp2_with fail
            go_region
            all_goals (go_wp2_with fail; exact bodyPost_ret (v := .tuple #[.agg #[.int .i64 sh, .int .i64 q, .int .i64 (b0.l.length : Int), .int .i64 1, .int .i64 now, .int .i64 wa, .int .i64 li], .slice (some ⟨g', 0, none⟩) b0.l.length b0.c, .int .i64 0]) (by simp [results, Try.results8, go_sem, q_br0, q_br1, q_br2, q_br3, q_br4, q_br5, q_br6]) rfl (post_yes HD.out (by rw [← HA.out]; exact RecsAt.only HR.out (Nat.le_refl _) ((HO.out.set7 (.inr rfl) _ _ _ _ _ _ _).drew) HIS.out HIR.out) (below_set7 HB9.out (H := w.heap.size + 2) (by omega) _ _ _ _ _ _ _).drew))
        · rcases hca with hc0 | hc0
          · have e1 : (ac + 1 == 1) = true := by rw [hc0]; rfl
            have e2 : ac + 1 = 1 := by omega
            have HE2 := Lib.hid e2
            have HC0 := Lib.hid hc0
            clear e2 hc0
            have HT := Lib.hid (by have h := pollT1 (s := ⟨sh, nx, fl, ac, fi, wa, li⟩) (b := b0.l.map (·.r)) (now := now) (.inl HC0.out); rw [HSQ.out, List.length_map, ← HE2.out] at h; exact h)
            have q_bs0 : w4.cell? ⟨w.heap.size, 0, none⟩ = some (.int .i64 sh) := bs.cell 0
            have q_bs1 : w4.cell? ⟨w.heap.size, 1, none⟩ = some (.int .i64 nx) := bs.cell 1
            have q_bs2 : w4.cell? ⟨w.heap.size, 2, none⟩ = some (.int .i64 fl) := bs.cell 2
            have q_bs3 : w4.cell? ⟨w.heap.size, 3, none⟩ = some (.int .i64 ac) := bs.cell 3
            have q_bs4 : w4.cell? ⟨w.heap.size, 4, none⟩ = some (.int .i64 fi) := bs.cell 4
            have q_bs5 : w4.cell? ⟨w.heap.size, 5, none⟩ = some (.int .i64 wa) := bs.cell 5
            have q_bs6 : w4.cell? ⟨w.heap.size, 6, none⟩ = some (.int .i64 li) := bs.cell 6
            have hg4 := HG4.out
            have hg2 := HG2.out
            go_wp2_with fail
            refine (rMCheck_lit sh q (b0.l.length : Int) (ac + 1) now wa li _).mono ?_
            rintro e w6 ⟨rfl, hb⟩
            have hbb : Below w4.heap.size w4 w6 := (alR _).trans (hb.mono (by simp))
            have bo : Blk w6 w4.heap.size 23 #[.int .i64 sh, .int .i64 q, .int .i64 (b0.l.length : Int), .int .i64 (ac + 1), .int .i64 now, .int .i64 wa, .int .i64 li] := (Blk.new _ _ _).on hb
            have br : Blk w6 (w.heap.size + 2) 23 #[.int .i64 0, .int .i64 0, .int .i64 0, .int .i64 0, .int .i64 0, .int .i64 0, .int .i64 0] := br.on hbb
            have ho : Only w4.heap.size (w.heap.size + 2) w4 w6 := (Only.refl _ _ _).below hbb
            have c2 : w6.cell? ⟨g, 0, none⟩ = some (.slice (some ⟨g', 0, none⟩) b0.l.length b0.c) := (hbb.cell (p := ⟨g, 0, none⟩) hg1).trans HG2.out
            have HB9 := Lib.hid (HB4.out.trans (hbb.mono (by omega)))
            have hzw : w4.heap.size < w6.heap.size := bo.lt
            have hgl6 : g < w6.heap.size := by omega
            have HO := Lib.hid ho
            clear hb hbb ho hg4 hg2 q_bs0 q_bs1 q_bs2 q_bs3 q_bs4 q_bs5 q_bs6
            by_cases he : MS.e ⟨sh, q, b0.l.length, (ac + 1), now, wa, li⟩ = 0
            rotate_left
            · have HD := Lib.hid (HN.out.trans (pollG3 HCN.out HB0.out HT.out he))
              generalize MS.e ⟨sh, q, b0.l.length, (ac + 1), now, wa, li⟩ = n at *
              have hne : (n == 0) = false := beq_eq_false_iff_ne.2 he
              clear he
              have q_bo0 : w6.cell? ⟨w4.heap.size, 0, none⟩ = some (.int .i64 sh) := bo.cell 0
              have q_bo1 : w6.cell? ⟨w4.heap.size, 1, none⟩ = some (.int .i64 q) := bo.cell 1
              have q_bo2 : w6.cell? ⟨w4.heap.size, 2, none⟩ = some (.int .i64 (b0.l.length : Int)) := bo.cell 2
              have q_bo3 : w6.cell? ⟨w4.heap.size, 3, none⟩ = some (.int .i64 (ac + 1)) := bo.cell 3
              have q_bo4 : w6.cell? ⟨w4.heap.size, 4, none⟩ = some (.int .i64 now) := bo.cell 4
              have q_bo5 : w6.cell? ⟨w4.heap.size, 5, none⟩ = some (.int .i64 wa) := bo.cell 5
              have q_bo6 : w6.cell? ⟨w4.heap.size, 6, none⟩ = some (.int .i64 li) := bo.cell 6
              have q_br0 : w6.cell? ⟨w.heap.size + 2, 0, none⟩ = some (.int .i64 0) := br.cell 0
              have q_br1 : w6.cell? ⟨w.heap.size + 2, 1, none⟩ = some (.int .i64 0) := br.cell 1
              have q_br2 : w6.cell? ⟨w.heap.size + 2, 2, none⟩ = some (.int .i64 0) := br.cell 2
              have q_br3 : w6.cell? ⟨w.heap.size + 2, 3, none⟩ = some (.int .i64 0) := br.cell 3
              have q_br4 : w6.cell? ⟨w.heap.size + 2, 4, none⟩ = some (.int .i64 0) := br.cell 4
              have q_br5 : w6.cell? ⟨w.heap.size + 2, 5, none⟩ = some (.int .i64 0) := br.cell 5
              have q_br6 : w6.cell? ⟨w.heap.size + 2, 6, none⟩ = some (.int .i64 0) := br.cell 6
              have f_br0 : w6.frozen? ⟨w.heap.size + 2, 0, none⟩ = false := br.frozen 0
              have f_br1 : w6.frozen? ⟨w.heap.size + 2, 1, none⟩ = false := br.frozen 1
              have f_br2 : w6.frozen? ⟨w.heap.size + 2, 2, none⟩ = false := br.frozen 2
              have f_br3 : w6.frozen? ⟨w.heap.size + 2, 3, none⟩ = false := br.frozen 3
              have f_br4 : w6.frozen? ⟨w.heap.size + 2, 4, none⟩ = false := br.frozen 4
              have f_br5 : w6.frozen? ⟨w.heap.size + 2, 5, none⟩ = false := br.frozen 5
              have f_br6 : w6.frozen? ⟨w.heap.size + 2, 6, none⟩ = false := br.frozen 6
              go_wp2_with fail
              exact bodyPost_ret (v := .tuple #[.agg #[.int .i64 0, .int .i64 0, .int .i64 0, .int .i64 0, .int .i64 0, .int .i64 0, .int .i64 0], .slice none 0 0, .int .i64 2]) (by simp [results, Try.results8, go_sem, q_br0, q_br1, q_br2, q_br3, q_br4, q_br5, q_br6]) rfl (post_no HD.out (below_set7 HB9.out (H := w.heap.size + 2) (by omega) _ _ _ _ _ _ _))
            · have HD := Lib.hid (HN.out.trans (pollG2 HCN.out HB0.out HT.out he))
              rw [he]
              clear he
              have q_bo0 : w6.cell? ⟨w4.heap.size, 0, none⟩ = some (.int .i64 sh) := bo.cell 0
              have q_bo1 : w6.cell? ⟨w4.heap.size, 1, none⟩ = some (.int .i64 q) := bo.cell 1
              have q_bo2 : w6.cell? ⟨w4.heap.size, 2, none⟩ = some (.int .i64 (b0.l.length : Int)) := bo.cell 2
              have q_bo3 : w6.cell? ⟨w4.heap.size, 3, none⟩ = some (.int .i64 (ac + 1)) := bo.cell 3
              have q_bo4 : w6.cell? ⟨w4.heap.size, 4, none⟩ = some (.int .i64 now) := bo.cell 4
              have q_bo5 : w6.cell? ⟨w4.heap.size, 5, none⟩ = some (.int .i64 wa) := bo.cell 5
              have q_bo6 : w6.cell? ⟨w4.heap.size, 6, none⟩ = some (.int .i64 li) := bo.cell 6
              have q_br0 : w6.cell? ⟨w.heap.size + 2, 0, none⟩ = some (.int .i64 0) := br.cell 0
              have q_br1 : w6.cell? ⟨w.heap.size + 2, 1, none⟩ = some (.int .i64 0) := br.cell 1
              have q_br2 : w6.cell? ⟨w.heap.size + 2, 2, none⟩ = some (.int .i64 0) := br.cell 2
              have q_br3 : w6.cell? ⟨w.heap.size + 2, 3, none⟩ = some (.int .i64 0) := br.cell 3
              have q_br4 : w6.cell? ⟨w.heap.size + 2, 4, none⟩ = some (.int .i64 0) := br.cell 4
              have q_br5 : w6.cell? ⟨w.heap.size + 2, 5, none⟩ = some (.int .i64 0) := br.cell 5
              have q_br6 : w6.cell? ⟨w.heap.size + 2, 6, none⟩ = some (.int .i64 0) := br.cell 6
              have f_br0 : w6.frozen? ⟨w.heap.size + 2, 0, none⟩ = false := br.frozen 0
              have f_br1 : w6.frozen? ⟨w.heap.size + 2, 1, none⟩ = false := br.frozen 1
              have f_br2 : w6.frozen? ⟨w.heap.size + 2, 2, none⟩ = false := br.frozen 2
              have f_br3 : w6.frozen? ⟨w.heap.size + 2, 3, none⟩ = false := br.frozen 3
              have f_br4 : w6.frozen? ⟨w.heap.size + 2, 4, none⟩ = false := br.frozen 4
              have f_br5 : w6.frozen? ⟨w.heap.size + 2, 5, none⟩ = false := br.frozen 5
              have f_br6 : w6.frozen? ⟨w.heap.size + 2, 6, none⟩ = false := br.frozen 6
              have n1 : ¬ g = w.heap.size + 1 + 1 := HGR.out
              have n2 : ¬ w.heap.size + 1 + 1 = g := fun h => HGR.out h.symm
              go_wp2_with fail
              go_region
              all_goals (go_wp2_with fail; exact bodyPost_ret (v := .tuple #[.agg #[.int .i64 sh, .int .i64 q, .int .i64 (b0.l.length : Int), .int .i64 (ac + 1), .int .i64 now, .int .i64 wa, .int .i64 li], .slice (some ⟨g', 0, none⟩) b0.l.length b0.c, .int .i64 0]) (by simp [results, Try.results8, go_sem, q_br0, q_br1, q_br2, q_br3, q_br4, q_br5, q_br6]) rfl (post_yes HD.out (by rw [← HA.out]; exact RecsAt.only HR.out (Nat.le_refl _) ((HO.out.set7 (.inr rfl) _ _ _ _ _ _ _).drew) HIS.out HIR.out) (below_set7 HB9.out (H := w.heap.size + 2) (by omega) _ _ _ _ _ _ _).drew))
          · have e1 : (ac + 1 == 1) = false := beq_eq_false_iff_ne.2 (by omega)
            have HC0 := Lib.hid hc0
            clear hc0
            have HT := Lib.hid (by have h := pollT2 (s := ⟨sh, nx, fl, ac, fi, wa, li⟩) (b := b0.l.map (·.r)) (now := now) HC0.out (by rw [HSQ.out]; exact hq1); rw [HSQ.out, List.length_map] at h; exact h)
            have q_bs0 : w4.cell? ⟨w.heap.size, 0, none⟩ = some (.int .i64 sh) := bs.cell 0
            have q_bs1 : w4.cell? ⟨w.heap.size, 1, none⟩ = some (.int .i64 nx) := bs.cell 1
            have q_bs2 : w4.cell? ⟨w.heap.size, 2, none⟩ = some (.int .i64 fl) := bs.cell 2
            have q_bs3 : w4.cell? ⟨w.heap.size, 3, none⟩ = some (.int .i64 ac) := bs.cell 3
            have q_bs4 : w4.cell? ⟨w.heap.size, 4, none⟩ = some (.int .i64 fi) := bs.cell 4
            have q_bs5 : w4.cell? ⟨w.heap.size, 5, none⟩ = some (.int .i64 wa) := bs.cell 5
            have q_bs6 : w4.cell? ⟨w.heap.size, 6, none⟩ = some (.int .i64 li) := bs.cell 6
            have hg4 := HG4.out
            have hg2 := HG2.out
            go_wp2_with fail
            refine (rMCheck_lit sh q (b0.l.length : Int) (ac + 1) fi wa li _).mono ?_
            rintro e w6 ⟨rfl, hb⟩
            have hbb : Below w4.heap.size w4 w6 := (alR _).trans (hb.mono (by simp))
            have bo : Blk w6 w4.heap.size 23 #[.int .i64 sh, .int .i64 q, .int .i64 (b0.l.length : Int), .int .i64 (ac + 1), .int .i64 fi, .int .i64 wa, .int .i64 li] := (Blk.new _ _ _).on hb
            have br : Blk w6 (w.heap.size + 2) 23 #[.int .i64 0, .int .i64 0, .int .i64 0, .int .i64 0, .int .i64 0, .int .i64 0, .int .i64 0] := br.on hbb
            have ho : Only w4.heap.size (w.heap.size + 2) w4 w6 := (Only.refl _ _ _).below hbb
            have c2 : w6.cell? ⟨g, 0, none⟩ = some (.slice (some ⟨g', 0, none⟩) b0.l.length b0.c) := (hbb.cell (p := ⟨g, 0, none⟩) hg1).trans HG2.out
            have HB9 := Lib.hid (HB4.out.trans (hbb.mono (by omega)))
            have hzw : w4.heap.size < w6.heap.size := bo.lt
            have hgl6 : g < w6.heap.size := by omega
            have HO := Lib.hid ho
            clear hb hbb ho hg4 hg2 q_bs0 q_bs1 q_bs2 q_bs3 q_bs4 q_bs5 q_bs6
            by_cases he : MS.e ⟨sh, q, b0.l.length, (ac + 1), fi, wa, li⟩ = 0
            rotate_left
            · have HD := Lib.hid (HN.out.trans (pollG3 HCN.out HB0.out HT.out he))
              generalize MS.e ⟨sh, q, b0.l.length, (ac + 1), fi, wa, li⟩ = n at *
              have hne : (n == 0) = false := beq_eq_false_iff_ne.2 he
              clear he
              have q_bo0 : w6.cell? ⟨w4.heap.size, 0, none⟩ = some (.int .i64 sh) := bo.cell 0
              have q_bo1 : w6.cell? ⟨w4.heap.size, 1, none⟩ = some (.int .i64 q) := bo.cell 1
              have q_bo2 : w6.cell? ⟨w4.heap.size, 2, none⟩ = some (.int .i64 (b0.l.length : Int)) := bo.cell 2
              have q_bo3 : w6.cell? ⟨w4.heap.size, 3, none⟩ = some (.int .i64 (ac + 1)) := bo.cell 3
              have q_bo4 : w6.cell? ⟨w4.heap.size, 4, none⟩ = some (.int .i64 fi) := bo.cell 4
              have q_bo5 : w6.cell? ⟨w4.heap.size, 5, none⟩ = some (.int .i64 wa) := bo.cell 5
              have q_bo6 : w6.cell? ⟨w4.heap.size, 6, none⟩ = some (.int .i64 li) := bo.cell 6
              have q_br0 : w6.cell? ⟨w.heap.size + 2, 0, none⟩ = some (.int .i64 0) := br.cell 0
              have q_br1 : w6.cell? ⟨w.heap.size + 2, 1, none⟩ = some (.int .i64 0) := br.cell 1
              have q_br2 : w6.cell? ⟨w.heap.size + 2, 2, none⟩ = some (.int .i64 0) := br.cell 2
              have q_br3 : w6.cell? ⟨w.heap.size + 2, 3, none⟩ = some (.int .i64 0) := br.cell 3
              have q_br4 : w6.cell? ⟨w.heap.size + 2, 4, none⟩ = some (.int .i64 0) := br.cell 4
              have q_br5 : w6.cell? ⟨w.heap.size + 2, 5, none⟩ = some (.int .i64 0) := br.cell 5
              have q_br6 : w6.cell? ⟨w.heap.size + 2, 6, none⟩ = some (.int .i64 0) := br.cell 6
              have f_br0 : w6.frozen? ⟨w.heap.size + 2, 0, none⟩ = false := br.frozen 0
              have f_br1 : w6.frozen? ⟨w.heap.size + 2, 1, none⟩ = false := br.frozen 1
              have f_br2 : w6.frozen? ⟨w.heap.size + 2, 2, none⟩ = false := br.frozen 2
              have f_br3 : w6.frozen? ⟨w.heap.size + 2, 3, none⟩ = false := br.frozen 3
              have f_br4 : w6.frozen? ⟨w.heap.size + 2, 4, none⟩ = false := br.frozen 4
              have f_br5 : w6.frozen? ⟨w.heap.size + 2, 5, none⟩ = false := br.frozen 5
              have f_br6 : w6.frozen? ⟨w.heap.size + 2, 6, none⟩ = false := br.frozen 6
              go_wp2_with fail
              exact bodyPost_ret (v := .tuple #[.agg #[.int .i64 0, .int .i64 0, .int .i64 0, .int .i64 0, .int .i64 0, .int .i64 0, .int .i64 0], .slice none 0 0, .int .i64 2]) (by simp [results, Try.results8, go_sem, q_br0, q_br1, q_br2, q_br3, q_br4, q_br5, q_br6]) rfl (post_no HD.out (below_set7 HB9.out (H := w.heap.size + 2) (by omega) _ _ _ _ _ _ _))
            · have HD := Lib.hid (HN.out.trans (pollG2 HCN.out HB0.out HT.out he))
              rw [he]
              clear he
              have q_bo0 : w6.cell? ⟨w4.heap.size, 0, none⟩ = some (.int .i64 sh) := bo.cell 0
              have q_bo1 : w6.cell? ⟨w4.heap.size, 1, none⟩ = some (.int .i64 q) := bo.cell 1
              have q_bo2 : w6.cell? ⟨w4.heap.size, 2, none⟩ = some (.int .i64 (b0.l.length : Int)) := bo.cell 2
              have q_bo3 : w6.cell? ⟨w4.heap.size, 3, none⟩ = some (.int .i64 (ac + 1)) := bo.cell 3
              have q_bo4 : w6.cell? ⟨w4.heap.size, 4, none⟩ = some (.int .i64 fi) := bo.cell 4
              have q_bo5 : w6.cell? ⟨w4.heap.size, 5, none⟩ = some (.int .i64 wa) := bo.cell 5
              have q_bo6 : w6.cell? ⟨w4.heap.size, 6, none⟩ = some (.int .i64 li) := bo.cell 6
              have q_br0 : w6.cell? ⟨w.heap.size + 2, 0, none⟩ = some (.int .i64 0) := br.cell 0
              have q_br1 : w6.cell? ⟨w.heap.size + 2, 1, none⟩ = some (.int .i64 0) := br.cell 1
              have q_br2 : w6.cell? ⟨w.heap.size + 2, 2, none⟩ = some (.int .i64 0) := br.cell 2
              have q_br3 : w6.cell? ⟨w.heap.size + 2, 3, none⟩ = some (.int .i64 0) := br.cell 3
              have q_br4 : w6.cell? ⟨w.heap.size + 2, 4, none⟩ = some (.int .i64 0) := br.cell 4
              have q_br5 : w6.cell? ⟨w.heap.size + 2, 5, none⟩ = some (.int .i64 0) := br.cell 5
              have q_br6 : w6.cell? ⟨w.heap.size + 2, 6, none⟩ = some (.int .i64 0) := br.cell 6
              have f_br0 : w6.frozen? ⟨w.heap.size + 2, 0, none⟩ = false := br.frozen 0
              have f_br1 : w6.frozen? ⟨w.heap.size + 2, 1, none⟩ = false := br.frozen 1
              have f_br2 : w6.frozen? ⟨w.heap.size + 2, 2, none⟩ = false := br.frozen 2
              have f_br3 : w6.frozen? ⟨w.heap.size + 2, 3, none⟩ = false := br.frozen 3
              have f_br4 : w6.frozen? ⟨w.heap.size + 2, 4, none⟩ = false := br.frozen 4
              have f_br5 : w6.frozen? ⟨w.heap.size + 2, 5, none⟩ = false := br.frozen 5
              have f_br6 : w6.frozen? ⟨w.heap.size + 2, 6, none⟩ = false := br.frozen 6
              have n1 : ¬ g = w.heap.size + 1 + 1 := HGR.out
              have n2 : ¬ w.heap.size + 1 + 1 = g := fun h => HGR.out h.symm
              go_wp2_with fail
              go_region
              all_goals (go_wp2_with fail; exact bodyPost_ret (v := .tuple #[.agg #[.int .i64 sh, .int .i64 q, .int .i64 (b0.l.length : Int), .int .i64 (ac + 1), .int .i64 fi, .int .i64 wa, .int .i64 li], .slice (some ⟨g', 0, none⟩) b0.l.length b0.c, .int .i64 0]) (by simp [results, Try.results8, go_sem, q_br0, q_br1, q_br2, q_br3, q_br4, q_br5, q_br6]) rfl (post_yes HD.out (by rw [← HA.out]; exact RecsAt.only HR.out (Nat.le_refl _) ((HO.out.set7 (.inr rfl) _ _ _ _ _ _ _).drew) HIS.out HIR.out) (below_set7 HB9.out (H := w.heap.size + 2) (by omega) _ _ _ _ _ _ _).drew))
end Go.Proofs.Ytojghgeemdpmpaa
