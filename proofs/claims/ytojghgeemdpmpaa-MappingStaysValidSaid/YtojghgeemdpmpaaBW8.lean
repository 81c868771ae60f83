/- The walk of the reference's Cut. -/
import Derived.Test.YtojghgeemdpmpaaBW7
namespace Go.Proofs.Ytojghgeemdpmpaa
open Go.RowKit
open Go.Sort (grow)

theorem rfits_out (m r t : Int) (A : Option Addr) (c : Nat) (l : List RecX) (x : RecX) (W : World) (d : Nat) (os : Array Obj) (hl : RecsAt W W.heap.size A l) (hb : sumBody l + x.r.body.length ≤ 904238362656460) (hn : l.length ≤ 1000000) :
    Calls Try.prog 56 #[.slice A l.length c, .agg #[.int .i64 x.r.shard, .int .i64 x.r.seq, .int .i64 x.r.at_, .string x.r.id, .string x.r.tenant, .string x.r.source, .string x.r.key, .int .i64 x.r.eat, .string x.r.cause, .slice x.ba x.r.body.length x.bc], .agg #[.int .i64 m, .int .i64 r, .int .i64 t]] (grow (redrawn W d) os) fun e w' => e = .returned (.bool (fitsB m r l x)) ∧ ∃ p : Regrown, w' = grow (redrawn W p.d) p.os :=
  Calls.regrown_of (rfits_any m r t A c l x _ ((hl.below (below_regrown _ _ _)).more (below_regrown _ _ _).size) hb hn)

theorem ten_below {w w' : World} {b o B : Nat} {x : RecX} (h : Ten w b o x) (hb : Below B w w') (hB : b < B) : Ten w' b o x :=
  ⟨(hb.cell (p := ⟨_, _, _⟩) hB).trans h.c0, (hb.cell (p := ⟨_, _, _⟩) hB).trans h.c1, (hb.cell (p := ⟨_, _, _⟩) hB).trans h.c2, (hb.cell (p := ⟨_, _, _⟩) hB).trans h.c3, (hb.cell (p := ⟨_, _, _⟩) hB).trans h.c4,
   (hb.cell (p := ⟨_, _, _⟩) hB).trans h.c5, (hb.cell (p := ⟨_, _, _⟩) hB).trans h.c6, (hb.cell (p := ⟨_, _, _⟩) hB).trans h.c7, (hb.cell (p := ⟨_, _, _⟩) hB).trans h.c8, (hb.cell (p := ⟨_, _, _⟩) hB).trans h.c9⟩
set_option maxHeartbeats 400000 in
theorem rCut_bad (s c n : Int) (A : Option Addr) (ca : Nat) (l : List RecX) (w : World) (h : checkE ⟨s, c, n⟩ = 2) :
    Calls Try.prog 36 #[.slice A l.length ca, .agg #[.int .i64 s, .int .i64 c, .int .i64 n]] w fun e w' => e = .returned (.tuple #[.slice none 0 0, .int .i64 2]) ∧ Below w.heap.size w w' := by
  have H := Lib.hid h
  clear h
  go_enter Try.func36, Try.ntmps36
  go_wp2_with fail
  refine (rcheck_any s c n _).mono ?_
  rintro e w1 ⟨rfl, hb1⟩
  rw [H.out]
  have hw : Below w.heap.size w w1 := ((Below.refl _ _).alloc (Nat.le_refl _) _).trans (hb1.mono (by simp))
  clear hb1
  go_wp2_with fail
  go_ret2
  exact ⟨rfl, hw⟩
set_option maxHeartbeats 400000 in
theorem rCut_lim (s c n : Int) (A : Option Addr) (ca : Nat) (l : List RecX) (w : World) (h : checkE ⟨s, c, n⟩ = 0) (hl : 256 < l.length) :
    Calls Try.prog 36 #[.slice A l.length ca, .agg #[.int .i64 s, .int .i64 c, .int .i64 n]] w fun e w' => e = .returned (.tuple #[.slice none 0 0, .int .i64 3]) ∧ Below w.heap.size w w' := by
  have H := Lib.hid h
  clear h
  go_enter Try.func36, Try.ntmps36
  go_wp2_with fail
  refine (rcheck_any s c n _).mono ?_
  rintro e w1 ⟨rfl, hb1⟩
  rw [H.out]
  have hw : Below w.heap.size w w1 := ((Below.refl _ _).alloc (Nat.le_refl _) _).trans (hb1.mono (by simp))
  clear hb1
  go_wp2_with fail
  go_ret2
  exact ⟨rfl, hw⟩

set_option maxHeartbeats 1600000 in
theorem rCut_ok (m r n : Int) (A : Option Addr) (ca : Nat) (l : List RecX) (w : World) (h : checkE ⟨m, r, n⟩ = 0) (hl : RecsAt w w.heap.size A l) (hb0 : okB l) (hn : l.length ≤ 256) :
    Calls Try.prog 36 #[.slice A l.length ca, .agg #[.int .i64 m, .int .i64 r, .int .i64 n]] w fun e w' => ∃ (v : Value) (bs : List BatchX), e = .returned (.tuple #[v, .int .i64 0]) ∧ OutInv w' w.heap.size v bs ∧ bs.map (·.l) = cutS m r l ∧ Below w.heap.size w w' := by
  have hb : sumBody l ≤ 904238362656460 := okB_sum hb0 (by omega)
  clear hb0
  have H := Lib.hid h
  clear h
  obtain ⟨i0, hi0, hz0, hz1, hz2⟩ := info_parts info24
  obtain ⟨i1, hi1, hy0, hy1, hy2⟩ := info_parts info39
  go_enter Try.func36, Try.ntmps36
  go_wp2_with fail
  refine (rcheck_any m r n _).mono ?_
  rintro e w1 ⟨rfl, hb1⟩
  rw [H.out]
  obtain ⟨hc1, hf1⟩ := bcell hb1
  have hw1z := hb1.size
  simp only [World.size_alloc] at hc1 hf1 hw1z
  have d0 : w1.cell? ⟨w.heap.size, 0, none⟩ = some (.int .i64 m) := by rw [hc1 _ _ (by omega)]; go_simp
  have d1 : w1.cell? ⟨w.heap.size, 1, none⟩ = some (.int .i64 r) := by rw [hc1 _ _ (by omega)]; go_simp
  have d2 : w1.cell? ⟨w.heap.size, 2, none⟩ = some (.int .i64 n) := by rw [hc1 _ _ (by omega)]; go_simp
  have hw1 : Below w.heap.size w w1 := ((Below.refl _ _).alloc (Nat.le_refl _) _).trans (hb1.mono (by simp))
  have hl1 : RecsAt w1 w.heap.size A l := hl.below hw1
  clear hb1 hc1 hf1 hl
  go_wp2_with fail
  go_loopw [7, 20] (fun v i wr => ∃ (k : Nat) (vv : Value), k ≤ l.length ∧ i = .int .i64 k ∧ vv = v ∧ CutAt w1 m r l k vv wr) (fun _ i _ => l.length - (intOf i).toNat)
  case atStart => exact ⟨0, _, Nat.zero_le _, rfl, rfl, ⟨Below.refl _ _, [], OutInv.nil _ _, rfl⟩⟩
  case round =>
    obtain ⟨k, v, hk, rfl, rfl, hbr, bs, hinv, hbs⟩ := hrel
    have hzr := hbr.size
    have e0 : wr.cell? ⟨w.heap.size, 0, none⟩ = some (.int .i64 m) := (hbr.cell (p := ⟨_, _, _⟩) (by show w.heap.size < _; omega)).trans d0
    have e1 : wr.cell? ⟨w.heap.size, 1, none⟩ = some (.int .i64 r) := (hbr.cell (p := ⟨_, _, _⟩) (by show w.heap.size < _; omega)).trans d1
    have e2 : wr.cell? ⟨w.heap.size, 2, none⟩ = some (.int .i64 n) := (hbr.cell (p := ⟨_, _, _⟩) (by show w.heap.size < _; omega)).trans d2
    have hzw : w.heap.size < wr.heap.size := by omega
    have hlr : RecsAt wr w.heap.size A l := hl1.below (hbr.mono (by omega))
    have HB := Lib.hid hbs
    have hkl : (k : Int) ≤ l.length := by omega
    clear d0 d1 d2 hl1 hbs
    by_cases hlt : k < l.length
    · obtain ⟨b, o, hA, hbl, ⟨c0, c1, c2, c3, c4, c5, c6, c7, c8, c9⟩⟩ := hlr.ten hlt
      subst hA
      have hltI : (k : Int) < l.length := by omega
      have hbz : b < wr.heap.size := by omega
      rcases List.eq_nil_or_concat bs with rfl | ⟨bs', bl, rfl⟩
      · obtain ⟨A', c', rfl⟩ := hinv.shape0
        go_wp2_with fail
        go_quiet (fail)
        go_wp2_with (at_builtin; go_must (refine wpList_append_own _ rfl (.tmp 41) (.tmp 47) 63 rfl w1.heap.size 28 i0 (.slice none 0 0) 1 24 Try.underlying63 hi0 hz0 hz1 hz2 rfl (by decide) (.slice A' 0 c') 0 [] rfl (((hinv.drewN nq).alloc _).alloc _).row ⟨wr.heap.size + 1, 0, none⟩ 1 1 [.slice (some ⟨wr.heap.size, 0, none⟩) 1 1] rfl rfl (cells_new_at (by simp)) (by intro u hu; simp at hu; subst hu; rfl) (by simp [maxLen]) (by omega) (by simp; omega) ?_); intro v' w2 hown hgr _)
        have hb2 : Below w1.heap.size w1 w2 := ((hbr.trans (World.below_drewN' _ _ nq)).alloc (by simp; omega) _ |>.alloc (by simp; omega) _).grown hgr (by simp; omega) (fun k hk => (hinv.row.lt k hk).1)
        go_roundw
        case rel => exact ⟨k + 1, v', by omega, by go_num, rfl, ⟨hb2, _, OutInv.push (bs := []) (x := l[k]) (hinv.drewN nq) (by simp; omega) (by simp) rfl hown hgr, by rw [cutS_snoc m r l k hlt, ← HB.out]; rfl⟩⟩
        case measure => simp [intOf]; omega
      · rw [List.concat_eq_append] at hinv HB
        obtain ⟨g, cc, rfl, hg1, hg2, hg3, hcell0, hfz⟩ := hinv.shape1
        have hcell : wr.cell? ⟨g, bs'.length, none⟩ = some (.slice bl.a bl.l.length bl.c) := hcell0
        have hbs := HB.out
        rw [List.map_append, List.map_singleton] at hbs
        obtain ⟨p1, p2, p3⟩ := cut_part hlt hbs
        have hO : RecsAt wr wr.heap.size bl.a bl.l := (hinv.own bl (by simp)).recs (Nat.le_refl _) fun x hx => Reads.more (hlr.2 x (p1 x hx)) (by omega)
        have HOW := Lib.hid hO
        have HB2 := Lib.hid hbs
        have HLR := Lib.hid hlr
        clear hO hbs p1 hlr hcell0
        have hk0 : bs'.length ≤ 1000000 := by
          have h1 := hinv.len_le
          rw [HB.out, cutS_flatten, List.length_append] at h1
          have h2 := List.length_take_le k l
          have h3 := List.length_take_le' k l
          omega
        have g0 : ((bs'.length : Int) + 1 == 0) = false := beq_eq_false_iff_ne.2 (by omega)
        have q4 : (bs'.length : Int) < bs'.length + 1 := by omega
        have g1 : IntKind.i64.wrap ((bs'.length : Int) + 1 - 1) = bs'.length := by rw [IntWalk.i64_in _ (by omega)]; omega
        have g2 : IntKind.i64.wrap (bs'.length : Int) = bs'.length := IntWalk.i64_in _ (by omega)
        have HT := Lib.hid (Ten.mk c0 c1 c2 c3 c4 c5 c6 c7 c8 c9)
        by_cases hF : fitsB m r bl.l l[k] = true
        · go_wp2_with fail
          refine wp_region_quiet_below (by kernel_rfl) (by kernel_rfl) ?_
          repeat (go_big_quiet_step ((go_at_call 56; go_must (exact rfits_out m r n bl.a bl.c bl.l l[k] wr _ _ HOW.out (by omega) (by omega)))))
          refine wpQuiet_nil ?_
          intro _ hw'
          obtain ⟨⟨dq, osq⟩, hw''⟩ := hw'
          subst hw''
          have hbq := below_regrown wr dq osq
          generalize grow (redrawn wr dq) osq = W2 at *
          have HT2 := Lib.hid (ten_below HT.out hbq hbz)
          have hinv2 := hinv.below hbq
          have q1 : W2.cell? ⟨g, bs'.length, none⟩ = some (.slice bl.a bl.l.length bl.c) := (hbq.cell (p := ⟨_, _, _⟩) hg2).trans hcell
          have q2 : g < W2.heap.size := Nat.lt_of_lt_of_le hg2 hbq.size
          have q3 : b < W2.heap.size := Nat.lt_of_lt_of_le hbz hbq.size
          have HL := Lib.hid (hbr.trans (hbq.mono hzr))
          have q5 : w1.heap.size ≤ W2.heap.size := Nat.le_trans hzr hbq.size
          clear c0 c1 c2 c3 c4 c5 c6 c7 c8 c9 e0 e1 e2 hcell g0 hfz
          obtain ⟨t0, t1, t2, t3, t4, t5, t6, t7, t8, t9⟩ := HT2.out
          have HR : Hid (Reads ((W2.drew).alloc (.cells l[k].cells.toArray 54)) (W2.heap.size + 1) 10 (some ⟨W2.heap.size, 0, none⟩) 1 l[k].cells) := ⟨rfl, fun _ => ⟨_, _, rfl, by omega, fun j u hu => by have := cells_new_at (w := W2.drew) (e := 54) (g := W2.heap.size) rfl j u hu; rwa [Addr.add_lit] at this⟩⟩
          go_wp2_with fail
          go_region_law (refine step_append_any _ rfl (.tmp 56) (.tmp 61) 28 rfl w1.heap.size 54 i1 _ 10 136 Try.underlying28 hi1 hy0 hy1 hy2 rfl (by decide) (.slice bl.a bl.l.length bl.c) bl.l.length bl.flat (by simp [Act.eval]) ((hinv2.drew.alloc _).own bl (by simp)).2 (W2.heap.size + 1) (some ⟨W2.heap.size, 0, none⟩) 1 1 l[k].cells (by simp [Act.eval]) HR.out (RecX.oneCell _) (by simp [maxLen]; omega) (by omega) (by simp; omega) ?_; intro v' w3 hown hgr hblk; obtain ⟨⟨a3, c3, hv3⟩, hc3, hf3⟩ := hinv2.drew.grow_cell hown hgr; rw [hv3])
          all_goals
            have hlow : Below w1.heap.size w1 w3 := ((HL.out.drew).alloc (by simp; omega) _).grown hgr (by simp; omega) (fun k hk => ((hinv2.own bl (by simp)).2.lt k hk).1)
            have HX := Lib.hid hv3
            clear hv3
            go_wp2
            go_roundw
            case rel => exact ⟨k + 1, _, by omega, by go_num, rfl, ⟨hlow.setCell (p := ⟨_, _, _⟩) hg1 _, _, OutInv.grow hinv2.drew rfl hown hgr hblk HX.out, by rw [cutS_snoc m r l k hlt, ← HB2.out, cutStep_yes _ _ _ _ _ hF]; simp⟩⟩
            case measure => simp [intOf]; omega
        · have hF' : fitsB m r bl.l l[k] = false := by simpa using hF
          clear hF
          go_wp2_with fail
          refine wp_region_quiet_below (by kernel_rfl) (by kernel_rfl) ?_
          repeat (go_big_quiet_step ((go_at_call 56; go_must (exact rfits_out m r n bl.a bl.c bl.l l[k] wr _ _ HOW.out (by omega) (by omega)))))
          refine wpQuiet_nil ?_
          intro _ hw'
          obtain ⟨⟨dq, osq⟩, hw''⟩ := hw'
          subst hw''
          have hbq := below_regrown wr dq osq
          generalize grow (redrawn wr dq) osq = W2 at *
          have HT2 := Lib.hid (ten_below HT.out hbq hbz)
          have hinv2 := hinv.below hbq
          have HL := Lib.hid (hbr.trans (hbq.mono hzr))
          have q5 : w1.heap.size ≤ W2.heap.size := Nat.le_trans hzr hbq.size
          clear c0 c1 c2 c3 c4 c5 c6 c7 c8 c9 e0 e1 e2 hcell g0 hfz
          obtain ⟨t0, t1, t2, t3, t4, t5, t6, t7, t8, t9⟩ := HT2.out
          have hrow2 := ((hinv2.alloc (.cells l[k].cells.toArray 54)).alloc (.cells #[.slice (some ⟨W2.heap.size, 0, none⟩) 1 1] 28)).row
          simp only [List.length_append, List.length_singleton] at hrow2
          go_wp2_with (at_builtin; go_must (refine wpList_append_own _ rfl (.tmp 41) (.tmp 47) 63 rfl w1.heap.size 28 i0 (.slice none 0 0) 1 24 Try.underlying63 hi0 hz0 hz1 hz2 rfl (by decide) (.slice (some ⟨g, 0, none⟩) (bs'.length + 1) cc) (bs'.length + 1) _ rfl hrow2 ⟨W2.heap.size + 1, 0, none⟩ 1 1 [.slice (some ⟨W2.heap.size, 0, none⟩) 1 1] rfl rfl (cells_new_at (by simp)) (by intro u hu; simp at hu; subst hu; rfl) (by simp [maxLen]; omega) (by omega) (by simp; omega) ?_); intro v' w2 hown hgr _)
          have hb2 : Below w1.heap.size w1 w2 := (((HL.out).alloc (by omega) _).alloc (by simp; omega) _).grown hgr (by simp; omega) (fun k hk => (hinv2.row.lt k hk).1)
          go_roundw
          case rel => exact ⟨k + 1, v', by omega, by go_num, rfl, ⟨hb2, _, OutInv.push (bs := bs' ++ [bl]) (x := l[k]) hinv2 (by omega) rfl (by simp) hown hgr, by rw [cutS_snoc m r l k hlt, ← HB2.out, cutStep_no _ _ _ _ _ hF']; simp⟩⟩
          case measure => simp [intOf]; omega
    · obtain rfl : k = l.length := by omega
      have hbs := HB.out
      rw [List.take_length] at hbs
      obtain ⟨A', c', rfl⟩ := hinv.shape
      go_wp2
      go_ret2
      refine ⟨_, bs, rfl, ⟨?_, fun b hb => ⟨(hinv.own b hb).1, ?_⟩, hinv.apart⟩, hbs, hw1.trans (hbr.mono (by omega))⟩
      · exact own_base hinv.row (by omega)
      · exact own_base (hinv.own b hb).2 (by omega)
end Go.Proofs.Ytojghgeemdpmpaa
