/- The reference's Send. -/
import Derived.Test.YtbofclohnmojmaaGreatDoorRD3
namespace Go.Proofs.YtbofclohnmojmaaGreatDoor
open Go.RowKit
open Go.Sort (grow)

def SdPostR (w : World) (B q : Nat) (A A' : Option Addr) (s : QS) (x : Ev) (now : Int) (e : Ending) (w' : World) : Prop :=
  (clkE s.now now ≠ 0 ∧ e = .returned (.int .i64 (clkE s.now now)) ∧ RTo w B q A A' s w') ∨
  (clkE s.now now = 0 ∧ ∃ s1 Ay cy, AccR s now s1 ∧ e = .returned (.int .i64 (sndE s1 x)) ∧ RTo w B q A A' (sndS s1 x now Ay cy) w')
def PushLMidR (w wx : World) (B q : Nat) (A A' : Option Addr) (c' : Nat) (s : QS) (x : Ev) (now : Int) : Prop := ∃ Ay cy A2 c2, RQ wx B q A2 c2 A' c' { s with l := s.l ++ [⟨{ x with A := Ay, cp := cy }, now, 0, false, s.arr⟩] } ∧ Chg (fun k => k = q ∨ A.map (·.block) = some k) w wx ∧ ∀ k, A2.map (·.block) = some k → A.map (·.block) = some k ∨ w.heap.size ≤ k
theorem pushL_midR {w5 w6 w7 : World} {B q c c' c4 : Nat} {A A' A4 : Option Addr} {s : QS} {x : Ev} {now : Int} {Ay : Option Addr} {cy : Nat} {v' : Value} {o : Obj} (hq : RQ w6 B q A c A' c' s) (hb : Below w5.heap.size w5 w6) (hev : EvQ w6 w5.heap.size { x with A := Ay, cp := cy }) (hB : B ≤ w5.heap.size)
    (hown : w7.ownsRow B 78 10 v' (s.l.length + 1) (s.l.flatMap En.rcells ++ (⟨{ x with A := Ay, cp := cy }, now, 0, false, s.arr⟩ : En).rcells)) (hcg : Chg (fun k => A.map (·.block) = some k) w6 w7) (hblk : v'.ownBlock = (Value.slice A s.l.length c).ownBlock ∨ v'.ownBlock = some (w6.alloc o).heap.size) (hv : v' = .slice A4 (s.l.length + 1) c4) :
    PushLMidR w5 (w7.setCell ⟨q, 2, none⟩ (.slice A4 (s.l.length + 1) c4)) B q A A' c' s x now := by
  subst hv
  obtain ⟨A5, c5, e5, h1, h2, h3⟩ := RQ.pushL hq (x := ⟨{ x with A := Ay, cp := cy }, now, 0, false, s.arr⟩) (hev.base hB) hown hcg (hblk.imp id (fun h => ⟨_, h, by simp⟩))
  exact ⟨Ay, cy, A5, c5, h1, (Chg.of_below hb).trans h2 (fun _ _ h => h), fun k hk => (h3 k hk).imp id (fun h => Nat.le_trans hb.size h)⟩
theorem built_it (x : Ev) (Ay : Option Addr) (cy : Nat) (now : Int) (W : World) : (Instr.build 78 #[(0, .agg #[.string x.id, .string x.tn, .string x.src, .string x.key, .int .i64 x.at_, .string x.cause, .slice Ay x.body.length cy]), (1, .int .i64 now)]).run Tryz.prog W = .ok (.agg #[.string x.id, .string x.tn, .string x.src, .string x.key, .int .i64 x.at_, .string x.cause, .slice Ay x.body.length cy, .int .i64 now, .int .i64 0, .bool false]) W := run_build W _ _ _ (by kernel_rfl)
theorem reads_new10 (W : World) (T : TypeId) (x0 x1 x2 x3 x4 x5 x6 x7 x8 x9 : Value) : Reads (W.alloc (.cells #[x0, x1, x2, x3, x4, x5, x6, x7, x8, x9] T)) (W.heap.size + 1) 10 (some ⟨W.heap.size, 0, none⟩) 1 [x0, x1, x2, x3, x4, x5, x6, x7, x8, x9] :=
  ⟨rfl, fun _ => ⟨_, _, rfl, by omega, fun j u hu => by have := cells_new_at (w := W) (cs := [x0, x1, x2, x3, x4, x5, x6, x7, x8, x9]) (e := T) (g := W.heap.size) rfl j u hu; rwa [Addr.add_lit] at this⟩⟩
/-- A body that a call on the queue leaves alone. -/
theorem EvIn.stayR {w : World} {B q c c' : Nat} {A A' : Option Addr} {s : QS} {x : Ev} (hB : B ≤ w.heap.size) (hQ : RQ w B q A c A' c' s) (hx : EvIn w B x) : EvStay w q A A' x := fun _ hc =>
  have hbl := hc.toBelow (B := B) (fun k hk => (hQ.foot_lt k hk).1) hB
  (hx.keep hbl).more (Nat.le_trans hB hbl.size)
section
variable {w : World} {B q c c' : Nat} {A A' : Option Addr} {s : QS}
attribute [local go_sem ↓] built_it
set_option maxHeartbeats 16000000 in
set_option maxRecDepth 20000 in
theorem rSend_any (hB : B ≤ w.heap.size) (hQ : RQ w B q A c A' c' s) (hok : s.ok) (x : Ev) (hx : EvStay w q A A' x) (hs : evB x) (now : Int) (hX : LaidB w B) :
    Calls Tryz.prog 33 #[.pointer (some ⟨q, 0, none⟩), .agg #[.string x.id, .string x.tn, .string x.src, .string x.key, .int .i64 x.at_, .string x.cause, .slice x.A x.body.length x.cp], .int .i64 now] w (SdPostR w B q A A' s x now) := by
  have hql := hQ.blk.lt
  have HQ := Lib.hid hQ
  have HK := Lib.hid hok
  have HX := Lib.hid hx
  have HS := Lib.hid hs
  have HL := Lib.hid hX
  have HBW := Lib.hid hB
  clear hQ hok hx hs hX hB
  go_enter Tryz.func33, Tryz.ntmps33
  go_upto_region 1 with fail
  have hb0 := al_new w (.cells #[.string x.id, .string x.tn, .string x.src, .string x.key, .int .i64 x.at_, .string x.cause, .slice x.A x.body.length x.cp] 40)
  have be := Blk.new w 40 #[.string x.id, .string x.tn, .string x.src, .string x.key, .int .i64 x.at_, .string x.cause, .slice x.A x.body.length x.cp]
  have HQ0 := Lib.hid (HQ.out.below hb0)
  have HX0 := Lib.hid (show ∀ w', Chg (ff q A A') (w.alloc (.cells #[.string x.id, .string x.tn, .string x.src, .string x.key, .int .i64 x.at_, .string x.cause, .slice x.A x.body.length x.cp] 40)) w' → EvIn w' w'.heap.size x from fun w' hc => HX.out w' ((Chg.of_below hb0).trans hc (fun _ _ h => h)))
  have HL0 := Lib.hid (HL.out.on (hb0.mono HBW.out))
  have HB0 := Lib.hid hb0
  have hz0 : w.heap.size < (w.alloc (.cells #[.string x.id, .string x.tn, .string x.src, .string x.key, .int .i64 x.at_, .string x.cause, .slice x.A x.body.length x.cp] 40)).heap.size := be.lt
  clear hb0
  generalize w.alloc (.cells #[.string x.id, .string x.tn, .string x.src, .string x.key, .int .i64 x.at_, .string x.cause, .slice x.A x.body.length x.cp] 40) = w0 at *
  go_wp2_with fail
  refine (raccept_any (Nat.le_trans HBW.out (Nat.le_of_lt hz0)) HQ0.out HK.out now).mono ?_
  rintro e w1 (⟨hc, rfl, hq1⟩ | ⟨hc, rfl, s1, hacc, A2, c2, A3, c3, hq1, hch, hfr⟩)
  · have d1 : (clkE s.now now != 0) = true := by simpa using hc
    have HC := Lib.hid hc
    have HQ1 := Lib.hid hq1
    clear hc hq1
    go_wp2_with fail
    go_ret
    exact .inl ⟨HC.out, rfl, RTo.trans (w1 := w0) (Chg.of_below HB0.out) (fun _ h => .inl h) HQ1.out⟩
  · have HC := Lib.hid hc
    have HAC := Lib.hid hacc
    have HK1 := Lib.hid (hacc.ok HK.out ⟨(clk0 HC.out).1, (clk0 HC.out).2.1⟩)
    have hfoot := HQ.out.foot_lt
    have b1 := hch.blk be (fun hk => by have := (hfoot _ hk).2; omega)
    have HCH := Lib.hid hch
    have HFR := Lib.hid hfr
    have HQ1 := Lib.hid hq1
    have hbl := hch.toBelow (B := B) (fun k hk => (hfoot k hk).1) (Nat.le_trans HBW.out (Nat.le_of_lt hz0))
    have HX1 := Lib.hid (show EvIn w1 w1.heap.size x from HX0.out w1 hch)
    have HL1 := Lib.hid (HL0.out.on hbl)
    have hz1 : w0.heap.size ≤ w1.heap.size := hbl.size
    clear hc hacc hq1 hch hfr hfoot hbl be
    have e0 : w1.cell? ⟨w.heap.size, 0, none⟩ = some (.string x.id) := b1.cell 0
    have e1 : w1.cell? ⟨w.heap.size, 1, none⟩ = some (.string x.tn) := b1.cell 1
    have e2 : w1.cell? ⟨w.heap.size, 2, none⟩ = some (.string x.src) := b1.cell 2
    have e3 : w1.cell? ⟨w.heap.size, 3, none⟩ = some (.string x.key) := b1.cell 3
    have e4 : w1.cell? ⟨w.heap.size, 4, none⟩ = some (.int .i64 x.at_) := b1.cell 4
    have e5 : w1.cell? ⟨w.heap.size, 5, none⟩ = some (.string x.cause) := b1.cell 5
    have e6 : w1.cell? ⟨w.heap.size, 6, none⟩ = some (.slice x.A x.body.length x.cp) := b1.cell 6
    go_wp2_with fail
    refine (reCheck_any x w1 HX1.out HS.out HL1.out.at_).mono ?_
    rintro e w2 ⟨rfl, hb⟩
    have HQ2 := Lib.hid (HQ1.out.below hb)
    have b2 := b1.on hb
    have HB2 := Lib.hid hb
    have HX2 := Lib.hid (HX1.out.on hb)
    have hz2 : w1.heap.size ≤ w2.heap.size := hb.size
    clear hb b1 e0 e1 e2 e3 e4 e5 e6
    by_cases he : chkE x = 0
    · have HE0 := Lib.hid he
      rw [he]
      clear he
      have e0 : w2.cell? ⟨w.heap.size, 0, none⟩ = some (.string x.id) := b2.cell 0
      have hlen := HK1.out.len
      go_wp2_with fail
      refine (rhas_any HQ2.out (by omega) (by omega) x.id).mono ?_
      rintro e wq ⟨rfl, hq⟩
      obtain rfl := hq.symm
      cases hd : (hasL s1.l x.id || hasD s1.d x.id) with
      | true =>
        have HE := Lib.hid (show (6 : Int) = sndE s1 x by unfold sndE; rw [if_neg (by rw [HE0.out]; decide), Bool.or_comm, if_pos hd])
        clear hd
        go_wp2_with fail
        go_ret
        refine .inr ⟨HC.out, s1, none, 0, HAC.out, ret_int HE.out, ?_⟩
        have e2 : sndS s1 x now none 0 = s1 := by unfold sndS; rw [← HE.out, if_neg (by decide)]
        rw [e2]
        exact RTo.trans (w1 := w1) ((Chg.of_below HB0.out).trans HCH.out (fun _ _ h => h)) (fun k hk => (HFR.out k hk).imp id (fun h => by omega)) (HQ1.out.to HB2.out)
      | false =>
        have HNO := Lib.hid (show ¬ (hasD s1.d x.id || hasL s1.l x.id) = true by rw [Bool.or_comm, hd]; decide)
        have q2 : w2.cell? ⟨q, 2, none⟩ = some (.slice A2 s1.l.length c2) := HQ2.out.blk.cell 2
        have q3 : w2.cell? ⟨q, 3, none⟩ = some (.slice A3 s1.d.length c3) := HQ2.out.blk.cell 3
        have HWS := Lib.hid (w64 (x := (s1.l.length : Int) + s1.d.length) (by omega) (by omega))
        clear hd e0
        by_cases hful : 256 ≤ s1.l.length + s1.d.length
        · have HE := Lib.hid (show (3 : Int) = sndE s1 x by unfold sndE; rw [if_neg (by rw [HE0.out]; decide), if_neg HNO.out, if_pos hful])
          have d1 : decide ((256 : Int) ≤ (s1.l.length : Int) + s1.d.length) = true := decide_eq_true (by omega)
          obtain ⟨ws1, ws2⟩ := HWS.out
          go_wp2_with fail
          go_quiet (fail)
          go_wp2_with fail
          go_ret
          refine .inr ⟨HC.out, s1, none, 0, HAC.out, ret_int HE.out, ?_⟩
          have e2 : sndS s1 x now none 0 = s1 := by unfold sndS; rw [← HE.out, if_neg (by decide)]
          rw [e2]
          exact RTo.trans (w1 := w1) ((Chg.of_below HB0.out).trans HCH.out (fun _ _ h => h)) (fun k hk => (HFR.out k hk).imp id (fun h => by clear ws1 ws2; omega)) (HQ1.out.to (HB2.out.trans ((below_drewN' _ _ _).mono hz2)))
        · have HE := Lib.hid (show (0 : Int) = sndE s1 x by unfold sndE; rw [if_neg (by rw [HE0.out]; decide), if_neg HNO.out, if_neg hful])
          have d1 : decide ((256 : Int) ≤ (s1.l.length : Int) + s1.d.length) = false := decide_eq_false (by omega)
          have HLEN := Lib.hid (show s1.l.length ≤ 256 by omega)
          obtain ⟨ws1, ws2⟩ := HWS.out
          go_wp2_with fail
          go_quiet (fail)
          have hb5 := below_drewN' w2.heap.size w2 nq
          have HQ5 := Lib.hid (HQ2.out.below hb5)
          have b5 := b2.on hb5
          have HX5 := Lib.hid (show EvIn (w2.drewN nq).drew (w2.drewN nq).drew.heap.size x from HX2.out.on (hb5.drew))
          have HB5 := Lib.hid (HB2.out.trans (hb5.mono hz2))
          have hz5 : w2.heap.size ≤ (w2.drewN nq).heap.size := hb5.size
          clear ws1 ws2 d1 hful q2 q3 hb5 b2 hlen
          generalize w2.drewN nq = w5 at *
          have e4 : w5.cell? ⟨q, 2, none⟩ = some (.slice A2 s1.l.length c2) := HQ5.out.blk.cell 2
          have f4 : w5.frozen? ⟨q, 2, none⟩ = false := HQ5.out.blk.frozen 2
          have g0 : w5.cell? ⟨w.heap.size, 0, none⟩ = some (.string x.id) := b5.cell 0
          have g1 : w5.cell? ⟨w.heap.size, 1, none⟩ = some (.string x.tn) := b5.cell 1
          have g2 : w5.cell? ⟨w.heap.size, 2, none⟩ = some (.string x.src) := b5.cell 2
          have g3 : w5.cell? ⟨w.heap.size, 3, none⟩ = some (.string x.key) := b5.cell 3
          have g4 : w5.cell? ⟨w.heap.size, 4, none⟩ = some (.int .i64 x.at_) := b5.cell 4
          have g5 : w5.cell? ⟨w.heap.size, 5, none⟩ = some (.string x.cause) := b5.cell 5
          have g6 : w5.cell? ⟨w.heap.size, 6, none⟩ = some (.slice x.A x.body.length x.cp) := b5.cell 6
          have hq5 : q < w5.heap.size := HQ5.out.blk.lt
          have hbl : x.body.length ≤ 3518437208780 := HS.out.2.2.2.2.2.1
          obtain ⟨i0, ih, iz0, iz1, iz2⟩ := info_partsO info_itemR
          have HX1' := Lib.hid (show s1.l.length + 1 ≤ maxLen by have := HLEN.out; simp only [maxLen]; omega)
          have HX2' := Lib.hid (show (s1.l.length + 1) * 136 ≤ 140737488355328 by have := HLEN.out; omega)
          have HX3' := Lib.hid (show B ≤ w5.heap.size by have := HBW.out; omega)
          go_wp2_with fail
          go_cut [] from 35 to 47 (fun wx => PushLMidR w5 wx B q A2 A3 c3 s1 x now)
          case first =>
            go_region_law (first
              | (go_simp; go_at_call 46; ((with_reducible refine (rown_any x w5.drew HX5.out hbl).mono ?_); rintro e w6 ⟨Ay, cy, rfl, hev, hb6⟩; have HB6 := Lib.hid (show Below w5.heap.size w5 w6 from (below_drew' w5).trans hb6); have HEV := Lib.hid hev; have HQ6 := Lib.hid (HQ5.out.below HB6.out); have e4' := ((HB6.out).cell (p := ⟨q, 2, none⟩) hq5).trans e4; have f4' := ((HB6.out).frozen (p := ⟨q, 2, none⟩) hq5).trans f4; have e4a := cell_al e4' (.cells #[.string x.id, .string x.tn, .string x.src, .string x.key, .int .i64 x.at_, .string x.cause, .slice Ay x.body.length cy, .int .i64 now, .int .i64 0, .bool false] 78); clear hev hb6; simp only [Ev.val]))
              | (refine step_append_any _ rfl (.tmp 39) (.tmp 44) 66 rfl B 78 i0 (.agg #[.string ⟨#[]⟩, .string ⟨#[]⟩, .string ⟨#[]⟩, .string ⟨#[]⟩, .int .i64 0, .string ⟨#[]⟩, .slice none 0 0, .int .i64 0, .int .i64 0, .bool false]) 10 136 Tryz.underlying66 ih iz0 iz1 iz2 rfl (by decide) (.slice A2 s1.l.length c2) s1.l.length (s1.l.flatMap En.rcells) (by simp [Act.eval]) (HQ6.out.row.alloc _) (w6.heap.size + 1) (some ⟨w6.heap.size, 0, none⟩) 1 1 [.string x.id, .string x.tn, .string x.src, .string x.key, .int .i64 x.at_, .string x.cause, .slice Ay x.body.length cy, .int .i64 now, .int .i64 0, .bool false] (by simp [Act.eval]) (reads_new10 w6 _ _ _ _ _ _ _ _ _ _ _) (En.rone ⟨{ x with A := Ay, cp := cy }, now, 0, false, s1.arr⟩) HX1'.out HX2'.out (Nat.le_trans HX3'.out (Nat.le_trans HB6.out.size (by simp))) ?_; intro v' w7 hown hgr hblk; obtain ⟨A4, c4, hv⟩ := own_slice hown; have hcg : Chg (fun k => A2.map (·.block) = some k) w6 w7 := ((Chg.refl _ w6).alloc _).grown hgr (fun k hk _ => by rw [own_eq] at hk; exact hk); have HG7 := Lib.hid (And.intro hown (And.intro hcg hblk)); have e47 := (hcg.cell (p := ⟨q, 2, none⟩) HQ6.out.blk.lt HQ6.out.ne.1).trans e4'; have f47 : w7.frozen? ⟨q, 2, none⟩ = false := (hcg.blk HQ6.out.blk HQ6.out.ne.1).frozen 2; clear hown hgr hblk hcg; rw [hv]))
            all_goals
              go_wp2_with fail
              go_meet
              exact pushL_midR HQ6.out HB6.out HEV.out HX3'.out HG7.out.1 HG7.out.2.1 HG7.out.2.2 hv
          case rest =>
            obtain ⟨Ay, cy, A4, c4, hq8, hc8, hA8⟩ := hcut
            have HQ8 := Lib.hid hq8
            have HC8 := Lib.hid (And.intro hc8 hA8)
            clear hq8 hc8 hA8 e4 f4 b5 g0 g1 g2 g3 g4 g5 g6
            go_wp2_with fail
            go_ret
            refine .inr ⟨HC.out, s1, Ay, cy, HAC.out, ret_int HE.out, A4, c4, A3, c3, ?_, ?_, ?_⟩
            · unfold sndS
              rw [if_pos HE.out.symm]
              exact ⟨HQ8.out.blk, HQ8.out.row, HQ8.out.dead, HQ8.out.bl, HQ8.out.bd, HQ8.out.hq⟩
            · exact (((Chg.of_below HB0.out).trans HCH.out (fun _ _ h => h)).below HB5.out).narrow HC8.out.1 (fun k hk => by
                rcases hk with rfl | e
                · exact .inl (.inl rfl)
                · exact (HFR.out k (.inr (.inl e))).imp id (fun h => by omega))
            · rintro k (rfl | e | e)
              · exact .inl (.inl rfl)
              · rcases HC8.out.2 k e with h | h
                · exact (HFR.out k (.inr (.inl h))).imp id (fun h => by omega)
                · right; omega
              · exact (HFR.out k (.inr (.inr e))).imp id (fun h => by omega)
    · have d1 : (chkE x != 0) = true := by simpa using he
      have HE := Lib.hid (show sndE s1 x = chkE x by unfold sndE; rw [if_pos he])
      have HN := Lib.hid he
      clear he
      go_wp2_with fail
      go_ret
      refine .inr ⟨HC.out, s1, none, 0, HAC.out, by rw [HE.out]; rfl, ?_⟩
      have e2 : sndS s1 x now none 0 = s1 := by unfold sndS; rw [HE.out, if_neg HN.out]
      rw [e2]
      exact RTo.trans (w1 := w1) ((Chg.of_below HB0.out).trans HCH.out (fun _ _ h => h)) (fun k hk => (HFR.out k hk).imp id (fun h => by omega)) (HQ1.out.to HB2.out)
end
end Go.Proofs.YtbofclohnmojmaaGreatDoor
