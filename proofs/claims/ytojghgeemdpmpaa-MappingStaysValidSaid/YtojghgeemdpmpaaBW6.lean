/- The walk of the division of a list. -/
import Derived.Test.YtojghgeemdpmpaaBW5
import Derived.Deep.RegionLaw
import Derived.Deep.RegionLawGrows
namespace Go.Proofs.Ytojghgeemdpmpaa
open Go.RowKit
open Go.Sort (grow)

def cutStep (m r : Int) (bs : List (List RecX)) (x : RecX) : List (List RecX) :=
  match bs.getLast? with
  | none => [[x]]
  | some b => if fitsB m r b x = true then bs.dropLast ++ [b ++ [x]] else bs ++ [[x]]
def cutS (m r : Int) (l : List RecX) : List (List RecX) := l.foldl (cutStep m r) []
theorem cutS_snoc (m r : Int) (l : List RecX) (k : Nat) (h : k < l.length) : cutS m r (l.take (k + 1)) = cutStep m r (cutS m r (l.take k)) l[k] := by
  unfold cutS
  rw [List.take_succ_eq_append_getElem h, List.foldl_append]
  rfl
theorem cutStep_nil (m r : Int) (x : RecX) : cutStep m r [] x = [[x]] := rfl
theorem cutStep_yes (m r : Int) (bs : List (List RecX)) (b : List RecX) (x : RecX) (h : fitsB m r b x = true) : cutStep m r (bs ++ [b]) x = bs ++ [b ++ [x]] := by
  simp [cutStep, h]
theorem cutStep_no (m r : Int) (bs : List (List RecX)) (b : List RecX) (x : RecX) (h : fitsB m r b x = false) : cutStep m r (bs ++ [b]) x = bs ++ [b] ++ [[x]] := by
  simp [cutStep, h]
theorem sumBody_append (a b : List RecX) : sumBody (a ++ b) = sumBody a + sumBody b := by simp [sumBody]
theorem cutStep_flatten (m r : Int) (bs : List (List RecX)) (x : RecX) : (cutStep m r bs x).flatten = bs.flatten ++ [x] := by
  unfold cutStep
  split
  · rename_i h
    simp at h
    simp [h]
  · rename_i b h
    have hne : bs ≠ [] := by intro e; simp [e] at h
    have hb : bs = bs.dropLast ++ [b] := by
      rw [List.getLast?_eq_some_getLast hne] at h
      injection h with h
      rw [← h, List.dropLast_concat_getLast]
    split
    · conv => rhs; rw [hb]
      simp
    · simp
theorem cutS_flatten (m r : Int) (l : List RecX) : (cutS m r l).flatten = l := by
  unfold cutS
  suffices h : ∀ (l : List RecX) (bs : List (List RecX)), (l.foldl (cutStep m r) bs).flatten = bs.flatten ++ l by simpa using h l []
  intro l
  induction l with
  | nil => simp
  | cons x l ih => intro bs; rw [List.foldl_cons, ih, cutStep_flatten]; simp

/-- A cell of an old block behind what a region that draws has made. -/
theorem cell?_regrown (w : World) (d : Nat) (os : Array Obj) (b o : Nat) (s : Option Nat) (h : b < w.heap.size) : (grow (redrawn w d) os).cell? ⟨b, o, s⟩ = w.cell? ⟨b, o, s⟩ :=
  (below_regrown w d os).cell (p := ⟨b, o, s⟩) h
attribute [go_sem] cell?_regrown

/-- The last batch of those cut so far is a part of the list. -/
theorem cut_part {m r : Int} {l : List RecX} {k : Nat} (hk : k < l.length) {bs : List (List RecX)} {b : List RecX} (h : bs ++ [b] = cutS m r (l.take k)) :
    (∀ x ∈ b, x ∈ l) ∧ sumBody b + l[k].r.body.length ≤ sumBody l ∧ b.length ≤ l.length := by
  have hf : (bs ++ [b]).flatten = l.take k := by rw [h, cutS_flatten]
  rw [List.flatten_append, List.flatten_singleton] at hf
  have hs := sumBody_snoc l k hk
  have hl := sumBody_le l (k + 1)
  have h1 : sumBody (l.take k) = sumBody bs.flatten + sumBody b := by rw [← hf, sumBody_append]
  refine ⟨fun x hx => List.mem_of_mem_take (i := k) (by rw [← hf]; simp [hx]), by omega, ?_⟩
  have : (l.take k).length = bs.flatten.length + b.length := by rw [← hf, List.length_append]
  have := List.length_take_le k l
  have := List.length_take_le' k l
  omega

theorem fits_out (m r : Int) (A : Option Addr) (c : Nat) (l : List RecX) (x : RecX) (W : World) (d : Nat) (os : Array Obj) (hl : RecsAt W W.heap.size A l) (hb : sumBody l + x.r.body.length ≤ 904238362656460) (hn : l.length ≤ 1000000) :
    Calls Try.prog 63 #[.agg #[.int .i64 m, .int .i64 r, .func (.func 62) #[] #[]], .slice A l.length c, .agg #[.int .i64 x.r.shard, .int .i64 x.r.seq, .int .i64 x.r.at_, .string x.r.id, .string x.r.tenant, .string x.r.source, .string x.r.key, .int .i64 x.r.eat, .string x.r.cause, .slice x.ba x.r.body.length x.bc]] (grow (redrawn W d) os) fun e w' => e = .returned (.bool (fitsB m r l x)) ∧ ∃ p : Regrown, w' = grow (redrawn W p.d) p.os :=
  Calls.regrown_of (fits_any m r A c l x _ ((hl.below (below_regrown _ _ _)).more (below_regrown _ _ _).size) hb hn)

theorem own_base {w : World} {base base' : Nat} {e : TypeId} {size : Nat} {v : Value} {n : Nat} {xs : List Value} (h : w.ownsRow base e size v n xs) (hb : base' ≤ base) : w.ownsRow base' e size v n xs := by
  refine ⟨h.1, ?_⟩
  rcases h.2 with h0 | ⟨g, cap, cur, hv, hg, r⟩
  · exact .inl h0
  · exact .inr ⟨g, cap, cur, hv, by omega, r⟩
/-- What holds at the head of a round. -/
structure CutAt (w1 : World) (m r : Int) (l : List RecX) (k : Nat) (v : Value) (wr : World) : Prop where
  low : Below w1.heap.size w1 wr
  ex : ∃ bs : List BatchX, OutInv wr w1.heap.size v bs ∧ bs.map (·.l) = cutS m r (l.take k)

set_option maxHeartbeats 1000000 in
theorem cut_any (m r : Int) (A : Option Addr) (c : Nat) (l : List RecX) (w : World) (hl : RecsAt w w.heap.size A l) (hb : sumBody l ≤ 904238362656460) (hn : l.length ≤ 1000000) :
    Calls Try.prog 53 #[.agg #[.int .i64 m, .int .i64 r, .func (.func 62) #[] #[]], .slice A l.length c] w fun e w' => ∃ (v : Value) (bs : List BatchX), e = .returned v ∧ OutInv w' w.heap.size v bs ∧ bs.map (·.l) = cutS m r l ∧ Below w.heap.size w w' := by
  obtain ⟨i0, hi0, hz0, hz1, hz2⟩ := info_parts info24
  obtain ⟨i1, hi1, hy0, hy1, hy2⟩ := info_parts info39
  go_enter Try.func53, Try.ntmps53
  go_wp2_with fail
  have d0 : (w.alloc (.cells #[.int .i64 m, .int .i64 r, .func (.func 62) #[] #[]] 80)).cell? ⟨w.heap.size, 0, none⟩ = some (.int .i64 m) := by go_simp
  have d1 : (w.alloc (.cells #[.int .i64 m, .int .i64 r, .func (.func 62) #[] #[]] 80)).cell? ⟨w.heap.size, 1, none⟩ = some (.int .i64 r) := by go_simp
  have d2 : (w.alloc (.cells #[.int .i64 m, .int .i64 r, .func (.func 62) #[] #[]] 80)).cell? ⟨w.heap.size, 2, none⟩ = some (.func (.func 62) #[] #[]) := by go_simp
  have hw1 : Below w.heap.size w (w.alloc (.cells #[.int .i64 m, .int .i64 r, .func (.func 62) #[] #[]] 80)) := (Below.refl _ _).alloc (Nat.le_refl _) _
  have hs1 : (w.alloc (.cells #[.int .i64 m, .int .i64 r, .func (.func 62) #[] #[]] 80)).heap.size = w.heap.size + 1 := by simp
  generalize w.alloc (.cells #[.int .i64 m, .int .i64 r, .func (.func 62) #[] #[]] 80) = w1 at *
  have HS1 := Lib.hid hs1
  have hl1 : RecsAt w1 w.heap.size A l := hl.below hw1
  have hz : w.heap.size < w1.heap.size := by omega
  clear hs1 hl
  go_loopw [5, 11] (fun v i wr => ∃ (k : Nat) (vv : Value), k ≤ l.length ∧ i = .int .i64 k ∧ vv = v ∧ CutAt w1 m r l k vv wr) (fun _ i _ => l.length - (intOf i).toNat)
  case atStart => exact ⟨0, _, Nat.zero_le _, rfl, rfl, ⟨Below.refl _ _, [], OutInv.nil _ _, rfl⟩⟩
  case round =>
    obtain ⟨k, v, hk, rfl, rfl, hbr, bs, hinv, hbs⟩ := hrel
    obtain ⟨hcr, hfr⟩ := bcell hbr
    have hzr := hbr.size
    have e0 : wr.cell? ⟨w.heap.size, 0, none⟩ = some (.int .i64 m) := by rw [hcr _ _ (by omega)]; exact d0
    have e1 : wr.cell? ⟨w.heap.size, 1, none⟩ = some (.int .i64 r) := by rw [hcr _ _ (by omega)]; exact d1
    have e2 : wr.cell? ⟨w.heap.size, 2, none⟩ = some (.func (.func 62) #[] #[]) := by rw [hcr _ _ (by omega)]; exact d2
    have hzw : w.heap.size < wr.heap.size := by omega
    have hlr : RecsAt wr w.heap.size A l := hl1.below (hbr.mono (by omega))
    have HB := Lib.hid hbs
    clear hcr hfr d0 d1 d2 hl1 hbs
    by_cases hlt : k < l.length
    · obtain ⟨b, o, hA, hbl, ⟨c0, c1, c2, c3, c4, c5, c6, c7, c8, c9⟩⟩ := hlr.ten hlt
      subst hA
      rcases List.eq_nil_or_concat bs with rfl | ⟨bs', bl, rfl⟩
      · obtain ⟨A', c', rfl⟩ := hinv.shape0
        go_wp2_with fail
        go_quiet (fail)
        go_wp2_with (at_builtin; go_must (refine wpList_append_own _ rfl (.tmp 30) (.tmp 33) 63 rfl w1.heap.size 28 i0 (.slice none 0 0) 1 24 Try.underlying63 hi0 hz0 hz1 hz2 rfl (by decide) (.slice A' 0 c') 0 [] rfl ((((hinv.alloc _).drewN nq).alloc _).alloc _).row ⟨wr.heap.size + 1 + 1, 0, none⟩ 1 1 [.slice (some ⟨wr.heap.size + 1, 0, none⟩) 1 1] rfl rfl (cells_new_at (by simp)) (by intro u hu; simp at hu; subst hu; rfl) (by simp [maxLen]) (by omega) (by simp; omega) ?_); intro v' w2 hown hgr _)
        have hb2 : Below w1.heap.size w1 w2 := (((hbr.alloc hzr _).trans (World.below_drewN' _ _ nq)).alloc (by simp; omega) _ |>.alloc (by simp; omega) _).grown hgr (by simp; omega) (fun k hk => (hinv.row.lt k hk).1)
        go_roundw
        case rel => exact ⟨k + 1, v', by omega, by go_num, rfl, ⟨hb2, _, OutInv.push (bs := []) (x := l[k]) ((hinv.alloc _).drewN nq) (by simp; omega) (by simp) rfl hown hgr, by rw [cutS_snoc m r l k hlt, ← HB.out]; rfl⟩⟩
        case measure => simp [intOf]; omega
      · rw [List.concat_eq_append] at hinv HB
        obtain ⟨g, cc, rfl, hg1, hg2, hg3, hcell, hfz⟩ := hinv.shape1
        have hbs := HB.out
        rw [List.map_append, List.map_singleton] at hbs
        obtain ⟨p1, p2, p3⟩ := cut_part hlt hbs
        have hO : RecsAt wr wr.heap.size bl.a bl.l := (hinv.own bl (by simp)).recs (Nat.le_refl _) fun x hx => Reads.more (hlr.2 x (p1 x hx)) (by omega)
        have hO2 := Lib.hid hO
        have HB2 := Lib.hid hbs
        clear hO hbs p1 hlr
        have hk0 : bs'.length ≤ 1000000 := by
          have h1 := hinv.len_le
          rw [HB.out, cutS_flatten, List.length_append] at h1
          have h2 := List.length_take_le k l
          have h3 := List.length_take_le' k l
          omega
        go_wp2_with fail
        have hT := ten0_new wr l[k] 54
        have hbW : Below wr.heap.size wr (wr.alloc (.cells l[k].cells.toArray 54)) := (Below.refl _ _).alloc (Nat.le_refl _) _
        have hinvW := hinv.alloc (.cells l[k].cells.toArray 54)
        have hsW : (wr.alloc (.cells l[k].cells.toArray 54)).heap.size = wr.heap.size + 1 := by simp
        simp only [RecX.cells] at hT hbW hsW hinvW
        generalize hW : World.alloc wr _ = W at *
        obtain ⟨t0, t1, t2, t3, t4, t5, t6, t7, t8, t9⟩ := hT
        have f0 : W.cell? ⟨w.heap.size, 0, none⟩ = some (.int .i64 m) := (hbW.cell (p := ⟨_, _, _⟩) hzw).trans e0
        have f1 : W.cell? ⟨w.heap.size, 1, none⟩ = some (.int .i64 r) := (hbW.cell (p := ⟨_, _, _⟩) hzw).trans e1
        have f2 : W.cell? ⟨w.heap.size, 2, none⟩ = some (.func (.func 62) #[] #[]) := (hbW.cell (p := ⟨_, _, _⟩) hzw).trans e2
        have hcW : W.cell? ⟨g, bs'.length, none⟩ = some (.slice bl.a bl.l.length bl.c) := (hbW.cell (p := ⟨_, _, _⟩) hg2).trans hcell
        have s0 : w.heap.size < W.heap.size := by omega
        have s1 : wr.heap.size < W.heap.size := by omega
        have s2 : g < W.heap.size := by omega
        have HW := Lib.hid (And.intro hW hsW)
        clear hW hsW c0 c1 c2 c3 c4 c5 c6 c7 c8 c9 e0 e1 e2 hcell
        have g0 : decide ((bs'.length : Int) < 0) = false := by simp
        have hOW : RecsAt W W.heap.size bl.a bl.l := (hO2.out.below hbW).more (by omega)
        have HOW := Lib.hid hOW
        clear hOW
        by_cases hF : fitsB m r bl.l l[k] = true
        · refine wp_region_quiet_below (by kernel_rfl) (by kernel_rfl) ?_
          repeat (go_big_quiet_step ((go_at_call 63; go_must (exact fits_out m r bl.a bl.c bl.l l[k] W _ _ HOW.out (by omega) (by omega)))))
          refine wpQuiet_nil ?_
          intro _ hw'
          obtain ⟨⟨dq, osq⟩, hw''⟩ := hw'
          subst hw''
          have hbq := below_regrown W dq osq
          generalize grow (redrawn W dq) osq = W2 at *
          have HT := Lib.hid (Ten0.below ⟨t0, t1, t2, t3, t4, t5, t6, t7, t8, t9⟩ hbq s1)
          have hinv2 := hinvW.below hbq
          have q1 : W2.cell? ⟨g, bs'.length, none⟩ = some (.slice bl.a bl.l.length bl.c) := (hbq.cell (p := ⟨_, _, _⟩) s2).trans hcW
          have q2 : g < W2.heap.size := Nat.lt_of_lt_of_le s2 hbq.size
          have q3 : wr.heap.size < W2.heap.size := Nat.lt_of_lt_of_le s1 hbq.size
          clear t0 t1 t2 t3 t4 t5 t6 t7 t8 t9 f0 f1 f2 hcW s0 hinvW g0 hfz
          obtain ⟨t0, t1, t2, t3, t4, t5, t6, t7, t8, t9⟩ := HT.out
          have q4 : (bs'.length : Int) < bs'.length + 1 := by omega
          have HL := Lib.hid ((hbr.trans (hbW.mono hzr)).trans (hbq.mono (by omega : w1.heap.size ≤ W.heap.size)))
          have q5 : w1.heap.size ≤ W2.heap.size := by omega
          go_wp2_with fail
          have HR : Hid (Reads ((W2.drew).alloc (.cells l[k].cells.toArray 54)) (W2.heap.size + 1) 10 (some ⟨W2.heap.size, 0, none⟩) 1 l[k].cells) := ⟨rfl, fun _ => ⟨_, _, rfl, by omega, fun j u hu => by have := cells_new_at (w := W2.drew) (e := 54) (g := W2.heap.size) rfl j u hu; rwa [Addr.add_lit] at this⟩⟩
          go_region_law (refine step_append_any _ rfl (.tmp 40) (.tmp 42) 28 rfl w1.heap.size 54 i1 _ 10 136 Try.underlying28 hi1 hy0 hy1 hy2 rfl (by decide) (.slice bl.a bl.l.length bl.c) bl.l.length bl.flat (by simp [Act.eval]) ((hinv2.drew.alloc _).own bl (by simp)).2 (W2.heap.size + 1) (some ⟨W2.heap.size, 0, none⟩) 1 1 l[k].cells (by simp [Act.eval]) HR.out (RecX.oneCell _) (by simp [maxLen]; omega) (by omega) (by simp; omega) ?_; intro v' w3 hown hgr hblk; obtain ⟨⟨a3, c3, hv3⟩, hc3, hf3⟩ := hinv2.drew.grow_cell hown hgr; rw [hv3])
          all_goals
            have hlow : Below w1.heap.size w1 w3 := ((HL.out.drew).alloc (by simp; omega) _).grown hgr (by simp; omega) (fun k hk => ((hinv2.own bl (by simp)).2.lt k hk).1)
            have HX := Lib.hid hv3
            clear hv3
            go_wp2
            go_roundw
            case rel => exact ⟨k + 1, _, by omega, by go_num, rfl, ⟨hlow.setCell (p := ⟨_, _, _⟩) hg1 _, _, OutInv.grow hinv2.drew rfl hown hgr hblk HX.out, by rw [cutS_snoc m r l k hlt, ← HB2.out, cutStep_yes _ _ _ _ _ hF]; simp⟩⟩
            case measure => simp [intOf]; omega
        · have hF' : fitsB m r bl.l l[k] = false := by simpa using hF
          clear hF
          refine wp_region_quiet_below (by kernel_rfl) (by kernel_rfl) ?_
          repeat (go_big_quiet_step ((go_at_call 63; go_must (exact fits_out m r bl.a bl.c bl.l l[k] W _ _ HOW.out (by omega) (by omega)))))
          refine wpQuiet_nil ?_
          intro _ hw'
          obtain ⟨⟨dq, osq⟩, hw''⟩ := hw'
          subst hw''
          have hbq := below_regrown W dq osq
          generalize grow (redrawn W dq) osq = W2 at *
          have HT := Lib.hid (Ten0.below ⟨t0, t1, t2, t3, t4, t5, t6, t7, t8, t9⟩ hbq s1)
          have hinv2 := hinvW.below hbq
          have q3 : wr.heap.size < W2.heap.size := Nat.lt_of_lt_of_le s1 hbq.size
          have HL := Lib.hid ((hbr.trans (hbW.mono hzr)).trans (hbq.mono (by omega : w1.heap.size ≤ W.heap.size)))
          have q5 : w1.heap.size ≤ W2.heap.size := by omega
          clear t0 t1 t2 t3 t4 t5 t6 t7 t8 t9 f0 f1 f2 hcW s0 hinvW g0 hfz
          obtain ⟨t0, t1, t2, t3, t4, t5, t6, t7, t8, t9⟩ := HT.out
          have hrow2 := ((hinv2.alloc (.cells l[k].cells.toArray 54)).alloc (.cells #[.slice (some ⟨W2.heap.size, 0, none⟩) 1 1] 28)).row
          simp only [List.length_append, List.length_singleton] at hrow2
          go_wp2_with (at_builtin; go_must (refine wpList_append_own _ rfl (.tmp 30) (.tmp 33) 63 rfl w1.heap.size 28 i0 (.slice none 0 0) 1 24 Try.underlying63 hi0 hz0 hz1 hz2 rfl (by decide) (.slice (some ⟨g, 0, none⟩) (bs'.length + 1) cc) (bs'.length + 1) _ rfl hrow2 ⟨W2.heap.size + 1, 0, none⟩ 1 1 [.slice (some ⟨W2.heap.size, 0, none⟩) 1 1] rfl rfl (cells_new_at (by simp)) (by intro u hu; simp at hu; subst hu; rfl) (by simp [maxLen]; omega) (by omega) (by simp; omega) ?_); intro v' w2 hown hgr _)
          have hb2 : Below w1.heap.size w1 w2 := (((HL.out).alloc (by omega) _).alloc (by simp; omega) _).grown hgr (by simp; omega) (fun k hk => (hinv2.row.lt k hk).1)
          go_roundw
          case rel => exact ⟨k + 1, v', by omega, by go_num, rfl, ⟨hb2, _, OutInv.push (bs := bs' ++ [bl]) (x := l[k]) hinv2 (by omega) rfl (by simp) hown hgr, by rw [cutS_snoc m r l k hlt, ← HB2.out, cutStep_no _ _ _ _ _ hF']; simp⟩⟩
          case measure => simp [intOf]; omega
    · obtain rfl : k = l.length := by omega
      have hbs := HB.out
      rw [List.take_length] at hbs
      obtain ⟨A', c', rfl⟩ := hinv.shape
      go_wp2
      go_ret
      refine ⟨_, bs, rfl, ⟨?_, fun b hb => ⟨(hinv.own b hb).1, ?_⟩, hinv.apart⟩, hbs, hw1.trans (hbr.mono (by omega))⟩
      · exact own_base hinv.row (by omega)
      · exact own_base (hinv.own b hb).2 (by omega)
end Go.Proofs.Ytojghgeemdpmpaa
