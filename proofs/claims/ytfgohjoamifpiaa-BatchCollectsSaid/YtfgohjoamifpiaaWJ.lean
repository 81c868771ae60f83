/- The division by records alone; both Cuts by one contract; the walk of BatchCut. -/
import Derived.Test.YtfgohjoamifpiaaWI
namespace Go.Proofs.Ytfgohjoamifpiaa
open Go.RowKit
open Go.Sort (grow)

def fitsR (m r : Int) (l : List Rec) (x : Rec) : Bool := l.isEmpty || (decide ((l.length : Int) < m) && decide (((l.map fun y => y.body.length).sum + x.body.length : Nat) ≤ r))
def stepR (m r : Int) (bs : List (List Rec)) (x : Rec) : List (List Rec) :=
  match bs.getLast? with
  | none => [[x]]
  | some b => if fitsR m r b x = true then bs.dropLast ++ [b ++ [x]] else bs ++ [[x]]
def cutR (m r : Int) (l : List Rec) : List (List Rec) := l.foldl (stepR m r) []
theorem fitsR_eq (m r : Int) (l : List RecX) (x : RecX) : fitsR m r (l.map (·.r)) x.r = fitsB m r l x := by
  unfold fitsR fitsB sumBody
  rw [List.map_map]
  simp [Function.comp_def]
theorem stepR_eq (m r : Int) (bs : List (List RecX)) (x : RecX) : (cutStep m r bs x).map (·.map (·.r)) = stepR m r (bs.map (·.map (·.r))) x.r := by
  unfold cutStep stepR
  rw [List.getLast?_map]
  cases h : bs.getLast? with
  | none => simp
  | some b =>
    simp only [Option.map_some, fitsR_eq]
    by_cases hf : fitsB m r b x = true
    · simp [hf]
    · simp [hf]
theorem cutR_eq (m r : Int) (l : List RecX) : (cutS m r l).map (·.map (·.r)) = cutR m r (l.map (·.r)) := by
  unfold cutS cutR
  suffices h : ∀ (l : List RecX) (bs : List (List RecX)), (l.foldl (cutStep m r) bs).map (·.map (·.r)) = (l.map (·.r)).foldl (stepR m r) (bs.map (·.map (·.r))) by simpa using h l []
  intro l
  induction l with
  | nil => simp
  | cons x l ih => intro bs; rw [List.foldl_cons, List.map_cons, List.foldl_cons, ih, stepR_eq]

def cutE (p : Pol) (n : Nat) : Int := if p.bad = true then 2 else if 256 < n then 3 else 0
def cutL (p : Pol) (l : List Rec) : List (List Rec) := if cutE p l.length = 0 then cutR p.size p.cells l else []
def CutPost (p : Pol) (l : List RecX) (w : World) (e : Ending) (w' : World) : Prop :=
  ∃ A c bs, e = .returned (.tuple #[.slice A (List.length bs) c, .int .i64 (cutE p l.length)]) ∧ Bats w' A bs ∧ bs.map (fun b => b.l.map (·.r)) = cutL p (l.map (·.r)) ∧ Below w.heap.size w w' ∧
    (∀ b ∈ bs, 0 < b.l.length ∧ sumBody b.l ≤ sumBody l ∧ b.l.length ≤ l.length) ∧ bs.length ≤ l.length
theorem parts_le {l : List RecX} {bs : List BatchX} (h : (bs.map (·.l)).flatten.map (·.r) = l.map (·.r)) : ∀ b ∈ bs, sumBody b.l ≤ sumBody l ∧ b.l.length ≤ l.length := by
  intro b hb
  have h1 : sumBody (bs.map (·.l)).flatten = sumBody l := by
    have := congrArg (List.map fun r : Rec => r.body.length) h
    rw [List.map_map, List.map_map] at this
    exact congrArg List.sum this
  have h2 : (bs.map (·.l)).flatten.length = l.length := by have := congrArg List.length h; rw [List.length_map, List.length_map] at this; exact this
  obtain ⟨s, t, rfl⟩ := List.append_of_mem hb
  rw [← h1, ← h2]
  simp only [List.map_append, List.map_cons, List.flatten_append, List.flatten_cons, sumBody_append, List.length_append]
  omega
theorem bad_E (p : Pol) (h : p.bad = true) : checkE p = 2 := by simp [checkE, h]
theorem good_E (p : Pol) (h : p.bad = false) : checkE p = 0 := by simp [checkE, h]

theorem Cut_all (s c n : Int) (A : Option Addr) (ca : Nat) (l : List RecX) (w : World) (hl : RecsAt w w.heap.size A l) (hb : sumBody l ≤ 1000000) :
    Calls Try.prog 10 #[.slice A l.length ca, .agg #[.int .i64 s, .int .i64 c, .int .i64 n]] w fun e w' => CutPost ⟨s, c, n⟩ l w e w' := by
  cases hp : Pol.bad ⟨s, c, n⟩
  · by_cases h256 : 256 < l.length
    · exact (Cut_lim s c n A ca l w (good_E _ hp) h256).mono fun e w' ⟨he, hw⟩ => ⟨none, 0, [], by rw [he]; simp [cutE, hp, h256], Bats.nil _, by simp [cutL, cutE, hp, h256], hw, by simp, by simp⟩
    · refine (Cut_ok s c n A ca l w (good_E _ hp) hl hb (by omega)).mono ?_
      rintro e w' ⟨v, bs, xs, rfl, hout, hbs, hxs, hbody, hw⟩
      obtain ⟨A', c', rfl⟩ := hout.shape
      have hflat : (bs.map (·.l)).flatten = xs := by rw [hbs, cutS_flatten]
      have hpl := parts_le (l := l) (bs := bs) (by rw [hflat, hxs])
      have hxl : xs.length = l.length := by have := congrArg List.length hxs; simpa using this
      refine ⟨A', c', bs, by simp [cutE, hp, h256], Bats.of_out hout fun b hb x hx => hbody x ?_, ?_, hw, fun b hb => ⟨(hout.own b hb).1, hpl b hb⟩, ?_⟩
      · rw [← hflat]
        exact List.mem_flatten.2 ⟨b.l, List.mem_map.2 ⟨b, hb, rfl⟩, hx⟩
      · have h1 : bs.map (fun b => b.l.map (·.r)) = (bs.map (·.l)).map (·.map (·.r)) := by rw [List.map_map]; rfl
        rw [h1, hbs, cutR_eq, hxs]
        simp [cutL, cutE, hp, h256]
      · have := hout.len_le
        rw [hflat, hxl] at this
        exact this
  · exact (Cut_bad s c n A ca l w (bad_E _ hp)).mono fun e w' ⟨he, hw⟩ => ⟨none, 0, [], by rw [he]; simp [cutE, hp], Bats.nil _, by simp [cutL, cutE, hp], hw, by simp, by simp⟩
theorem rCut_all (s c n : Int) (A : Option Addr) (ca : Nat) (l : List RecX) (w : World) (hl : RecsAt w w.heap.size A l) (hb : sumBody l ≤ 1000000) :
    Calls Try.prog 11 #[.slice A l.length ca, .agg #[.int .i64 s, .int .i64 c, .int .i64 n]] w fun e w' => CutPost ⟨s, c, n⟩ l w e w' := by
  cases hp : Pol.bad ⟨s, c, n⟩
  · by_cases h256 : 256 < l.length
    · exact (rCut_lim s c n A ca l w (good_E _ hp) h256).mono fun e w' ⟨he, hw⟩ => ⟨none, 0, [], by rw [he]; simp [cutE, hp, h256], Bats.nil _, by simp [cutL, cutE, hp, h256], hw, by simp, by simp⟩
    · refine (rCut_ok s c n A ca l w (good_E _ hp) hl hb (by omega)).mono ?_
      rintro e w' ⟨v, bs, rfl, hout, hbs, hw⟩
      obtain ⟨A', c', rfl⟩ := hout.shape
      have hflat : (bs.map (·.l)).flatten = l := by rw [hbs, cutS_flatten]
      have hpl := parts_le (l := l) (bs := bs) (by rw [hflat])
      refine ⟨A', c', bs, by simp [cutE, hp, h256], Bats.of_out hout fun b hb x hx => Reads.more (Reads.below (hl.2 x ?_) hw) hw.size, ?_, hw, fun b hb => ⟨(hout.own b hb).1, hpl b hb⟩, ?_⟩
      · rw [← hflat]
        exact List.mem_flatten.2 ⟨b.l, List.mem_map.2 ⟨b, hb, rfl⟩, hx⟩
      · have h1 : bs.map (fun b => b.l.map (·.r)) = (bs.map (·.l)).map (·.map (·.r)) := by rw [List.map_map]; rfl
        rw [h1, hbs, cutR_eq]
        simp [cutL, cutE, hp, h256]
      · have := hout.len_le
        rw [hflat] at this
        exact this
  · exact (rCut_bad s c n A ca l w (bad_E _ hp)).mono fun e w' ⟨he, hw⟩ => ⟨none, 0, [], by rw [he]; simp [cutE, hp], Bats.nil _, by simp [cutL, cutE, hp], hw, by simp, by simp⟩

theorem small_bd {l : List RecX} (h : smallB l = true) : sumBody l ≤ 30000 ∧ l.length ≤ 300 := by
  unfold smallB at h
  simp only [Bool.and_eq_true, decide_eq_true_eq] at h
  exact ⟨h.2, h.1.1⟩

theorem check_out (s c n : Int) (W : World) (d : Nat) (os : Array Obj) : Calls Try.prog 12 #[.agg #[.int .i64 s, .int .i64 c, .int .i64 n]] (grow (redrawn W d) os) fun e w' => e = .returned (.int .i64 (checkE ⟨s, c, n⟩)) ∧ ∃ p : Regrown, w' = grow (redrawn W p.d) p.os := Calls.regrown_of (check_any s c n _)
theorem rcheck_out (s c n : Int) (W : World) (d : Nat) (os : Array Obj) : Calls Try.prog 13 #[.agg #[.int .i64 s, .int .i64 c, .int .i64 n]] (grow (redrawn W d) os) fun e w' => e = .returned (.int .i64 (checkE ⟨s, c, n⟩)) ∧ ∃ p : Regrown, w' = grow (redrawn W p.d) p.os := Calls.regrown_of (rcheck_any s c n _)
theorem awake_out (W : World) (d : Nat) (os : Array Obj) : Calls Try.prog 9 #[] (grow (redrawn W d) os) fun e w' => e = .returned (.bool true) ∧ ∃ p : Regrown, w' = grow (redrawn W p.d) p.os := Calls.regrown_of (awake_any _)
theorem SameB_out (bs bs' : List BatchX) (A A' : Option Addr) (c c' : Nat) (W : World) (d : Nat) (os : Array Obj) (h1 : Bats W A bs) (h2 : Bats W A' bs') (h : bs.map (fun b => b.l.map (·.r)) = bs'.map (fun b => b.l.map (·.r))) (hb : ∀ b ∈ bs, sumBody b.l ≤ 1000000 ∧ b.l.length ≤ 1000000) (hn : bs.length ≤ 1000000) :
    Calls Try.prog 14 #[.slice A bs.length c, .slice A' bs'.length c'] (grow (redrawn W d) os) fun e w' => e = .returned (.bool true) ∧ ∃ p : Regrown, w' = grow (redrawn W p.d) p.os :=
  Calls.regrown_of (SameB_any bs bs' A A' c c' _ (h1.below (below_regrown _ _ _)) (h2.below (below_regrown _ _ _)) h hb hn)

set_option maxHeartbeats 1000000 in
theorem law_cut (s c n : Int) (A : Option Addr) (ca : Nat) (l : List RecX) (w : World) (hl : RecsAt w w.heap.size A l) (hn : ∀ x ∈ l, x.r.body.length ≤ maxLen) :
    Calls Try.prog 3 #[.agg #[.int .i64 s, .int .i64 c, .int .i64 n], .slice A l.length ca] w fun e w' => e = .returned (.bool true) ∧ Below w.heap.size w w' := by
  go_enter Try.func3, Try.ntmps3
  go_wp2_with fail
  have d0 : (w.alloc (.cells #[.int .i64 s, .int .i64 c, .int .i64 n] 23)).cell? ⟨w.heap.size, 0, none⟩ = some (.int .i64 s) := by go_simp
  have d1 : (w.alloc (.cells #[.int .i64 s, .int .i64 c, .int .i64 n] 23)).cell? ⟨w.heap.size, 1, none⟩ = some (.int .i64 c) := by go_simp
  have d2 : (w.alloc (.cells #[.int .i64 s, .int .i64 c, .int .i64 n] 23)).cell? ⟨w.heap.size, 2, none⟩ = some (.int .i64 n) := by go_simp
  have hlow : Below w.heap.size w (w.alloc (.cells #[.int .i64 s, .int .i64 c, .int .i64 n] 23)) := (Below.refl _ _).alloc (Nat.le_refl _) _
  have hz : w.heap.size < (w.alloc (.cells #[.int .i64 s, .int .i64 c, .int .i64 n] 23)).heap.size := by simp
  generalize hW : World.alloc w _ = W at *
  clear hW
  have hlW : RecsAt W W.heap.size A l := (hl.below hlow).more (by omega)
  refine (small_any l A ca W hlW hn).mono ?_
  rintro e w' ⟨rfl, rfl⟩
  cases hs : smallB l
  · clear hs
    go_wp2_with fail
    refine (awake_any _).mono ?_
    rintro e w1 ⟨rfl, hb⟩
    go_wp2_with fail
    go_ret
    exact ⟨rfl, hlow.trans (hb.mono (by omega))⟩
  · obtain ⟨hsum, hlen⟩ := small_bd hs
    clear hs
    go_wp2_with fail
    refine (Cut_all s c n A ca l W hlW (by omega)).mono ?_
    rintro e w1 ⟨A1, c1, bs, rfl, hB1, hE1, hb1, hq1, hk1⟩
    have hz1 := hb1.size
    have e0 : w1.cell? ⟨w.heap.size, 0, none⟩ = some (.int .i64 s) := (hb1.cell (p := ⟨_, _, _⟩) hz).trans d0
    have e1 : w1.cell? ⟨w.heap.size, 1, none⟩ = some (.int .i64 c) := (hb1.cell (p := ⟨_, _, _⟩) hz).trans d1
    have e2 : w1.cell? ⟨w.heap.size, 2, none⟩ = some (.int .i64 n) := (hb1.cell (p := ⟨_, _, _⟩) hz).trans d2
    have HE1 := Lib.hid hE1
    have hl1 : RecsAt w1 w1.heap.size A l := (hlW.below hb1).more hz1
    clear hE1 d0 d1 d2
    go_wp2_with fail
    refine (rCut_all s c n A ca l w1 hl1 (by omega)).mono ?_
    rintro e w2 ⟨A2, c2, bs2, rfl, hB2, hE2, hb2, hq2, hk2⟩
    have hz2 := hb2.size
    have f0 : w2.cell? ⟨w.heap.size, 0, none⟩ = some (.int .i64 s) := (hb2.cell (p := ⟨_, _, _⟩) (by show w.heap.size < _; omega)).trans e0
    have f1 : w2.cell? ⟨w.heap.size, 1, none⟩ = some (.int .i64 c) := (hb2.cell (p := ⟨_, _, _⟩) (by show w.heap.size < _; omega)).trans e1
    have f2 : w2.cell? ⟨w.heap.size, 2, none⟩ = some (.int .i64 n) := (hb2.cell (p := ⟨_, _, _⟩) (by show w.heap.size < _; omega)).trans e2
    have HEQ := Lib.hid (HE1.out.trans hE2.symm)
    have HY1 := Lib.hid (hB1.below hb2)
    have HY2 := Lib.hid hB2
    have HQ : Hid (∀ b ∈ bs, sumBody b.l ≤ 1000000 ∧ b.l.length ≤ 1000000) := fun b hb => by have := hq1 b hb; omega
    have HK : Hid (bs.length ≤ 1000000) := by show bs.length ≤ 1000000; omega
    have HL := Lib.hid (hlow.trans ((hb1.mono (by omega)).trans (hb2.mono (by omega))))
    have hzz : w.heap.size < w2.heap.size := by omega
    clear e0 e1 e2 hE2 hB1 hB2 hq1 hq2 hk1 hk2
    generalize cutE ⟨s, c, n⟩ l.length = E
    go_wp2_with fail
    refine wp_region_quiet_below (by kernel_rfl) (by kernel_rfl) ?_
    repeat (go_big_quiet_step ((first | (go_at_call 12; go_must (exact check_out s c n w2 _ _)) | (go_at_call 13; go_must (exact rcheck_out s c n w2 _ _)) | (go_at_call 14; go_must (exact SameB_out _ _ _ _ _ _ w2 _ _ HY1.out HY2.out HEQ.out HQ.out HK.out)) | (go_at_call 9; go_must (exact awake_out w2 _ _)))))
    refine wpQuiet_nil ?_
    intro _ hw'
    obtain ⟨⟨dq, osq⟩, hw''⟩ := hw'
    subst hw''
    have hbq := below_regrown w2 dq osq
    go_wp2
    go_ret
    exact ⟨rfl, HL.out.trans (hbq.mono (by omega))⟩
end Go.Proofs.Ytfgohjoamifpiaa
