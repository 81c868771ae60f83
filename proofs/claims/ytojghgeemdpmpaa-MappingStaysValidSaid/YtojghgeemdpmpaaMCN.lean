/- The program's Poll. -/
import Derived.Test.YtojghgeemdpmpaaMCM
import Derived.Test.YtojghgeemdpmpaaMCI
import Derived.Deep.CutRange
namespace Go.Proofs.Ytojghgeemdpmpaa
open Go.RowKit
open Go.Sort (grow)
open BO (inB)

theorem held3_step {w0 w1 w2 : World} {p0 p1 p2 : Addr} {a b c : Value} (h : (w1.cell? p0 = some a ∧ w1.cell? p1 = some b ∧ w1.cell? p2 = some c) ∧ Below w0.heap.size w0 w1) (hb : Below w1.heap.size w1 w2) : (w2.cell? p0 = some a ∧ w2.cell? p1 = some b ∧ w2.cell? p2 = some c) ∧ Below w0.heap.size w0 w2 := by
  obtain ⟨⟨h0, h1, h2⟩, hw⟩ := h
  exact ⟨⟨(hb.cell (block_lt_of_cell h0)).trans h0, (hb.cell (block_lt_of_cell h1)).trans h1, (hb.cell (block_lt_of_cell h2)).trans h2⟩, hw.trans (hb.mono hw.size)⟩
theorem poll_e {s : MS} {p : Pol} (l : List RecX) (now : Int) : firstE [s.e, checkE p, whenE (!inB now 0 1073741824) 2, whenE (decide ((256 : Int) < l.length)) 3, whenE (!ordB s.sh (l.map (·.r))) 11, whenE (s.fl != 0) 10, whenE (decide (now < s.wa)) 17] = pollE s p (l.map (·.r)) now := by
  unfold pollE
  rw [List.length_map]
  have : decide ((256 : Int) < l.length) = decide (256 < l.length) := by rw [decide_eq_decide]; omega
  rw [this]
theorem first_poll {w1 x : World} {g g1 g2 : Nat} {sh nx fl ac fi wa li p0 p1 p2 now : Int} {A : Option Addr} {ca : Nat} {l : List RecX} {cw1 cw2 cw3 cw4 : Array Value} (hb : Below w1.heap.size w1 x)
    (bs : Blk w1 g 23 #[.int .i64 sh, .int .i64 nx, .int .i64 fl, .int .i64 ac, .int .i64 fi, .int .i64 wa, .int .i64 li]) (bp : Blk w1 g1 25 #[.int .i64 p0, .int .i64 p1, .int .i64 p2]) (bl : Blk w1 g2 28 #[.slice A l.length ca]) (hl : RecsAt w1 w1.heap.size A l) (hn : l.length ≤ 1034834473170)
    (f1 : FnIs x (.func (.func 49) #[] cw1) (whenE (!inB now 0 1073741824) 2)) (f2 : FnIs x (.func (.func 49) #[] cw2) (whenE (decide ((256 : Int) < l.length)) 3)) (f3 : FnIs x (.func (.func 49) #[] cw3) (whenE (fl != 0) 10)) (f4 : FnIs x (.func (.func 49) #[] cw4) (whenE (decide (now < wa)) 17)) :
    Calls Try.prog 24 #[.slice (some ⟨x.heap.size, 0, none⟩) 7 7] (x.alloc (.cells #[.func (.func 25) #[] #[.pointer (some ⟨g, 0, none⟩)], .func (.func 26) #[] #[.pointer (some ⟨g1, 0, none⟩)], .func (.func 49) #[] cw1, .func (.func 49) #[] cw2, .func (.func 30) #[] #[.pointer (some ⟨g2, 0, none⟩), .pointer (some ⟨g, 0, none⟩)], .func (.func 49) #[] cw3, .func (.func 49) #[] cw4] 57))
      fun e w' => e = .returned (.int .i64 (pollE ⟨sh, nx, fl, ac, fi, wa, li⟩ ⟨p0, p1, p2⟩ (l.map (·.r)) now)) ∧ Below x.heap.size x w' := by
  rw [← poll_e (s := ⟨sh, nx, fl, ac, fi, wa, li⟩) (p := ⟨p0, p1, p2⟩) l now]
  have ha : Below x.heap.size x (x.alloc (.cells #[.func (.func 25) #[] #[.pointer (some ⟨g, 0, none⟩)], .func (.func 26) #[] #[.pointer (some ⟨g1, 0, none⟩)], .func (.func 49) #[] cw1, .func (.func 49) #[] cw2, .func (.func 30) #[] #[.pointer (some ⟨g2, 0, none⟩), .pointer (some ⟨g, 0, none⟩)], .func (.func 49) #[] cw3, .func (.func 49) #[] cw4] 57)) := al _
  have hx := hb.trans (ha.mono hb.size)
  exact (first_seven _ 7 _ _ _ _ _ _ _ _ _ _ _ _ _ _ _ (reads_blk (Blk.new _ _ _)) (poll1_fn (bs.on hx)) (poll2_fn (bp.on hx)) (f1.on ha) (f2.on ha) (poll3_fn (bs.on hx) (bl.on hx) ((hl.below hx).more hx.size) hn) (f3.on ha) (f4.on ha)).mono fun e w' ⟨h1, h2⟩ => ⟨h1, ha.trans (h2.mono ha.size)⟩
theorem held3_b {w0 w1 : World} {p0 p1 p2 : Addr} {a b c : Value} (h : (w1.cell? p0 = some a ∧ w1.cell? p1 = some b ∧ w1.cell? p2 = some c) ∧ Below w0.heap.size w0 w1) : Below w0.heap.size w0 w1 := h.2
theorem sumBody_sub {a b : List Rec} (h : a.Sublist b) : (a.map fun x => x.body.length).sum ≤ (b.map fun x => x.body.length).sum := by
  induction h with
  | slnil => simp
  | cons x _ ih => simp; omega
  | cons_cons x _ ih => simp; omega
theorem sumBody_r (l : List RecX) : sumBody l = ((l.map (·.r)).map fun x => x.body.length).sum := by unfold sumBody; rw [List.map_map]; rfl
theorem sumBody_cand {nx li : Int} {xs l : List RecX} (h : xs.map (·.r) = cand nx li (l.map (·.r))) : sumBody xs ≤ sumBody l := by
  rw [sumBody_r, sumBody_r, h]; exact sumBody_sub (cand_sub _)
set_option maxHeartbeats 16000000 in
set_option maxRecDepth 100000 in
theorem Poll_any (sh nx fl ac fi wa li p0 p1 p2 now : Int) (A : Option Addr) (ca : Nat) (l : List RecX) (w : World) (hl : RecsAt w w.heap.size A l) (hn : l.length ≤ 1034834473170) (hsb : okB l) :
    Calls Try.prog 7 #[.agg #[.int .i64 sh, .int .i64 nx, .int .i64 fl, .int .i64 ac, .int .i64 fi, .int .i64 wa, .int .i64 li], .agg #[.int .i64 p0, .int .i64 p1, .int .i64 p2], .slice A l.length ca, .int .i64 now] w (PollPost (pollS ⟨sh, nx, fl, ac, fi, wa, li⟩ ⟨p0, p1, p2⟩ (l.map (·.r)) now) w) := by
  have hn0 := Nat.le_refl w.heap.size
  have HL0 := Lib.hid hl
  clear hl
  go_enter Try.func7, Try.ntmps7
  go_upto_region 1 with fail
  have bs : Blk (((((w).alloc (.cells #[.int .i64 sh, .int .i64 nx, .int .i64 fl, .int .i64 ac, .int .i64 fi, .int .i64 wa, .int .i64 li] 23)).alloc (.cells #[.int .i64 p0, .int .i64 p1, .int .i64 p2] 25)).alloc (.cells #[.slice A l.length ca] 28)).alloc (.cells #[.int .i64 0, .int .i64 0, .int .i64 0, .int .i64 0, .int .i64 0, .int .i64 0, .int .i64 0] 23)) (w.heap.size) 23 #[.int .i64 sh, .int .i64 nx, .int .i64 fl, .int .i64 ac, .int .i64 fi, .int .i64 wa, .int .i64 li] := (((Blk.new _ _ _).alloc _).alloc _).alloc _
  have bp : Blk (((((w).alloc (.cells #[.int .i64 sh, .int .i64 nx, .int .i64 fl, .int .i64 ac, .int .i64 fi, .int .i64 wa, .int .i64 li] 23)).alloc (.cells #[.int .i64 p0, .int .i64 p1, .int .i64 p2] 25)).alloc (.cells #[.slice A l.length ca] 28)).alloc (.cells #[.int .i64 0, .int .i64 0, .int .i64 0, .int .i64 0, .int .i64 0, .int .i64 0, .int .i64 0] 23)) (w.heap.size + 1) 25 #[.int .i64 p0, .int .i64 p1, .int .i64 p2] := ((Blk.new1 _ _ _ _).alloc _).alloc _
  have bl : Blk (((((w).alloc (.cells #[.int .i64 sh, .int .i64 nx, .int .i64 fl, .int .i64 ac, .int .i64 fi, .int .i64 wa, .int .i64 li] 23)).alloc (.cells #[.int .i64 p0, .int .i64 p1, .int .i64 p2] 25)).alloc (.cells #[.slice A l.length ca] 28)).alloc (.cells #[.int .i64 0, .int .i64 0, .int .i64 0, .int .i64 0, .int .i64 0, .int .i64 0, .int .i64 0] 23)) (w.heap.size + 2) 28 #[.slice A l.length ca] := (Blk.new2 _ _ _ _ _).alloc _
  have br : Blk (((((w).alloc (.cells #[.int .i64 sh, .int .i64 nx, .int .i64 fl, .int .i64 ac, .int .i64 fi, .int .i64 wa, .int .i64 li] 23)).alloc (.cells #[.int .i64 p0, .int .i64 p1, .int .i64 p2] 25)).alloc (.cells #[.slice A l.length ca] 28)).alloc (.cells #[.int .i64 0, .int .i64 0, .int .i64 0, .int .i64 0, .int .i64 0, .int .i64 0, .int .i64 0] 23)) (w.heap.size + 3) 23 #[.int .i64 0, .int .i64 0, .int .i64 0, .int .i64 0, .int .i64 0, .int .i64 0, .int .i64 0] := Blk.new3 _ _ _ _ _ _
  have HB1 := Lib.hid (show Below w.heap.size w (((((w).alloc (.cells #[.int .i64 sh, .int .i64 nx, .int .i64 fl, .int .i64 ac, .int .i64 fi, .int .i64 wa, .int .i64 li] 23)).alloc (.cells #[.int .i64 p0, .int .i64 p1, .int .i64 p2] 25)).alloc (.cells #[.slice A l.length ca] 28)).alloc (.cells #[.int .i64 0, .int .i64 0, .int .i64 0, .int .i64 0, .int .i64 0, .int .i64 0, .int .i64 0] 23)) from ((((Below.refl w.heap.size w).alloc (by first | exact Nat.le_refl _ | omega | (simp; done) | (simp; omega)) _).alloc (by first | exact Nat.le_refl _ | omega | (simp; done) | (simp; omega)) _).alloc (by first | exact Nat.le_refl _ | omega | (simp; done) | (simp; omega)) _).alloc (by first | exact Nat.le_refl _ | omega | (simp; done) | (simp; omega)) _)
  generalize ((((w).alloc (.cells #[.int .i64 sh, .int .i64 nx, .int .i64 fl, .int .i64 ac, .int .i64 fi, .int .i64 wa, .int .i64 li] 23)).alloc (.cells #[.int .i64 p0, .int .i64 p1, .int .i64 p2] 25)).alloc (.cells #[.slice A l.length ca] 28)).alloc (.cells #[.int .i64 0, .int .i64 0, .int .i64 0, .int .i64 0, .int .i64 0, .int .i64 0, .int .i64 0] 23) = w1 at *
  have hz1 : w.heap.size ≤ w1.heap.size := HB1.out.size
  have q0 := bs.cell 2
  have q1 := bs.cell 5
  have q2 : w1.cell? ⟨w.heap.size + 1 + 1, 0, none⟩ = some (.slice A l.length ca) := bl.cell 0
  have HBS := Lib.hid bs
  have HBP := Lib.hid bp
  have HBL := Lib.hid (show Blk w1 (w.heap.size + 1 + 1) 28 #[.slice A l.length ca] from bl)
  have HL := Lib.hid ((HL0.out.below HB1.out).more HB1.out.size)
  clear HL0
  go_cut [11] from 15 to 36 (fun v wx => v = .int .i64 (pollE ⟨sh, nx, fl, ac, fi, wa, li⟩ ⟨p0, p1, p2⟩ (l.map (·.r)) now) ∧ Below w1.heap.size w1 wx)
  case first =>
    refine wp_region_held_drew (S := fun w' => (w'.cell? ⟨w.heap.size, 2, none⟩ = some (.int .i64 fl) ∧ w'.cell? ⟨w.heap.size, 5, none⟩ = some (.int .i64 wa) ∧ w'.cell? ⟨w.heap.size + 1 + 1, 0, none⟩ = some (.slice A l.length ca)) ∧ Below w1.heap.size w1 w') (by kernel_rfl) ?_ (fun hHeld => ?_)
    · exact ⟨⟨q0, q1, q2⟩, (Below.refl _ _).drew⟩
    refine wpAnyH_take (i := 0) (oi := _) (v := ?_) rfl (by kernel_rfl) (by kernel_rfl) (by kernel_rfl) (fun _ _ _ h => h) (Or.inl ⟨by rfl, ?_⟩) (by assumption) ?_
    rotate_left
    · intro w hSw
      try dsimp only at hSw
      go_simp
      try with_reducible rfl
    try simp only [Act.put]
    refine wpAnyH_take (i := 1) (oi := _) (v := ?_) rfl (by kernel_rfl) (by kernel_rfl) (by kernel_rfl) (fun _ _ _ h => h) (Or.inl ⟨by rfl, ?_⟩) (by assumption) ?_
    rotate_left
    · intro w hSw
      try dsimp only at hSw
      go_simp
      try with_reducible rfl
    try simp only [Act.put]
    refine wpAnyH_take (i := 10) (oi := _) (v := ?_) rfl (by kernel_rfl) (by kernel_rfl) (by kernel_rfl) (fun _ _ _ h => h) (Or.inl ⟨by rfl, ?_⟩) (by assumption) ?_
    rotate_left
    · intro w hSw
      try dsimp only at hSw
      go_simp
      try with_reducible rfl
    try simp only [Act.put]
    refine wpAnyH_take (i := 2) (oi := _) (v := ?_) rfl (by kernel_rfl) (by kernel_rfl) (by kernel_rfl) (fun _ _ _ h => h) (Or.inl ⟨by rfl, ?_⟩) (by assumption) ?_
    rotate_left
    · intro w hSw
      try dsimp only at hSw
      go_simp
      try with_reducible rfl
    try simp only [Act.put]
    refine wpAnyH_take (i := 6) (oi := _) (v := ?_) rfl (by kernel_rfl) (by kernel_rfl) (by kernel_rfl) (fun _ _ _ h => h) (Or.inl ⟨by rfl, ?_⟩) (by assumption) ?_
    rotate_left
    · intro w hSw
      try dsimp only at hSw
      go_simp
      try with_reducible rfl
    try simp only [Act.put]
    refine wpAnyH_take (i := 7) (oi := _) (v := ?_) rfl (by kernel_rfl) (by kernel_rfl) (by kernel_rfl) (fun _ _ _ h => h) (Or.inl ⟨by rfl, ?_⟩) (by assumption) ?_
    rotate_left
    · intro w hSw
      try dsimp only at hSw
      go_simp
      try with_reducible rfl
    try simp only [Act.put]
    refine wpAnyH_take (i := 8) (oi := _) (v := ?_) rfl (by kernel_rfl) (by kernel_rfl) (by kernel_rfl) (fun _ _ _ h => h) (Or.inl ⟨by rfl, ?_⟩) (by assumption) ?_
    rotate_left
    · intro w hSw
      try dsimp only at hSw
      go_simp
      try with_reducible rfl
    try simp only [Act.put]
    refine wpAnyH_take (i := 11) (oi := _) (v := ?_) rfl (by kernel_rfl) (by kernel_rfl) (by kernel_rfl) (fun _ _ _ h => h) (Or.inl ⟨by rfl, ?_⟩) (by assumption) ?_
    rotate_left
    · intro w hSw
      try dsimp only at hSw
      go_simp
      try with_reducible rfl
    try simp only [Act.put]
    refine wpAnyH_take (i := 12) (oi := _) (v := ?_) rfl (by kernel_rfl) (by kernel_rfl) (by kernel_rfl) (fun _ _ _ h => h) (Or.inl ⟨by rfl, ?_⟩) (by assumption) ?_
    rotate_left
    · intro w hSw
      try dsimp only at hSw
      go_simp
      try with_reducible rfl
    try simp only [Act.put]
    refine wpAnyH_take (i := 13) (oi := _) (v := ?_) rfl (by kernel_rfl) (by kernel_rfl) (by kernel_rfl) (fun _ _ _ h => h) (Or.inl ⟨by rfl, ?_⟩) (by assumption) ?_
    rotate_left
    · intro w hSw
      try dsimp only at hSw
      go_simp
      try with_reducible rfl
    try simp only [Act.put]
    refine wpAnyH_take (i := 15) (oi := _) (v := ?_) rfl (by kernel_rfl) (by kernel_rfl) (by kernel_rfl) (fun _ _ _ h => h) (Or.inl ⟨by rfl, ?_⟩) (by assumption) ?_
    rotate_left
    · intro w hSw
      try dsimp only at hSw
      go_simp
      try with_reducible rfl
    try simp only [Act.put]
    refine wpAnyH_take (i := 16) (oi := _) (v := ?_) rfl (by kernel_rfl) (by kernel_rfl) (by kernel_rfl) (fun _ _ _ h => h) (Or.inl ⟨by rfl, ?_⟩) (by assumption) ?_
    rotate_left
    · intro w hSw
      try dsimp only at hSw
      go_simp
      try with_reducible rfl
    try simp only [Act.put]
    refine wpAnyH_take (i := 17) (oi := _) (v := ?_) rfl (by kernel_rfl) (by kernel_rfl) (by kernel_rfl) (fun _ _ _ h => h) (Or.inl ⟨by rfl, ?_⟩) (by assumption) ?_
    rotate_left
    · intro w hSw
      try dsimp only at hSw
      go_simp
      try with_reducible rfl
    try simp only [Act.put]
    refine wpAnyH_take (i := 18) (oi := _) (v := ?_) rfl (by kernel_rfl) (by kernel_rfl) (by kernel_rfl) (fun _ _ _ h => h) (Or.inl ⟨by rfl, ?_⟩) (by assumption) ?_
    rotate_left
    · intro w hSw
      try dsimp only at hSw
      go_simp
      try with_reducible rfl
    try simp only [Act.put]
    have H0 := hHeld
    refine wpAnyH_ready (rs := [3]) (by kernel_rfl) (by simp) ?_
    refine AllReadyH.cons (o := _) rfl (fun K hK => ?_) AllReadyH.nil
    go_simp
    with_reducible refine (minst_any now _).mono ?_
    rintro e x0 ⟨rfl, rfl⟩
    try dsimp only
    refine hK.out _ _ ?_ (fun hHeld => ?_)
    · exact H0
    clear hK K
    try simp only [Act.put]
    refine wpAnyH_take (i := 4) (oi := _) (v := ?_) rfl (by kernel_rfl) (by kernel_rfl) (by kernel_rfl) (fun _ _ _ h => h) (Or.inl ⟨by rfl, ?_⟩) (by assumption) ?_
    rotate_left
    · intro w hSw
      try dsimp only at hSw
      go_simp
      try with_reducible rfl
    try simp only [Act.put]
    refine wpAnyH_ready (rs := [5]) (by kernel_rfl) (by simp) ?_
    refine AllReadyH.cons (o := _) rfl (fun K hK => ?_) AllReadyH.nil
    go_simp
    with_reducible refine (when_any _ 2 _).mono ?_
    rintro e x1 ⟨⟨cw1, rfl, hf1⟩, hb1⟩
    have H1 := held3_step H0 hb1
    try dsimp only
    refine hK.out _ _ ?_ (fun hHeld => ?_)
    · exact H1
    clear hK K
    try simp only [Act.put]
    refine wpAnyH_ready (rs := [9]) (by kernel_rfl) (by simp) ?_
    refine AllReadyH.cons (o := _) rfl (fun K hK => ?_) AllReadyH.nil
    go_simp
    with_reducible refine (when_any _ 3 _).mono ?_
    rintro e x2 ⟨⟨cw2, rfl, hf2⟩, hb2⟩
    have H2 := held3_step H1 hb2
    try dsimp only
    refine hK.out _ _ ?_ (fun hHeld => ?_)
    · exact H2
    clear hK K
    try simp only [Act.put]
    refine wpAnyH_ready (rs := [14]) (by kernel_rfl) (by simp) ?_
    refine AllReadyH.cons (o := _) rfl (fun K hK => ?_) AllReadyH.nil
    go_simp
    with_reducible refine (when_any _ 10 _).mono ?_
    rintro e x3 ⟨⟨cw3, rfl, hf3⟩, hb3⟩
    have H3 := held3_step H2 hb3
    try dsimp only
    refine hK.out _ _ ?_ (fun hHeld => ?_)
    · exact H3
    clear hK K
    try simp only [Act.put]
    refine wpAnyH_ready (rs := [19]) (by kernel_rfl) (by simp) ?_
    refine AllReadyH.cons (o := _) rfl (fun K hK => ?_) AllReadyH.nil
    go_simp
    with_reducible refine (when_any _ 17 _).mono ?_
    rintro e x4 ⟨⟨cw4, rfl, hf4⟩, hb4⟩
    have H4 := held3_step H3 hb4
    try dsimp only
    refine hK.out _ _ ?_ (fun hHeld => ?_)
    · exact H4
    clear hK K
    try simp only [Act.put]
    refine wpAnyH_ready (rs := [20]) (by kernel_rfl) (by simp) ?_
    refine AllReadyH.cons (o := _) rfl (fun K hK => ?_) AllReadyH.nil
    go_simp
    try dsimp only
    refine hK.out _ _ ?_ (fun hHeld => ?_)
    · exact held3_step H4 (al _)
    clear hK K
    try simp only [Act.put]
    refine wpAnyH_ready (rs := [21]) (by kernel_rfl) (by simp) ?_
    refine AllReadyH.cons (o := _) rfl (fun K hK => ?_) AllReadyH.nil
    go_simp
    with_reducible refine (first_poll H4.2 HBS.out HBP.out HBL.out HL.out hn (((hf1.on hb2).on hb3).on hb4) ((hf2.on hb3).on hb4) (hf3.on hb4) hf4).mono ?_
    rintro e x5 ⟨rfl, hb5⟩
    have H5 := held3_step H4 hb5
    try dsimp only
    refine hK.out _ _ ?_ (fun hHeld => ?_)
    · exact H5
    clear hK K
    try simp only [Act.put]
    refine wpAnyH_take (i := 22) (oi := _) (v := ?_) rfl (by kernel_rfl) (by kernel_rfl) (by kernel_rfl) (fun _ _ _ h => h) (Or.inl ⟨by rfl, ?_⟩) (by assumption) ?_
    rotate_left
    · intro w hSw
      try dsimp only at hSw
      go_simp
      try with_reducible rfl
    try simp only [Act.put]
    refine wpAnyH_done (by kernel_rfl) ?_ _
    dsimp
    go_wp2_with fail
    go_meet
    exact ⟨rfl, H5.2⟩
  case rest =>
    obtain ⟨rfl, hb⟩ := hcut
    have bs : Blk wc (w.heap.size) 23 #[.int .i64 sh, .int .i64 nx, .int .i64 fl, .int .i64 ac, .int .i64 fi, .int .i64 wa, .int .i64 li] := bs.on hb
    have bp : Blk wc (w.heap.size + 1) 25 #[.int .i64 p0, .int .i64 p1, .int .i64 p2] := bp.on hb
    have bl : Blk wc (w.heap.size + 2) 28 #[.slice A l.length ca] := bl.on hb
    have br : Blk wc (w.heap.size + 3) 23 #[.int .i64 0, .int .i64 0, .int .i64 0, .int .i64 0, .int .i64 0, .int .i64 0, .int .i64 0] := br.on hb
    have HL2 := Lib.hid ((HL.out.below hb).more hb.size)
    have hbz := hb.size
    have HB2 := Lib.hid ((HB1.out).trans (hb.mono (by omega)))
    have hz2 : w.heap.size ≤ wc.heap.size := HB2.out.size
    clear hb hbz q0 q1 q2 HBS HBP HBL HL
    by_cases h0 : pollE ⟨sh, nx, fl, ac, fi, wa, li⟩ ⟨p0, p1, p2⟩ (l.map (·.r)) now = 0
    rotate_left
    · have HD := Lib.hid (poll_no (s := ⟨sh, nx, fl, ac, fi, wa, li⟩) (p := ⟨p0, p1, p2⟩) (l := l.map (·.r)) (now := now) rfl h0)
      generalize pollE ⟨sh, nx, fl, ac, fi, wa, li⟩ ⟨p0, p1, p2⟩ (l.map (·.r)) now = n at *
      have hne : (n == 0) = false := beq_eq_false_iff_ne.2 h0
      clear h0
      have q_bs0 : wc.cell? ⟨w.heap.size, 0, none⟩ = some (.int .i64 sh) := bs.cell 0
      have q_bs1 : wc.cell? ⟨w.heap.size, 1, none⟩ = some (.int .i64 nx) := bs.cell 1
      have q_bs2 : wc.cell? ⟨w.heap.size, 2, none⟩ = some (.int .i64 fl) := bs.cell 2
      have q_bs3 : wc.cell? ⟨w.heap.size, 3, none⟩ = some (.int .i64 ac) := bs.cell 3
      have q_bs4 : wc.cell? ⟨w.heap.size, 4, none⟩ = some (.int .i64 fi) := bs.cell 4
      have q_bs5 : wc.cell? ⟨w.heap.size, 5, none⟩ = some (.int .i64 wa) := bs.cell 5
      have q_bs6 : wc.cell? ⟨w.heap.size, 6, none⟩ = some (.int .i64 li) := bs.cell 6
      have q_br0 : wc.cell? ⟨w.heap.size + 3, 0, none⟩ = some (.int .i64 0) := br.cell 0
      have q_br1 : wc.cell? ⟨w.heap.size + 3, 1, none⟩ = some (.int .i64 0) := br.cell 1
      have q_br2 : wc.cell? ⟨w.heap.size + 3, 2, none⟩ = some (.int .i64 0) := br.cell 2
      have q_br3 : wc.cell? ⟨w.heap.size + 3, 3, none⟩ = some (.int .i64 0) := br.cell 3
      have q_br4 : wc.cell? ⟨w.heap.size + 3, 4, none⟩ = some (.int .i64 0) := br.cell 4
      have q_br5 : wc.cell? ⟨w.heap.size + 3, 5, none⟩ = some (.int .i64 0) := br.cell 5
      have q_br6 : wc.cell? ⟨w.heap.size + 3, 6, none⟩ = some (.int .i64 0) := br.cell 6
      have f_br0 : wc.frozen? ⟨w.heap.size + 3, 0, none⟩ = false := br.frozen 0
      have f_br1 : wc.frozen? ⟨w.heap.size + 3, 1, none⟩ = false := br.frozen 1
      have f_br2 : wc.frozen? ⟨w.heap.size + 3, 2, none⟩ = false := br.frozen 2
      have f_br3 : wc.frozen? ⟨w.heap.size + 3, 3, none⟩ = false := br.frozen 3
      have f_br4 : wc.frozen? ⟨w.heap.size + 3, 4, none⟩ = false := br.frozen 4
      have f_br5 : wc.frozen? ⟨w.heap.size + 3, 5, none⟩ = false := br.frozen 5
      have f_br6 : wc.frozen? ⟨w.heap.size + 3, 6, none⟩ = false := br.frozen 6
      go_wp2_with fail
      exact bodyPost_ret (v := .tuple #[.agg #[.int .i64 0, .int .i64 0, .int .i64 0, .int .i64 0, .int .i64 0, .int .i64 0, .int .i64 0], .slice none 0 0, .int .i64 n]) (by simp [results, Try.results7, go_sem, q_br0, q_br1, q_br2, q_br3, q_br4, q_br5, q_br6]) rfl (post_no HD.out (below_set7 HB2.out (H := w.heap.size + 3) (by omega) _ _ _ _ _ _ _))
    have HN := Lib.hid (poll_go h0)
    obtain ⟨he, hc, h256, hord, hfl0, hin⟩ := pollE_ok h0
    rw [h0]
    have h256' : l.length ≤ 256 := by simpa using h256
    have hli : 0 ≤ li := (MS.ok_iff.1 he).1.2.2.2.2.2.2.1
    have hac : 0 ≤ ac ∧ ac ≤ 10 := ⟨(MS.ok_iff.1 he).1.2.2.2.2.2.2.2.2.1, (MS.ok_iff.1 he).1.2.2.2.2.2.2.2.2.2.1⟩
    have HC := Lib.hid hc
    clear h0 he hc h256 hord hfl0 hin
    have q_bs0 : wc.cell? ⟨w.heap.size, 0, none⟩ = some (.int .i64 sh) := bs.cell 0
    have q_bs1 : wc.cell? ⟨w.heap.size, 1, none⟩ = some (.int .i64 nx) := bs.cell 1
    have q_bs2 : wc.cell? ⟨w.heap.size, 2, none⟩ = some (.int .i64 fl) := bs.cell 2
    have q_bs3 : wc.cell? ⟨w.heap.size, 3, none⟩ = some (.int .i64 ac) := bs.cell 3
    have q_bs4 : wc.cell? ⟨w.heap.size, 4, none⟩ = some (.int .i64 fi) := bs.cell 4
    have q_bs5 : wc.cell? ⟨w.heap.size, 5, none⟩ = some (.int .i64 wa) := bs.cell 5
    have q_bs6 : wc.cell? ⟨w.heap.size, 6, none⟩ = some (.int .i64 li) := bs.cell 6
    have q_bl0 : wc.cell? ⟨w.heap.size + 2, 0, none⟩ = some (.slice A l.length ca) := bl.cell 0
    go_wp2_with fail
    refine (candidates_any sh nx fl ac fi wa li A ca l _ HL2.out hsb h256' hli).mono ?_
    rintro e w2 ⟨v, xs, rfl, hinv, hxs, hb⟩
    obtain ⟨A2, c2, rfl⟩ := hinv.shape
    clear q_bs0 q_bs1 q_bs2 q_bs3 q_bs4 q_bs5 q_bs6 q_bl0
    have bs : Blk w2 (w.heap.size) 23 #[.int .i64 sh, .int .i64 nx, .int .i64 fl, .int .i64 ac, .int .i64 fi, .int .i64 wa, .int .i64 li] := bs.on hb
    have bp : Blk w2 (w.heap.size + 1) 25 #[.int .i64 p0, .int .i64 p1, .int .i64 p2] := bp.on hb
    have bl : Blk w2 (w.heap.size + 2) 28 #[.slice A l.length ca] := bl.on hb
    have br : Blk w2 (w.heap.size + 3) 23 #[.int .i64 0, .int .i64 0, .int .i64 0, .int .i64 0, .int .i64 0, .int .i64 0, .int .i64 0] := br.on hb
    have HB3 := Lib.hid ((HB2.out).trans (hb.mono (by omega)))
    have hz3 : w.heap.size ≤ w2.heap.size := HB3.out.size
    clear hb
    have hxl : xs.length ≤ 256 := by have h1 := congrArg List.length hxs; have h2 := cand_le (nx := nx) (li := li) (l.map (·.r)); simp at h1 h2; omega
    have hxb : okB xs := okB_sub (by rw [hxs]; exact cand_sub _) hsb
    have HI := Lib.hid hinv
    have HX := Lib.hid hxs
    clear hinv hxs HL2
    by_cases hx0 : xs.length = 0
    · have hx1 := List.eq_nil_of_length_eq_zero hx0
      have HD := Lib.hid (HN.out.trans (pollG1 (s := ⟨sh, nx, fl, ac, fi, wa, li⟩) (p := ⟨p0, p1, p2⟩) (l := l.map (·.r)) (now := now) (by rw [← HX.out, hx1]; rfl)))
      have g0 : ((xs.length : Int) == 0) = true := by rw [hx0]; rfl
      clear hx1 hx0
      have q_bs0 : w2.cell? ⟨w.heap.size, 0, none⟩ = some (.int .i64 sh) := bs.cell 0
      have q_bs1 : w2.cell? ⟨w.heap.size, 1, none⟩ = some (.int .i64 nx) := bs.cell 1
      have q_bs2 : w2.cell? ⟨w.heap.size, 2, none⟩ = some (.int .i64 fl) := bs.cell 2
      have q_bs3 : w2.cell? ⟨w.heap.size, 3, none⟩ = some (.int .i64 ac) := bs.cell 3
      have q_bs4 : w2.cell? ⟨w.heap.size, 4, none⟩ = some (.int .i64 fi) := bs.cell 4
      have q_bs5 : w2.cell? ⟨w.heap.size, 5, none⟩ = some (.int .i64 wa) := bs.cell 5
      have q_bs6 : w2.cell? ⟨w.heap.size, 6, none⟩ = some (.int .i64 li) := bs.cell 6
      have q_br0 : w2.cell? ⟨w.heap.size + 3, 0, none⟩ = some (.int .i64 0) := br.cell 0
      have q_br1 : w2.cell? ⟨w.heap.size + 3, 1, none⟩ = some (.int .i64 0) := br.cell 1
      have q_br2 : w2.cell? ⟨w.heap.size + 3, 2, none⟩ = some (.int .i64 0) := br.cell 2
      have q_br3 : w2.cell? ⟨w.heap.size + 3, 3, none⟩ = some (.int .i64 0) := br.cell 3
      have q_br4 : w2.cell? ⟨w.heap.size + 3, 4, none⟩ = some (.int .i64 0) := br.cell 4
      have q_br5 : w2.cell? ⟨w.heap.size + 3, 5, none⟩ = some (.int .i64 0) := br.cell 5
      have q_br6 : w2.cell? ⟨w.heap.size + 3, 6, none⟩ = some (.int .i64 0) := br.cell 6
      have f_br0 : w2.frozen? ⟨w.heap.size + 3, 0, none⟩ = false := br.frozen 0
      have f_br1 : w2.frozen? ⟨w.heap.size + 3, 1, none⟩ = false := br.frozen 1
      have f_br2 : w2.frozen? ⟨w.heap.size + 3, 2, none⟩ = false := br.frozen 2
      have f_br3 : w2.frozen? ⟨w.heap.size + 3, 3, none⟩ = false := br.frozen 3
      have f_br4 : w2.frozen? ⟨w.heap.size + 3, 4, none⟩ = false := br.frozen 4
      have f_br5 : w2.frozen? ⟨w.heap.size + 3, 5, none⟩ = false := br.frozen 5
      have f_br6 : w2.frozen? ⟨w.heap.size + 3, 6, none⟩ = false := br.frozen 6
      go_wp2_with fail
      exact bodyPost_ret (v := .tuple #[.agg #[.int .i64 sh, .int .i64 nx, .int .i64 fl, .int .i64 ac, .int .i64 fi, .int .i64 wa, .int .i64 li], .slice none 0 0, .int .i64 0]) (by simp [results, Try.results7, go_sem, q_br0, q_br1, q_br2, q_br3, q_br4, q_br5, q_br6]) rfl (post_no HD.out (below_set7 HB3.out (H := w.heap.size + 3) (by omega) _ _ _ _ _ _ _))
    · have g0 : ((xs.length : Int) == 0) = false := beq_eq_false_iff_ne.2 (by omega)
      have HNE := Lib.hid (show xs ≠ [] by rintro rfl; exact hx0 rfl)
      have HCN := Lib.hid (show cand nx li (l.map (·.r)) ≠ [] by rw [← HX.out]; intro h; exact HNE.out (List.map_eq_nil_iff.1 h))
      clear hx0
      have q_bp0 : w2.cell? ⟨w.heap.size + 1, 0, none⟩ = some (.int .i64 p0) := bp.cell 0
      have q_bp1 : w2.cell? ⟨w.heap.size + 1, 1, none⟩ = some (.int .i64 p1) := bp.cell 1
      have q_bp2 : w2.cell? ⟨w.heap.size + 1, 2, none⟩ = some (.int .i64 p2) := bp.cell 2
      go_wp2_with fail
      refine (Cut_ok p0 p1 p2 A2 c2 xs _ HC.out HI.out.recs hxb hxl).mono ?_
      rintro e w3 ⟨v, bs2, xs2, rfl, hout, hbs, hxs2, hbody, hb⟩
      clear q_bp0 q_bp1 q_bp2
      have bs : Blk w3 (w.heap.size) 23 #[.int .i64 sh, .int .i64 nx, .int .i64 fl, .int .i64 ac, .int .i64 fi, .int .i64 wa, .int .i64 li] := bs.on hb
      have bp : Blk w3 (w.heap.size + 1) 25 #[.int .i64 p0, .int .i64 p1, .int .i64 p2] := bp.on hb
      have bl : Blk w3 (w.heap.size + 2) 28 #[.slice A l.length ca] := bl.on hb
      have br : Blk w3 (w.heap.size + 3) 23 #[.int .i64 0, .int .i64 0, .int .i64 0, .int .i64 0, .int .i64 0, .int .i64 0, .int .i64 0] := br.on hb
      have HB4 := Lib.hid ((HB3.out).trans (hb.mono (by omega)))
      have hz4 : w.heap.size ≤ w3.heap.size := HB4.out.size
      clear hb
      obtain ⟨b0, bs', rfl⟩ := cut_some hbs (fun h => HNE.out (by have := congrArg List.length hxs2; rw [h] at this; simp at this; exact List.eq_nil_of_length_eq_zero this.symm))
      have HB0 := Lib.hid (show pollB ⟨sh, nx, fl, ac, fi, wa, li⟩ ⟨p0, p1, p2⟩ (l.map (·.r)) = b0.l.map (·.r) from head_eq hbs (hxs2.trans HX.out))
      obtain ⟨g, c5, rfl, hg1, hg2⟩ := hout.head
      have hown := hout.own b0 (by simp)
      have HR := Lib.hid (show RecsAt w3 w3.heap.size b0.a b0.l from hown.recs (Nat.le_refl _) fun x hx => hbody x (by have : (List.map (·.l) (b0 :: bs')).flatten = xs2 := (by rw [hbs, cutS_flatten]); rw [← this]; exact List.mem_flatten.2 ⟨b0.l, by simp, hx⟩))
      obtain ⟨g', x0, r0, ha, hg3, hl0, hg4⟩ := hown.first
      have HSQ := Lib.hid (show seqOf (b0.l.map (·.r)) = x0.r.seq by rw [hl0]; rfl)
      have hbl1 : 0 < b0.l.length := hown.1
      have hbl2 : b0.l.length ≤ 1000000 := by have h1 : (List.map (·.l) (b0 :: bs')).flatten.length = xs2.length := (by rw [hbs, cutS_flatten]); have h2 := congrArg List.length hxs2; simp at h1 h2; omega
      rw [ha] at hg2
      generalize hq : x0.r.seq = q at *
      have g1 : ((bs'.length : Int) + 1 == 0) = false := beq_eq_false_iff_ne.2 (by omega)
      have g2 : (0 : Int) < (bs'.length : Int) + 1 := by omega
      have g3 : (0 : Int) < (b0.l.length : Int) := by omega
      have HA := Lib.hid ha
      have HIS := Lib.hid (Ints.of bs)
      have HIR := Lib.hid (Ints.of br)
      have HG4 := Lib.hid hg4
      have HG2 := Lib.hid hg2
      clear hbs hxs2 hbody hown hl0 hq hout hg4 ha HX HI HNE
      have hac0 : (ac == 0) = true ∨ ((ac == 0) = false ∧ (decide (nx < q) = true ∨ decide (nx < q) = false)) := by by_cases h : ac = 0; exact .inl (beq_iff_eq.2 h); exact .inr ⟨beq_eq_false_iff_ne.2 h, by by_cases h2 : nx < q; exact .inl (decide_eq_true h2); exact .inr (decide_eq_false h2)⟩
      rcases hac0 with hc0 | ⟨hc0, hc1 | hc1⟩
      · have HT := Lib.hid (by have h := pollT1 (s := ⟨sh, nx, fl, ac, fi, wa, li⟩) (b := b0.l.map (·.r)) (now := now) (.inl (beq_iff_eq.1 hc0)); rw [HSQ.out, List.length_map] at h; exact h)
        have q_bs0 : w3.cell? ⟨w.heap.size, 0, none⟩ = some (.int .i64 sh) := bs.cell 0
        have q_bs1 : w3.cell? ⟨w.heap.size, 1, none⟩ = some (.int .i64 nx) := bs.cell 1
        have q_bs2 : w3.cell? ⟨w.heap.size, 2, none⟩ = some (.int .i64 fl) := bs.cell 2
        have q_bs3 : w3.cell? ⟨w.heap.size, 3, none⟩ = some (.int .i64 ac) := bs.cell 3
        have q_bs4 : w3.cell? ⟨w.heap.size, 4, none⟩ = some (.int .i64 fi) := bs.cell 4
        have q_bs5 : w3.cell? ⟨w.heap.size, 5, none⟩ = some (.int .i64 wa) := bs.cell 5
        have q_bs6 : w3.cell? ⟨w.heap.size, 6, none⟩ = some (.int .i64 li) := bs.cell 6
        have q_bp0 : w3.cell? ⟨w.heap.size + 1, 0, none⟩ = some (.int .i64 p0) := bp.cell 0
        have q_bp1 : w3.cell? ⟨w.heap.size + 1, 1, none⟩ = some (.int .i64 p1) := bp.cell 1
        have q_bp2 : w3.cell? ⟨w.heap.size + 1, 2, none⟩ = some (.int .i64 p2) := bp.cell 2
        have q_br0 : w3.cell? ⟨w.heap.size + 3, 0, none⟩ = some (.int .i64 0) := br.cell 0
        have q_br1 : w3.cell? ⟨w.heap.size + 3, 1, none⟩ = some (.int .i64 0) := br.cell 1
        have q_br2 : w3.cell? ⟨w.heap.size + 3, 2, none⟩ = some (.int .i64 0) := br.cell 2
        have q_br3 : w3.cell? ⟨w.heap.size + 3, 3, none⟩ = some (.int .i64 0) := br.cell 3
        have q_br4 : w3.cell? ⟨w.heap.size + 3, 4, none⟩ = some (.int .i64 0) := br.cell 4
        have q_br5 : w3.cell? ⟨w.heap.size + 3, 5, none⟩ = some (.int .i64 0) := br.cell 5
        have q_br6 : w3.cell? ⟨w.heap.size + 3, 6, none⟩ = some (.int .i64 0) := br.cell 6
        have f_bs0 : w3.frozen? ⟨w.heap.size, 0, none⟩ = false := bs.frozen 0
        have f_bs1 : w3.frozen? ⟨w.heap.size, 1, none⟩ = false := bs.frozen 1
        have f_bs2 : w3.frozen? ⟨w.heap.size, 2, none⟩ = false := bs.frozen 2
        have f_bs3 : w3.frozen? ⟨w.heap.size, 3, none⟩ = false := bs.frozen 3
        have f_bs4 : w3.frozen? ⟨w.heap.size, 4, none⟩ = false := bs.frozen 4
        have f_bs5 : w3.frozen? ⟨w.heap.size, 5, none⟩ = false := bs.frozen 5
        have f_bs6 : w3.frozen? ⟨w.heap.size, 6, none⟩ = false := bs.frozen 6
        have hg4 := HG4.out
        have hg2 := HG2.out
        go_wp2_with fail
        go_quiet (fail)
        go_wp2_with fail
        refine (checked_any sh q (b0.l.length : Int) 1 now wa li _).mono ?_
        rintro e w4 ⟨rfl, hb⟩
        have bs : Blk w4 (w.heap.size) 23 #[.int .i64 sh, .int .i64 q, .int .i64 (b0.l.length : Int), .int .i64 1, .int .i64 now, .int .i64 wa, .int .i64 li] := ((bs.drewN nq).p5 _ _ _ _ _).on hb
        have br : Blk w4 (w.heap.size + 3) 23 #[.int .i64 0, .int .i64 0, .int .i64 0, .int .i64 0, .int .i64 0, .int .i64 0, .int .i64 0] := (((((((br.drewN nq).far (p := ⟨w.heap.size, 3, none⟩) (by show w.heap.size + 3 ≠ w.heap.size; omega) _).far (p := ⟨w.heap.size, 4, none⟩) (by show w.heap.size + 3 ≠ w.heap.size; omega) _).far (p := ⟨w.heap.size, 3, none⟩) (by show w.heap.size + 3 ≠ w.heap.size; omega) _).far (p := ⟨w.heap.size, 1, none⟩) (by show w.heap.size + 3 ≠ w.heap.size; omega) _).far (p := ⟨w.heap.size, 2, none⟩) (by show w.heap.size + 3 ≠ w.heap.size; omega) _)).on hb
        have ho : Only w.heap.size (w.heap.size + 3) w3 w4 := ((((((((Only.refl w.heap.size (w.heap.size + 3) w3).drewN nq).set_ (p := ⟨w.heap.size, 3, none⟩) (.inl rfl) _).set_ (p := ⟨w.heap.size, 4, none⟩) (.inl rfl) _).set_ (p := ⟨w.heap.size, 3, none⟩) (.inl rfl) _).set_ (p := ⟨w.heap.size, 1, none⟩) (.inl rfl) _).set_ (p := ⟨w.heap.size, 2, none⟩) (.inl rfl) _)).below hb
        have HB9 := Lib.hid (show Below w.heap.size w w4 from (((((((HB4.out.trans (World.below_drewN' _ _ nq)).setCell (p := ⟨w.heap.size, 3, none⟩) hn0 _).setCell (p := ⟨w.heap.size, 4, none⟩) hn0 _).setCell (p := ⟨w.heap.size, 3, none⟩) hn0 _).setCell (p := ⟨w.heap.size, 1, none⟩) hn0 _).setCell (p := ⟨w.heap.size, 2, none⟩) hn0 _)).trans (hb.mono (by simp [World.setCell]; omega)))
        have hzw : w.heap.size + 3 < w4.heap.size := br.lt
        have HO := Lib.hid ho
        have HRT := Lib.hid (HR.out)
        clear hb ho hg4 hg2 q_bs0 q_bs1 q_bs2 q_bs3 q_bs4 q_bs5 q_bs6 q_bp0 q_bp1 q_bp2 q_br0 q_br1 q_br2 q_br3 q_br4 q_br5 q_br6 f_bs0 f_bs1 f_bs2 f_bs3 f_bs4 f_bs5 f_bs6
        by_cases he : MS.e ⟨sh, q, b0.l.length, 1, now, wa, li⟩ = 0
        rotate_left
        · have HD := Lib.hid (HN.out.trans (pollG3 HCN.out HB0.out HT.out he))
          rw [ck_no he]
          generalize MS.e ⟨sh, q, b0.l.length, 1, now, wa, li⟩ = n at *
          have hne : (n == 0) = false := beq_eq_false_iff_ne.2 he
          simp only [MR, MS.cs, MS.z]
          clear he
          have q_bs0 : w4.cell? ⟨w.heap.size, 0, none⟩ = some (.int .i64 sh) := bs.cell 0
          have q_bs1 : w4.cell? ⟨w.heap.size, 1, none⟩ = some (.int .i64 q) := bs.cell 1
          have q_bs2 : w4.cell? ⟨w.heap.size, 2, none⟩ = some (.int .i64 (b0.l.length : Int)) := bs.cell 2
          have q_bs3 : w4.cell? ⟨w.heap.size, 3, none⟩ = some (.int .i64 1) := bs.cell 3
          have q_bs4 : w4.cell? ⟨w.heap.size, 4, none⟩ = some (.int .i64 now) := bs.cell 4
          have q_bs5 : w4.cell? ⟨w.heap.size, 5, none⟩ = some (.int .i64 wa) := bs.cell 5
          have q_bs6 : w4.cell? ⟨w.heap.size, 6, none⟩ = some (.int .i64 li) := bs.cell 6
          have q_br0 : w4.cell? ⟨w.heap.size + 3, 0, none⟩ = some (.int .i64 0) := br.cell 0
          have q_br1 : w4.cell? ⟨w.heap.size + 3, 1, none⟩ = some (.int .i64 0) := br.cell 1
          have q_br2 : w4.cell? ⟨w.heap.size + 3, 2, none⟩ = some (.int .i64 0) := br.cell 2
          have q_br3 : w4.cell? ⟨w.heap.size + 3, 3, none⟩ = some (.int .i64 0) := br.cell 3
          have q_br4 : w4.cell? ⟨w.heap.size + 3, 4, none⟩ = some (.int .i64 0) := br.cell 4
          have q_br5 : w4.cell? ⟨w.heap.size + 3, 5, none⟩ = some (.int .i64 0) := br.cell 5
          have q_br6 : w4.cell? ⟨w.heap.size + 3, 6, none⟩ = some (.int .i64 0) := br.cell 6
          have f_bs0 : w4.frozen? ⟨w.heap.size, 0, none⟩ = false := bs.frozen 0
          have f_bs1 : w4.frozen? ⟨w.heap.size, 1, none⟩ = false := bs.frozen 1
          have f_bs2 : w4.frozen? ⟨w.heap.size, 2, none⟩ = false := bs.frozen 2
          have f_bs3 : w4.frozen? ⟨w.heap.size, 3, none⟩ = false := bs.frozen 3
          have f_bs4 : w4.frozen? ⟨w.heap.size, 4, none⟩ = false := bs.frozen 4
          have f_bs5 : w4.frozen? ⟨w.heap.size, 5, none⟩ = false := bs.frozen 5
          have f_bs6 : w4.frozen? ⟨w.heap.size, 6, none⟩ = false := bs.frozen 6
          have f_br0 : w4.frozen? ⟨w.heap.size + 3, 0, none⟩ = false := br.frozen 0
          have f_br1 : w4.frozen? ⟨w.heap.size + 3, 1, none⟩ = false := br.frozen 1
          have f_br2 : w4.frozen? ⟨w.heap.size + 3, 2, none⟩ = false := br.frozen 2
          have f_br3 : w4.frozen? ⟨w.heap.size + 3, 3, none⟩ = false := br.frozen 3
          have f_br4 : w4.frozen? ⟨w.heap.size + 3, 4, none⟩ = false := br.frozen 4
          have f_br5 : w4.frozen? ⟨w.heap.size + 3, 5, none⟩ = false := br.frozen 5
          have f_br6 : w4.frozen? ⟨w.heap.size + 3, 6, none⟩ = false := br.frozen 6
          go_wp2_with fail
          exact bodyPost_ret (v := .tuple #[.agg #[.int .i64 0, .int .i64 0, .int .i64 0, .int .i64 0, .int .i64 0, .int .i64 0, .int .i64 0], .slice none 0 0, .int .i64 2]) (by simp [results, Try.results7, go_sem, q_br0, q_br1, q_br2, q_br3, q_br4, q_br5, q_br6]) rfl (post_no HD.out (below_set7 (below_set7 HB9.out (H := w.heap.size) (by omega) _ _ _ _ _ _ _) (H := w.heap.size + 3) (by omega) _ _ _ _ _ _ _))
        · have HD := Lib.hid (HN.out.trans (pollG2 HCN.out HB0.out HT.out he))
          rw [ck_ok he]
          simp only [MR, MS.cs]
          clear he
          have q_bs0 : w4.cell? ⟨w.heap.size, 0, none⟩ = some (.int .i64 sh) := bs.cell 0
          have q_bs1 : w4.cell? ⟨w.heap.size, 1, none⟩ = some (.int .i64 q) := bs.cell 1
          have q_bs2 : w4.cell? ⟨w.heap.size, 2, none⟩ = some (.int .i64 (b0.l.length : Int)) := bs.cell 2
          have q_bs3 : w4.cell? ⟨w.heap.size, 3, none⟩ = some (.int .i64 1) := bs.cell 3
          have q_bs4 : w4.cell? ⟨w.heap.size, 4, none⟩ = some (.int .i64 now) := bs.cell 4
          have q_bs5 : w4.cell? ⟨w.heap.size, 5, none⟩ = some (.int .i64 wa) := bs.cell 5
          have q_bs6 : w4.cell? ⟨w.heap.size, 6, none⟩ = some (.int .i64 li) := bs.cell 6
          have q_br0 : w4.cell? ⟨w.heap.size + 3, 0, none⟩ = some (.int .i64 0) := br.cell 0
          have q_br1 : w4.cell? ⟨w.heap.size + 3, 1, none⟩ = some (.int .i64 0) := br.cell 1
          have q_br2 : w4.cell? ⟨w.heap.size + 3, 2, none⟩ = some (.int .i64 0) := br.cell 2
          have q_br3 : w4.cell? ⟨w.heap.size + 3, 3, none⟩ = some (.int .i64 0) := br.cell 3
          have q_br4 : w4.cell? ⟨w.heap.size + 3, 4, none⟩ = some (.int .i64 0) := br.cell 4
          have q_br5 : w4.cell? ⟨w.heap.size + 3, 5, none⟩ = some (.int .i64 0) := br.cell 5
          have q_br6 : w4.cell? ⟨w.heap.size + 3, 6, none⟩ = some (.int .i64 0) := br.cell 6
          have f_bs0 : w4.frozen? ⟨w.heap.size, 0, none⟩ = false := bs.frozen 0
          have f_bs1 : w4.frozen? ⟨w.heap.size, 1, none⟩ = false := bs.frozen 1
          have f_bs2 : w4.frozen? ⟨w.heap.size, 2, none⟩ = false := bs.frozen 2
          have f_bs3 : w4.frozen? ⟨w.heap.size, 3, none⟩ = false := bs.frozen 3
          have f_bs4 : w4.frozen? ⟨w.heap.size, 4, none⟩ = false := bs.frozen 4
          have f_bs5 : w4.frozen? ⟨w.heap.size, 5, none⟩ = false := bs.frozen 5
          have f_bs6 : w4.frozen? ⟨w.heap.size, 6, none⟩ = false := bs.frozen 6
          have f_br0 : w4.frozen? ⟨w.heap.size + 3, 0, none⟩ = false := br.frozen 0
          have f_br1 : w4.frozen? ⟨w.heap.size + 3, 1, none⟩ = false := br.frozen 1
          have f_br2 : w4.frozen? ⟨w.heap.size + 3, 2, none⟩ = false := br.frozen 2
          have f_br3 : w4.frozen? ⟨w.heap.size + 3, 3, none⟩ = false := br.frozen 3
          have f_br4 : w4.frozen? ⟨w.heap.size + 3, 4, none⟩ = false := br.frozen 4
          have f_br5 : w4.frozen? ⟨w.heap.size + 3, 5, none⟩ = false := br.frozen 5
          have f_br6 : w4.frozen? ⟨w.heap.size + 3, 6, none⟩ = false := br.frozen 6
          go_wp2_with fail
          exact bodyPost_ret (v := .tuple #[.agg #[.int .i64 sh, .int .i64 q, .int .i64 (b0.l.length : Int), .int .i64 1, .int .i64 now, .int .i64 wa, .int .i64 li], .slice (some ⟨g', 0, none⟩) b0.l.length b0.c, .int .i64 0]) (by simp [results, Try.results7, go_sem, q_br0, q_br1, q_br2, q_br3, q_br4, q_br5, q_br6]) rfl (post_yes HD.out (by rw [← HA.out]; exact RecsAt.only HR.out (Nat.le_refl _) ((HO.out.set7 (.inl rfl) _ _ _ _ _ _ _).set7 (.inr rfl) _ _ _ _ _ _ _) HIS.out HIR.out) (below_set7 (below_set7 HB9.out (H := w.heap.size) (by omega) _ _ _ _ _ _ _) (H := w.heap.size + 3) (by omega) _ _ _ _ _ _ _))
      · have HT := Lib.hid (by have h := pollT1 (s := ⟨sh, nx, fl, ac, fi, wa, li⟩) (b := b0.l.map (·.r)) (now := now) (.inr (by rw [HSQ.out]; exact of_decide_eq_true hc1)); rw [HSQ.out, List.length_map] at h; exact h)
        have q_bs0 : w3.cell? ⟨w.heap.size, 0, none⟩ = some (.int .i64 sh) := bs.cell 0
        have q_bs1 : w3.cell? ⟨w.heap.size, 1, none⟩ = some (.int .i64 nx) := bs.cell 1
        have q_bs2 : w3.cell? ⟨w.heap.size, 2, none⟩ = some (.int .i64 fl) := bs.cell 2
        have q_bs3 : w3.cell? ⟨w.heap.size, 3, none⟩ = some (.int .i64 ac) := bs.cell 3
        have q_bs4 : w3.cell? ⟨w.heap.size, 4, none⟩ = some (.int .i64 fi) := bs.cell 4
        have q_bs5 : w3.cell? ⟨w.heap.size, 5, none⟩ = some (.int .i64 wa) := bs.cell 5
        have q_bs6 : w3.cell? ⟨w.heap.size, 6, none⟩ = some (.int .i64 li) := bs.cell 6
        have q_bp0 : w3.cell? ⟨w.heap.size + 1, 0, none⟩ = some (.int .i64 p0) := bp.cell 0
        have q_bp1 : w3.cell? ⟨w.heap.size + 1, 1, none⟩ = some (.int .i64 p1) := bp.cell 1
        have q_bp2 : w3.cell? ⟨w.heap.size + 1, 2, none⟩ = some (.int .i64 p2) := bp.cell 2
        have q_br0 : w3.cell? ⟨w.heap.size + 3, 0, none⟩ = some (.int .i64 0) := br.cell 0
        have q_br1 : w3.cell? ⟨w.heap.size + 3, 1, none⟩ = some (.int .i64 0) := br.cell 1
        have q_br2 : w3.cell? ⟨w.heap.size + 3, 2, none⟩ = some (.int .i64 0) := br.cell 2
        have q_br3 : w3.cell? ⟨w.heap.size + 3, 3, none⟩ = some (.int .i64 0) := br.cell 3
        have q_br4 : w3.cell? ⟨w.heap.size + 3, 4, none⟩ = some (.int .i64 0) := br.cell 4
        have q_br5 : w3.cell? ⟨w.heap.size + 3, 5, none⟩ = some (.int .i64 0) := br.cell 5
        have q_br6 : w3.cell? ⟨w.heap.size + 3, 6, none⟩ = some (.int .i64 0) := br.cell 6
        have f_bs0 : w3.frozen? ⟨w.heap.size, 0, none⟩ = false := bs.frozen 0
        have f_bs1 : w3.frozen? ⟨w.heap.size, 1, none⟩ = false := bs.frozen 1
        have f_bs2 : w3.frozen? ⟨w.heap.size, 2, none⟩ = false := bs.frozen 2
        have f_bs3 : w3.frozen? ⟨w.heap.size, 3, none⟩ = false := bs.frozen 3
        have f_bs4 : w3.frozen? ⟨w.heap.size, 4, none⟩ = false := bs.frozen 4
        have f_bs5 : w3.frozen? ⟨w.heap.size, 5, none⟩ = false := bs.frozen 5
        have f_bs6 : w3.frozen? ⟨w.heap.size, 6, none⟩ = false := bs.frozen 6
        have hg4 := HG4.out
        have hg2 := HG2.out
        go_wp2_with fail
        go_quiet (fail)
        go_wp2_with fail
        refine (checked_any sh q (b0.l.length : Int) 1 now wa li _).mono ?_
        rintro e w4 ⟨rfl, hb⟩
        have bs : Blk w4 (w.heap.size) 23 #[.int .i64 sh, .int .i64 q, .int .i64 (b0.l.length : Int), .int .i64 1, .int .i64 now, .int .i64 wa, .int .i64 li] := ((bs.drewN nq).p5 _ _ _ _ _).on hb
        have br : Blk w4 (w.heap.size + 3) 23 #[.int .i64 0, .int .i64 0, .int .i64 0, .int .i64 0, .int .i64 0, .int .i64 0, .int .i64 0] := (((((((br.drewN nq).far (p := ⟨w.heap.size, 3, none⟩) (by show w.heap.size + 3 ≠ w.heap.size; omega) _).far (p := ⟨w.heap.size, 4, none⟩) (by show w.heap.size + 3 ≠ w.heap.size; omega) _).far (p := ⟨w.heap.size, 3, none⟩) (by show w.heap.size + 3 ≠ w.heap.size; omega) _).far (p := ⟨w.heap.size, 1, none⟩) (by show w.heap.size + 3 ≠ w.heap.size; omega) _).far (p := ⟨w.heap.size, 2, none⟩) (by show w.heap.size + 3 ≠ w.heap.size; omega) _)).on hb
        have ho : Only w.heap.size (w.heap.size + 3) w3 w4 := ((((((((Only.refl w.heap.size (w.heap.size + 3) w3).drewN nq).set_ (p := ⟨w.heap.size, 3, none⟩) (.inl rfl) _).set_ (p := ⟨w.heap.size, 4, none⟩) (.inl rfl) _).set_ (p := ⟨w.heap.size, 3, none⟩) (.inl rfl) _).set_ (p := ⟨w.heap.size, 1, none⟩) (.inl rfl) _).set_ (p := ⟨w.heap.size, 2, none⟩) (.inl rfl) _)).below hb
        have HB9 := Lib.hid (show Below w.heap.size w w4 from (((((((HB4.out.trans (World.below_drewN' _ _ nq)).setCell (p := ⟨w.heap.size, 3, none⟩) hn0 _).setCell (p := ⟨w.heap.size, 4, none⟩) hn0 _).setCell (p := ⟨w.heap.size, 3, none⟩) hn0 _).setCell (p := ⟨w.heap.size, 1, none⟩) hn0 _).setCell (p := ⟨w.heap.size, 2, none⟩) hn0 _)).trans (hb.mono (by simp [World.setCell]; omega)))
        have hzw : w.heap.size + 3 < w4.heap.size := br.lt
        have HO := Lib.hid ho
        have HRT := Lib.hid (HR.out)
        clear hb ho hg4 hg2 q_bs0 q_bs1 q_bs2 q_bs3 q_bs4 q_bs5 q_bs6 q_bp0 q_bp1 q_bp2 q_br0 q_br1 q_br2 q_br3 q_br4 q_br5 q_br6 f_bs0 f_bs1 f_bs2 f_bs3 f_bs4 f_bs5 f_bs6
        by_cases he : MS.e ⟨sh, q, b0.l.length, 1, now, wa, li⟩ = 0
        rotate_left
        · have HD := Lib.hid (HN.out.trans (pollG3 HCN.out HB0.out HT.out he))
          rw [ck_no he]
          generalize MS.e ⟨sh, q, b0.l.length, 1, now, wa, li⟩ = n at *
          have hne : (n == 0) = false := beq_eq_false_iff_ne.2 he
          simp only [MR, MS.cs, MS.z]
          clear he
          have q_bs0 : w4.cell? ⟨w.heap.size, 0, none⟩ = some (.int .i64 sh) := bs.cell 0
          have q_bs1 : w4.cell? ⟨w.heap.size, 1, none⟩ = some (.int .i64 q) := bs.cell 1
          have q_bs2 : w4.cell? ⟨w.heap.size, 2, none⟩ = some (.int .i64 (b0.l.length : Int)) := bs.cell 2
          have q_bs3 : w4.cell? ⟨w.heap.size, 3, none⟩ = some (.int .i64 1) := bs.cell 3
          have q_bs4 : w4.cell? ⟨w.heap.size, 4, none⟩ = some (.int .i64 now) := bs.cell 4
          have q_bs5 : w4.cell? ⟨w.heap.size, 5, none⟩ = some (.int .i64 wa) := bs.cell 5
          have q_bs6 : w4.cell? ⟨w.heap.size, 6, none⟩ = some (.int .i64 li) := bs.cell 6
          have q_br0 : w4.cell? ⟨w.heap.size + 3, 0, none⟩ = some (.int .i64 0) := br.cell 0
          have q_br1 : w4.cell? ⟨w.heap.size + 3, 1, none⟩ = some (.int .i64 0) := br.cell 1
          have q_br2 : w4.cell? ⟨w.heap.size + 3, 2, none⟩ = some (.int .i64 0) := br.cell 2
          have q_br3 : w4.cell? ⟨w.heap.size + 3, 3, none⟩ = some (.int .i64 0) := br.cell 3
          have q_br4 : w4.cell? ⟨w.heap.size + 3, 4, none⟩ = some (.int .i64 0) := br.cell 4
          have q_br5 : w4.cell? ⟨w.heap.size + 3, 5, none⟩ = some (.int .i64 0) := br.cell 5
          have q_br6 : w4.cell? ⟨w.heap.size + 3, 6, none⟩ = some (.int .i64 0) := br.cell 6
          have f_bs0 : w4.frozen? ⟨w.heap.size, 0, none⟩ = false := bs.frozen 0
          have f_bs1 : w4.frozen? ⟨w.heap.size, 1, none⟩ = false := bs.frozen 1
          have f_bs2 : w4.frozen? ⟨w.heap.size, 2, none⟩ = false := bs.frozen 2
          have f_bs3 : w4.frozen? ⟨w.heap.size, 3, none⟩ = false := bs.frozen 3
          have f_bs4 : w4.frozen? ⟨w.heap.size, 4, none⟩ = false := bs.frozen 4
          have f_bs5 : w4.frozen? ⟨w.heap.size, 5, none⟩ = false := bs.frozen 5
          have f_bs6 : w4.frozen? ⟨w.heap.size, 6, none⟩ = false := bs.frozen 6
          have f_br0 : w4.frozen? ⟨w.heap.size + 3, 0, none⟩ = false := br.frozen 0
          have f_br1 : w4.frozen? ⟨w.heap.size + 3, 1, none⟩ = false := br.frozen 1
          have f_br2 : w4.frozen? ⟨w.heap.size + 3, 2, none⟩ = false := br.frozen 2
          have f_br3 : w4.frozen? ⟨w.heap.size + 3, 3, none⟩ = false := br.frozen 3
          have f_br4 : w4.frozen? ⟨w.heap.size + 3, 4, none⟩ = false := br.frozen 4
          have f_br5 : w4.frozen? ⟨w.heap.size + 3, 5, none⟩ = false := br.frozen 5
          have f_br6 : w4.frozen? ⟨w.heap.size + 3, 6, none⟩ = false := br.frozen 6
          go_wp2_with fail
          exact bodyPost_ret (v := .tuple #[.agg #[.int .i64 0, .int .i64 0, .int .i64 0, .int .i64 0, .int .i64 0, .int .i64 0, .int .i64 0], .slice none 0 0, .int .i64 2]) (by simp [results, Try.results7, go_sem, q_br0, q_br1, q_br2, q_br3, q_br4, q_br5, q_br6]) rfl (post_no HD.out (below_set7 (below_set7 HB9.out (H := w.heap.size) (by omega) _ _ _ _ _ _ _) (H := w.heap.size + 3) (by omega) _ _ _ _ _ _ _))
        · have HD := Lib.hid (HN.out.trans (pollG2 HCN.out HB0.out HT.out he))
          rw [ck_ok he]
          simp only [MR, MS.cs]
          clear he
          have q_bs0 : w4.cell? ⟨w.heap.size, 0, none⟩ = some (.int .i64 sh) := bs.cell 0
          have q_bs1 : w4.cell? ⟨w.heap.size, 1, none⟩ = some (.int .i64 q) := bs.cell 1
          have q_bs2 : w4.cell? ⟨w.heap.size, 2, none⟩ = some (.int .i64 (b0.l.length : Int)) := bs.cell 2
          have q_bs3 : w4.cell? ⟨w.heap.size, 3, none⟩ = some (.int .i64 1) := bs.cell 3
          have q_bs4 : w4.cell? ⟨w.heap.size, 4, none⟩ = some (.int .i64 now) := bs.cell 4
          have q_bs5 : w4.cell? ⟨w.heap.size, 5, none⟩ = some (.int .i64 wa) := bs.cell 5
          have q_bs6 : w4.cell? ⟨w.heap.size, 6, none⟩ = some (.int .i64 li) := bs.cell 6
          have q_br0 : w4.cell? ⟨w.heap.size + 3, 0, none⟩ = some (.int .i64 0) := br.cell 0
          have q_br1 : w4.cell? ⟨w.heap.size + 3, 1, none⟩ = some (.int .i64 0) := br.cell 1
          have q_br2 : w4.cell? ⟨w.heap.size + 3, 2, none⟩ = some (.int .i64 0) := br.cell 2
          have q_br3 : w4.cell? ⟨w.heap.size + 3, 3, none⟩ = some (.int .i64 0) := br.cell 3
          have q_br4 : w4.cell? ⟨w.heap.size + 3, 4, none⟩ = some (.int .i64 0) := br.cell 4
          have q_br5 : w4.cell? ⟨w.heap.size + 3, 5, none⟩ = some (.int .i64 0) := br.cell 5
          have q_br6 : w4.cell? ⟨w.heap.size + 3, 6, none⟩ = some (.int .i64 0) := br.cell 6
          have f_bs0 : w4.frozen? ⟨w.heap.size, 0, none⟩ = false := bs.frozen 0
          have f_bs1 : w4.frozen? ⟨w.heap.size, 1, none⟩ = false := bs.frozen 1
          have f_bs2 : w4.frozen? ⟨w.heap.size, 2, none⟩ = false := bs.frozen 2
          have f_bs3 : w4.frozen? ⟨w.heap.size, 3, none⟩ = false := bs.frozen 3
          have f_bs4 : w4.frozen? ⟨w.heap.size, 4, none⟩ = false := bs.frozen 4
          have f_bs5 : w4.frozen? ⟨w.heap.size, 5, none⟩ = false := bs.frozen 5
          have f_bs6 : w4.frozen? ⟨w.heap.size, 6, none⟩ = false := bs.frozen 6
          have f_br0 : w4.frozen? ⟨w.heap.size + 3, 0, none⟩ = false := br.frozen 0
          have f_br1 : w4.frozen? ⟨w.heap.size + 3, 1, none⟩ = false := br.frozen 1
          have f_br2 : w4.frozen? ⟨w.heap.size + 3, 2, none⟩ = false := br.frozen 2
          have f_br3 : w4.frozen? ⟨w.heap.size + 3, 3, none⟩ = false := br.frozen 3
          have f_br4 : w4.frozen? ⟨w.heap.size + 3, 4, none⟩ = false := br.frozen 4
          have f_br5 : w4.frozen? ⟨w.heap.size + 3, 5, none⟩ = false := br.frozen 5
          have f_br6 : w4.frozen? ⟨w.heap.size + 3, 6, none⟩ = false := br.frozen 6
          go_wp2_with fail
          exact bodyPost_ret (v := .tuple #[.agg #[.int .i64 sh, .int .i64 q, .int .i64 (b0.l.length : Int), .int .i64 1, .int .i64 now, .int .i64 wa, .int .i64 li], .slice (some ⟨g', 0, none⟩) b0.l.length b0.c, .int .i64 0]) (by simp [results, Try.results7, go_sem, q_br0, q_br1, q_br2, q_br3, q_br4, q_br5, q_br6]) rfl (post_yes HD.out (by rw [← HA.out]; exact RecsAt.only HR.out (Nat.le_refl _) ((HO.out.set7 (.inl rfl) _ _ _ _ _ _ _).set7 (.inr rfl) _ _ _ _ _ _ _) HIS.out HIR.out) (below_set7 (below_set7 HB9.out (H := w.heap.size) (by omega) _ _ _ _ _ _ _) (H := w.heap.size + 3) (by omega) _ _ _ _ _ _ _))
      · have HT := Lib.hid (by have h := pollT2 (s := ⟨sh, nx, fl, ac, fi, wa, li⟩) (b := b0.l.map (·.r)) (now := now) (beq_eq_false_iff_ne.1 hc0) (by rw [HSQ.out]; exact of_decide_eq_false hc1); rw [HSQ.out, List.length_map] at h; exact h)
        have q_bs0 : w3.cell? ⟨w.heap.size, 0, none⟩ = some (.int .i64 sh) := bs.cell 0
        have q_bs1 : w3.cell? ⟨w.heap.size, 1, none⟩ = some (.int .i64 nx) := bs.cell 1
        have q_bs2 : w3.cell? ⟨w.heap.size, 2, none⟩ = some (.int .i64 fl) := bs.cell 2
        have q_bs3 : w3.cell? ⟨w.heap.size, 3, none⟩ = some (.int .i64 ac) := bs.cell 3
        have q_bs4 : w3.cell? ⟨w.heap.size, 4, none⟩ = some (.int .i64 fi) := bs.cell 4
        have q_bs5 : w3.cell? ⟨w.heap.size, 5, none⟩ = some (.int .i64 wa) := bs.cell 5
        have q_bs6 : w3.cell? ⟨w.heap.size, 6, none⟩ = some (.int .i64 li) := bs.cell 6
        have q_bp0 : w3.cell? ⟨w.heap.size + 1, 0, none⟩ = some (.int .i64 p0) := bp.cell 0
        have q_bp1 : w3.cell? ⟨w.heap.size + 1, 1, none⟩ = some (.int .i64 p1) := bp.cell 1
        have q_bp2 : w3.cell? ⟨w.heap.size + 1, 2, none⟩ = some (.int .i64 p2) := bp.cell 2
        have q_br0 : w3.cell? ⟨w.heap.size + 3, 0, none⟩ = some (.int .i64 0) := br.cell 0
        have q_br1 : w3.cell? ⟨w.heap.size + 3, 1, none⟩ = some (.int .i64 0) := br.cell 1
        have q_br2 : w3.cell? ⟨w.heap.size + 3, 2, none⟩ = some (.int .i64 0) := br.cell 2
        have q_br3 : w3.cell? ⟨w.heap.size + 3, 3, none⟩ = some (.int .i64 0) := br.cell 3
        have q_br4 : w3.cell? ⟨w.heap.size + 3, 4, none⟩ = some (.int .i64 0) := br.cell 4
        have q_br5 : w3.cell? ⟨w.heap.size + 3, 5, none⟩ = some (.int .i64 0) := br.cell 5
        have q_br6 : w3.cell? ⟨w.heap.size + 3, 6, none⟩ = some (.int .i64 0) := br.cell 6
        have f_bs0 : w3.frozen? ⟨w.heap.size, 0, none⟩ = false := bs.frozen 0
        have f_bs1 : w3.frozen? ⟨w.heap.size, 1, none⟩ = false := bs.frozen 1
        have f_bs2 : w3.frozen? ⟨w.heap.size, 2, none⟩ = false := bs.frozen 2
        have f_bs3 : w3.frozen? ⟨w.heap.size, 3, none⟩ = false := bs.frozen 3
        have f_bs4 : w3.frozen? ⟨w.heap.size, 4, none⟩ = false := bs.frozen 4
        have f_bs5 : w3.frozen? ⟨w.heap.size, 5, none⟩ = false := bs.frozen 5
        have f_bs6 : w3.frozen? ⟨w.heap.size, 6, none⟩ = false := bs.frozen 6
        have hg4 := HG4.out
        have hg2 := HG2.out
        go_wp2_with fail
        go_quiet (fail)
        go_wp2_with fail
        refine (checked_any sh q (b0.l.length : Int) (ac + 1) fi wa li _).mono ?_
        rintro e w4 ⟨rfl, hb⟩
        have bs : Blk w4 (w.heap.size) 23 #[.int .i64 sh, .int .i64 q, .int .i64 (b0.l.length : Int), .int .i64 (ac + 1), .int .i64 fi, .int .i64 wa, .int .i64 li] := ((bs.drewN nq).p3 _ _ _).on hb
        have br : Blk w4 (w.heap.size + 3) 23 #[.int .i64 0, .int .i64 0, .int .i64 0, .int .i64 0, .int .i64 0, .int .i64 0, .int .i64 0] := (((((br.drewN nq).far (p := ⟨w.heap.size, 3, none⟩) (by show w.heap.size + 3 ≠ w.heap.size; omega) _).far (p := ⟨w.heap.size, 1, none⟩) (by show w.heap.size + 3 ≠ w.heap.size; omega) _).far (p := ⟨w.heap.size, 2, none⟩) (by show w.heap.size + 3 ≠ w.heap.size; omega) _)).on hb
        have ho : Only w.heap.size (w.heap.size + 3) w3 w4 := ((((((Only.refl w.heap.size (w.heap.size + 3) w3).drewN nq).set_ (p := ⟨w.heap.size, 3, none⟩) (.inl rfl) _).set_ (p := ⟨w.heap.size, 1, none⟩) (.inl rfl) _).set_ (p := ⟨w.heap.size, 2, none⟩) (.inl rfl) _)).below hb
        have HB9 := Lib.hid (show Below w.heap.size w w4 from (((((HB4.out.trans (World.below_drewN' _ _ nq)).setCell (p := ⟨w.heap.size, 3, none⟩) hn0 _).setCell (p := ⟨w.heap.size, 1, none⟩) hn0 _).setCell (p := ⟨w.heap.size, 2, none⟩) hn0 _)).trans (hb.mono (by simp [World.setCell]; omega)))
        have hzw : w.heap.size + 3 < w4.heap.size := br.lt
        have HO := Lib.hid ho
        have HRT := Lib.hid (HR.out)
        clear hb ho hg4 hg2 q_bs0 q_bs1 q_bs2 q_bs3 q_bs4 q_bs5 q_bs6 q_bp0 q_bp1 q_bp2 q_br0 q_br1 q_br2 q_br3 q_br4 q_br5 q_br6 f_bs0 f_bs1 f_bs2 f_bs3 f_bs4 f_bs5 f_bs6
        by_cases he : MS.e ⟨sh, q, b0.l.length, (ac + 1), fi, wa, li⟩ = 0
        rotate_left
        · have HD := Lib.hid (HN.out.trans (pollG3 HCN.out HB0.out HT.out he))
          rw [ck_no he]
          generalize MS.e ⟨sh, q, b0.l.length, (ac + 1), fi, wa, li⟩ = n at *
          have hne : (n == 0) = false := beq_eq_false_iff_ne.2 he
          simp only [MR, MS.cs, MS.z]
          clear he
          have q_bs0 : w4.cell? ⟨w.heap.size, 0, none⟩ = some (.int .i64 sh) := bs.cell 0
          have q_bs1 : w4.cell? ⟨w.heap.size, 1, none⟩ = some (.int .i64 q) := bs.cell 1
          have q_bs2 : w4.cell? ⟨w.heap.size, 2, none⟩ = some (.int .i64 (b0.l.length : Int)) := bs.cell 2
          have q_bs3 : w4.cell? ⟨w.heap.size, 3, none⟩ = some (.int .i64 (ac + 1)) := bs.cell 3
          have q_bs4 : w4.cell? ⟨w.heap.size, 4, none⟩ = some (.int .i64 fi) := bs.cell 4
          have q_bs5 : w4.cell? ⟨w.heap.size, 5, none⟩ = some (.int .i64 wa) := bs.cell 5
          have q_bs6 : w4.cell? ⟨w.heap.size, 6, none⟩ = some (.int .i64 li) := bs.cell 6
          have q_br0 : w4.cell? ⟨w.heap.size + 3, 0, none⟩ = some (.int .i64 0) := br.cell 0
          have q_br1 : w4.cell? ⟨w.heap.size + 3, 1, none⟩ = some (.int .i64 0) := br.cell 1
          have q_br2 : w4.cell? ⟨w.heap.size + 3, 2, none⟩ = some (.int .i64 0) := br.cell 2
          have q_br3 : w4.cell? ⟨w.heap.size + 3, 3, none⟩ = some (.int .i64 0) := br.cell 3
          have q_br4 : w4.cell? ⟨w.heap.size + 3, 4, none⟩ = some (.int .i64 0) := br.cell 4
          have q_br5 : w4.cell? ⟨w.heap.size + 3, 5, none⟩ = some (.int .i64 0) := br.cell 5
          have q_br6 : w4.cell? ⟨w.heap.size + 3, 6, none⟩ = some (.int .i64 0) := br.cell 6
          have f_bs0 : w4.frozen? ⟨w.heap.size, 0, none⟩ = false := bs.frozen 0
          have f_bs1 : w4.frozen? ⟨w.heap.size, 1, none⟩ = false := bs.frozen 1
          have f_bs2 : w4.frozen? ⟨w.heap.size, 2, none⟩ = false := bs.frozen 2
          have f_bs3 : w4.frozen? ⟨w.heap.size, 3, none⟩ = false := bs.frozen 3
          have f_bs4 : w4.frozen? ⟨w.heap.size, 4, none⟩ = false := bs.frozen 4
          have f_bs5 : w4.frozen? ⟨w.heap.size, 5, none⟩ = false := bs.frozen 5
          have f_bs6 : w4.frozen? ⟨w.heap.size, 6, none⟩ = false := bs.frozen 6
          have f_br0 : w4.frozen? ⟨w.heap.size + 3, 0, none⟩ = false := br.frozen 0
          have f_br1 : w4.frozen? ⟨w.heap.size + 3, 1, none⟩ = false := br.frozen 1
          have f_br2 : w4.frozen? ⟨w.heap.size + 3, 2, none⟩ = false := br.frozen 2
          have f_br3 : w4.frozen? ⟨w.heap.size + 3, 3, none⟩ = false := br.frozen 3
          have f_br4 : w4.frozen? ⟨w.heap.size + 3, 4, none⟩ = false := br.frozen 4
          have f_br5 : w4.frozen? ⟨w.heap.size + 3, 5, none⟩ = false := br.frozen 5
          have f_br6 : w4.frozen? ⟨w.heap.size + 3, 6, none⟩ = false := br.frozen 6
          go_wp2_with fail
          exact bodyPost_ret (v := .tuple #[.agg #[.int .i64 0, .int .i64 0, .int .i64 0, .int .i64 0, .int .i64 0, .int .i64 0, .int .i64 0], .slice none 0 0, .int .i64 2]) (by simp [results, Try.results7, go_sem, q_br0, q_br1, q_br2, q_br3, q_br4, q_br5, q_br6]) rfl (post_no HD.out (below_set7 (below_set7 HB9.out (H := w.heap.size) (by omega) _ _ _ _ _ _ _) (H := w.heap.size + 3) (by omega) _ _ _ _ _ _ _))
        · have HD := Lib.hid (HN.out.trans (pollG2 HCN.out HB0.out HT.out he))
          rw [ck_ok he]
          simp only [MR, MS.cs]
          clear he
          have q_bs0 : w4.cell? ⟨w.heap.size, 0, none⟩ = some (.int .i64 sh) := bs.cell 0
          have q_bs1 : w4.cell? ⟨w.heap.size, 1, none⟩ = some (.int .i64 q) := bs.cell 1
          have q_bs2 : w4.cell? ⟨w.heap.size, 2, none⟩ = some (.int .i64 (b0.l.length : Int)) := bs.cell 2
          have q_bs3 : w4.cell? ⟨w.heap.size, 3, none⟩ = some (.int .i64 (ac + 1)) := bs.cell 3
          have q_bs4 : w4.cell? ⟨w.heap.size, 4, none⟩ = some (.int .i64 fi) := bs.cell 4
          have q_bs5 : w4.cell? ⟨w.heap.size, 5, none⟩ = some (.int .i64 wa) := bs.cell 5
          have q_bs6 : w4.cell? ⟨w.heap.size, 6, none⟩ = some (.int .i64 li) := bs.cell 6
          have q_br0 : w4.cell? ⟨w.heap.size + 3, 0, none⟩ = some (.int .i64 0) := br.cell 0
          have q_br1 : w4.cell? ⟨w.heap.size + 3, 1, none⟩ = some (.int .i64 0) := br.cell 1
          have q_br2 : w4.cell? ⟨w.heap.size + 3, 2, none⟩ = some (.int .i64 0) := br.cell 2
          have q_br3 : w4.cell? ⟨w.heap.size + 3, 3, none⟩ = some (.int .i64 0) := br.cell 3
          have q_br4 : w4.cell? ⟨w.heap.size + 3, 4, none⟩ = some (.int .i64 0) := br.cell 4
          have q_br5 : w4.cell? ⟨w.heap.size + 3, 5, none⟩ = some (.int .i64 0) := br.cell 5
          have q_br6 : w4.cell? ⟨w.heap.size + 3, 6, none⟩ = some (.int .i64 0) := br.cell 6
          have f_bs0 : w4.frozen? ⟨w.heap.size, 0, none⟩ = false := bs.frozen 0
          have f_bs1 : w4.frozen? ⟨w.heap.size, 1, none⟩ = false := bs.frozen 1
          have f_bs2 : w4.frozen? ⟨w.heap.size, 2, none⟩ = false := bs.frozen 2
          have f_bs3 : w4.frozen? ⟨w.heap.size, 3, none⟩ = false := bs.frozen 3
          have f_bs4 : w4.frozen? ⟨w.heap.size, 4, none⟩ = false := bs.frozen 4
          have f_bs5 : w4.frozen? ⟨w.heap.size, 5, none⟩ = false := bs.frozen 5
          have f_bs6 : w4.frozen? ⟨w.heap.size, 6, none⟩ = false := bs.frozen 6
          have f_br0 : w4.frozen? ⟨w.heap.size + 3, 0, none⟩ = false := br.frozen 0
          have f_br1 : w4.frozen? ⟨w.heap.size + 3, 1, none⟩ = false := br.frozen 1
          have f_br2 : w4.frozen? ⟨w.heap.size + 3, 2, none⟩ = false := br.frozen 2
          have f_br3 : w4.frozen? ⟨w.heap.size + 3, 3, none⟩ = false := br.frozen 3
          have f_br4 : w4.frozen? ⟨w.heap.size + 3, 4, none⟩ = false := br.frozen 4
          have f_br5 : w4.frozen? ⟨w.heap.size + 3, 5, none⟩ = false := br.frozen 5
          have f_br6 : w4.frozen? ⟨w.heap.size + 3, 6, none⟩ = false := br.frozen 6
          go_wp2_with fail
          exact bodyPost_ret (v := .tuple #[.agg #[.int .i64 sh, .int .i64 q, .int .i64 (b0.l.length : Int), .int .i64 (ac + 1), .int .i64 fi, .int .i64 wa, .int .i64 li], .slice (some ⟨g', 0, none⟩) b0.l.length b0.c, .int .i64 0]) (by simp [results, Try.results7, go_sem, q_br0, q_br1, q_br2, q_br3, q_br4, q_br5, q_br6]) rfl (post_yes HD.out (by rw [← HA.out]; exact RecsAt.only HR.out (Nat.le_refl _) ((HO.out.set7 (.inl rfl) _ _ _ _ _ _ _).set7 (.inr rfl) _ _ _ _ _ _ _) HIS.out HIR.out) (below_set7 (below_set7 HB9.out (H := w.heap.size) (by omega) _ _ _ _ _ _ _) (H := w.heap.size + 3) (by omega) _ _ _ _ _ _ _))
end Go.Proofs.Ytojghgeemdpmpaa
