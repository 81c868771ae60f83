/- The conditions of Poll; the reference's ready. -/
import Derived.Test.YtojghgeemdpmpaaMCK
namespace Go.Proofs.Ytojghgeemdpmpaa
open Go.RowKit
open Go.Sort (grow)
open BO (inB)

/-- The errors of Poll ahead of the cut. -/
def pollE (s : MS) (p : Pol) (l : List Rec) (now : Int) : Int := firstE [s.e, checkE p, whenE (!inB now 0 1073741824) 2, whenE (decide (256 < l.length)) 3, whenE (!ordB s.sh l) 11, whenE (s.fl != 0) 10, whenE (decide (now < s.wa)) 17]
section
variable {s : MS} {p : Pol} {l : List Rec} {now : Int}
theorem firstE_go {e : Int} {r : List Int} (h : e = 0) : firstE (e :: r) = firstE r := if_pos h
theorem firstE_no {e : Int} {r : List Int} (h : e ≠ 0) : firstE (e :: r) = e := if_neg h
theorem whenE_t {b : Bool} {x : Int} (h : b = true) : whenE b x = x := if_pos h
theorem whenE_f {b : Bool} {x : Int} (h : b = false) : whenE b x = 0 := by rw [whenE, h]; rfl
theorem pollE0 (h : s.e ≠ 0) : pollE s p l now = s.e := by unfold pollE; rw [firstE_no h]
theorem pollE1 (h0 : s.e = 0) (h : checkE p ≠ 0) : pollE s p l now = checkE p := by unfold pollE; rw [firstE_go h0, firstE_no h]
theorem pollE2 (h0 : s.e = 0) (h1 : checkE p = 0) (h : inB now 0 1073741824 = false) : pollE s p l now = 2 := by unfold pollE; rw [firstE_go h0, firstE_go h1, firstE_no (by rw [whenE_t (by rw [h]; rfl)]; decide), whenE_t (by rw [h]; rfl)]
theorem pollE3 (h0 : s.e = 0) (h1 : checkE p = 0) (h2 : inB now 0 1073741824 = true) (h : 256 < l.length) : pollE s p l now = 3 := by unfold pollE; rw [firstE_go h0, firstE_go h1, firstE_go (whenE_f (by rw [h2]; rfl)), firstE_no (by rw [whenE_t (decide_eq_true h)]; decide), whenE_t (decide_eq_true h)]
theorem pollE4 (h0 : s.e = 0) (h1 : checkE p = 0) (h2 : inB now 0 1073741824 = true) (h3 : ¬ 256 < l.length) (h : ordB s.sh l = false) : pollE s p l now = 11 := by unfold pollE; rw [firstE_go h0, firstE_go h1, firstE_go (whenE_f (by rw [h2]; rfl)), firstE_go (whenE_f (decide_eq_false h3)), firstE_no (by rw [whenE_t (by rw [h]; rfl)]; decide), whenE_t (by rw [h]; rfl)]
theorem pollE5 (h0 : s.e = 0) (h1 : checkE p = 0) (h2 : inB now 0 1073741824 = true) (h3 : ¬ 256 < l.length) (h4 : ordB s.sh l = true) (h : (s.fl != 0) = true) : pollE s p l now = 10 := by unfold pollE; rw [firstE_go h0, firstE_go h1, firstE_go (whenE_f (by rw [h2]; rfl)), firstE_go (whenE_f (decide_eq_false h3)), firstE_go (whenE_f (by rw [h4]; rfl)), firstE_no (by rw [whenE_t h]; decide), whenE_t h]
theorem pollE6 (h0 : s.e = 0) (h1 : checkE p = 0) (h2 : inB now 0 1073741824 = true) (h3 : ¬ 256 < l.length) (h4 : ordB s.sh l = true) (h5 : (s.fl != 0) = false) (h : decide (now < s.wa) = true) : pollE s p l now = 17 := by unfold pollE; rw [firstE_go h0, firstE_go h1, firstE_go (whenE_f (by rw [h2]; rfl)), firstE_go (whenE_f (decide_eq_false h3)), firstE_go (whenE_f (by rw [h4]; rfl)), firstE_go (whenE_f h5), firstE_no (by rw [whenE_t h]; decide), whenE_t h]
theorem pollE7 (h0 : s.e = 0) (h1 : checkE p = 0) (h2 : inB now 0 1073741824 = true) (h3 : ¬ 256 < l.length) (h4 : ordB s.sh l = true) (h5 : (s.fl != 0) = false) (h6 : decide (now < s.wa) = false) : pollE s p l now = 0 := by unfold pollE; rw [firstE_go h0, firstE_go h1, firstE_go (whenE_f (by rw [h2]; rfl)), firstE_go (whenE_f (decide_eq_false h3)), firstE_go (whenE_f (by rw [h4]; rfl)), firstE_go (whenE_f h5), firstE_go (whenE_f h6)]; rfl
end
theorem enters_poll2 (args : Array Value) (w : World) : Sem.run Try.prog (callFunc 26 args) w = .ok (.enter 26 args) w := enters_of Try.func26 (by kernel_rfl) rfl args w
set_option maxHeartbeats 1000000 in
theorem poll2_any (a b c : Int) (g : Nat) (w : World) (h : Blk w g 25 #[.int .i64 a, .int .i64 b, .int .i64 c]) : Calls Try.prog 26 #[.pointer (some ⟨g, 0, none⟩)] w fun e w' => e = .returned (.int .i64 (checkE ⟨a, b, c⟩)) ∧ Below w.heap.size w w' := by
  have q0 : w.cell? ⟨g, 0, none⟩ = some (.int .i64 a) := h.cell 0
  have q1 : w.cell? ⟨g, 1, none⟩ = some (.int .i64 b) := h.cell 1
  have q2 : w.cell? ⟨g, 2, none⟩ = some (.int .i64 c) := h.cell 2
  clear h
  go_enter Try.func26, Try.ntmps26
  go_wp2_with fail
  refine (check_any a b c w).mono ?_
  rintro e w1 ⟨rfl, hb⟩
  go_wp2_with fail
  go_ret
  exact ⟨rfl, hb⟩
theorem poll2_fn {a b c : Int} {g : Nat} {w : World} (h : Blk w g 25 #[.int .i64 a, .int .i64 b, .int .i64 c]) : FnIs w (.func (.func 26) #[] #[.pointer (some ⟨g, 0, none⟩)]) (checkE ⟨a, b, c⟩) :=
  ⟨_, _, rfl, enters_poll2, fun W hW => poll2_any _ _ _ g W (h.on hW)⟩
theorem FnIs.calls {w W : World} {K : Nat} {caps : Array Value} {e : Int} (h : FnIs w (.func (.func K) #[] caps) e) (hW : Below w.heap.size w W) : Calls Try.prog K caps W fun e' w' => e' = .returned (.int .i64 e) ∧ Below W.heap.size W w' := by
  obtain ⟨K', caps', hv, -, hA⟩ := h
  injection hv with h1 _ h2
  injection h1 with h1
  subst h1 h2
  exact hA W hW
theorem enters_poll3 (args : Array Value) (w : World) : Sem.run Try.prog (callFunc 30 args) w = .ok (.enter 30 args) w := enters_of Try.func30 (by kernel_rfl) rfl args w
set_option maxHeartbeats 1000000 in
theorem poll3_any (sh nx fl ac fi wa li : Int) (A : Option Addr) (ca : Nat) (l : List RecX) (g g' : Nat) (w : World) (h : Blk w g 23 #[.int .i64 sh, .int .i64 nx, .int .i64 fl, .int .i64 ac, .int .i64 fi, .int .i64 wa, .int .i64 li]) (h' : Blk w g' 28 #[.slice A l.length ca]) (hl : RecsAt w w.heap.size A l) (hn : l.length ≤ 1034834473170) :
    Calls Try.prog 30 #[.pointer (some ⟨g', 0, none⟩), .pointer (some ⟨g, 0, none⟩)] w fun e w' => e = .returned (.int .i64 (whenE (!ordB sh (l.map (·.r))) 11)) ∧ Below w.heap.size w w' := by
  have q0 : w.cell? ⟨g, 0, none⟩ = some (.int .i64 sh) := h.cell 0
  have q1 : w.cell? ⟨g', 0, none⟩ = some (.slice A l.length ca) := h'.cell 0
  clear h h'
  go_enter Try.func30, Try.ntmps30
  go_wp2_with fail
  refine (ordered_any sh A ca l w hl hn).mono ?_
  rintro e w1 ⟨rfl, hb⟩
  have HB := Lib.hid hb
  clear hb hl q0 q1
  go_wp2_with fail
  refine (when_any _ 11 _).mono ?_
  rintro e w2 ⟨⟨cw, rfl, hfn⟩, hb⟩
  have HB2 := Lib.hid (HB.out.trans (hb.mono HB.out.size))
  have HF := Lib.hid (hfn.calls (Below.refl _ _))
  clear hb hfn
  go_wp2_with fail
  refine HF.out.mono ?_
  rintro e w3 ⟨rfl, hb⟩
  have HB3 := Lib.hid (HB2.out.trans (hb.mono HB2.out.size))
  clear hb
  go_wp2_with fail
  go_ret
  exact ⟨rfl, HB3.out⟩
theorem poll3_fn {sh nx fl ac fi wa li : Int} {A : Option Addr} {ca : Nat} {l : List RecX} {g g' : Nat} {w : World} (h : Blk w g 23 #[.int .i64 sh, .int .i64 nx, .int .i64 fl, .int .i64 ac, .int .i64 fi, .int .i64 wa, .int .i64 li]) (h' : Blk w g' 28 #[.slice A l.length ca]) (hl : RecsAt w w.heap.size A l) (hn : l.length ≤ 1034834473170) :
    FnIs w (.func (.func 30) #[] #[.pointer (some ⟨g', 0, none⟩), .pointer (some ⟨g, 0, none⟩)]) (whenE (!ordB sh (l.map (·.r))) 11) :=
  ⟨_, _, rfl, enters_poll3, fun W hW => poll3_any sh nx fl ac fi wa li A ca l g g' W (h.on hW) (h'.on hW) ((hl.below hW).more hW.size) hn⟩
theorem first_seven (A : Option Addr) (c : Nat) (v0 v1 v2 v3 v4 v5 v6 : Value) (e0 e1 e2 e3 e4 e5 e6 : Int) (w : World) (hl : Reads w w.heap.size 1 A 7 [v0, v1, v2, v3, v4, v5, v6]) (h0 : FnIs w v0 e0) (h1 : FnIs w v1 e1) (h2 : FnIs w v2 e2) (h3 : FnIs w v3 e3) (h4 : FnIs w v4 e4) (h5 : FnIs w v5 e5) (h6 : FnIs w v6 e6) :
    Calls Try.prog 24 #[.slice A 7 c] w fun e w' => e = .returned (.int .i64 (firstE [e0, e1, e2, e3, e4, e5, e6])) ∧ Below w.heap.size w w' :=
  first_any A c [(v0, e0), (v1, e1), (v2, e2), (v3, e3), (v4, e4), (v5, e5), (v6, e6)] w hl (by simp) (by intro p hp; simp only [List.mem_cons, List.not_mem_nil, or_false] at hp; rcases hp with rfl | rfl | rfl | rfl | rfl | rfl | rfl; exact h0; exact h1; exact h2; exact h3; exact h4; exact h5; exact h6)
set_option maxHeartbeats 2000000 in
set_option maxRecDepth 20000 in
theorem rready_any (sh nx fl ac fi wa li p0 p1 p2 now : Int) (A : Option Addr) (ca : Nat) (l : List RecX) (w : World) (hl : RecsAt w w.heap.size A l) (hn : l.length ≤ 1034834473170) :
    Calls Try.prog 35 #[.agg #[.int .i64 sh, .int .i64 nx, .int .i64 fl, .int .i64 ac, .int .i64 fi, .int .i64 wa, .int .i64 li], .agg #[.int .i64 p0, .int .i64 p1, .int .i64 p2], .slice A l.length ca, .int .i64 now] w fun e w' => e = .returned (.int .i64 (pollE ⟨sh, nx, fl, ac, fi, wa, li⟩ ⟨p0, p1, p2⟩ (l.map (·.r)) now)) ∧ Below w.heap.size w w' := by
  have hn0 := Nat.le_refl w.heap.size
  have HL := Lib.hid hl
  clear hl
  go_enter Try.func35, Try.ntmps35
  go_wp2_with fail
  refine (rMCheck_lit sh nx fl ac fi wa li _).mono ?_
  rintro e w1 ⟨rfl, hb⟩
  have bs : Blk w1 (w.heap.size) 23 #[.int .i64 sh, .int .i64 nx, .int .i64 fl, .int .i64 ac, .int .i64 fi, .int .i64 wa, .int .i64 li] := ((Blk.new _ _ _).alloc _).on hb
  have bp : Blk w1 (w.heap.size + 1) 25 #[.int .i64 p0, .int .i64 p1, .int .i64 p2] := (Blk.new1 _ _ _ _).on hb
  have hbz := hb.size
  have HB1 := Lib.hid ((((Below.refl w.heap.size w).alloc (by first | exact Nat.le_refl _ | omega | (simp; done) | (simp; omega)) _).alloc (by first | exact Nat.le_refl _ | omega | (simp; done) | (simp; omega)) _).trans (hb.mono (by first | exact Nat.le_refl _ | omega | (simp; done) | (simp; omega))))
  have hz1 : w.heap.size ≤ w1.heap.size := HB1.out.size
  clear hb hbz
  by_cases h0 : MS.e ⟨sh, nx, fl, ac, fi, wa, li⟩ = 0
  rotate_left
  · have HD := Lib.hid (pollE0 (s := ⟨sh, nx, fl, ac, fi, wa, li⟩) (p := ⟨p0, p1, p2⟩) (l := l.map (·.r)) (now := now) h0)
    generalize MS.e ⟨sh, nx, fl, ac, fi, wa, li⟩ = n at *
    have hne : (n == 0) = false := beq_eq_false_iff_ne.2 h0
    clear h0
    have q_bs0 : w1.cell? ⟨w.heap.size, 0, none⟩ = some (.int .i64 sh) := bs.cell 0
    have q_bs1 : w1.cell? ⟨w.heap.size, 1, none⟩ = some (.int .i64 nx) := bs.cell 1
    have q_bs2 : w1.cell? ⟨w.heap.size, 2, none⟩ = some (.int .i64 fl) := bs.cell 2
    have q_bs3 : w1.cell? ⟨w.heap.size, 3, none⟩ = some (.int .i64 ac) := bs.cell 3
    have q_bs4 : w1.cell? ⟨w.heap.size, 4, none⟩ = some (.int .i64 fi) := bs.cell 4
    have q_bs5 : w1.cell? ⟨w.heap.size, 5, none⟩ = some (.int .i64 wa) := bs.cell 5
    have q_bs6 : w1.cell? ⟨w.heap.size, 6, none⟩ = some (.int .i64 li) := bs.cell 6
    have q_bp0 : w1.cell? ⟨w.heap.size + 1, 0, none⟩ = some (.int .i64 p0) := bp.cell 0
    have q_bp1 : w1.cell? ⟨w.heap.size + 1, 1, none⟩ = some (.int .i64 p1) := bp.cell 1
    have q_bp2 : w1.cell? ⟨w.heap.size + 1, 2, none⟩ = some (.int .i64 p2) := bp.cell 2
    go_wp2_with fail
    go_ret
    exact ⟨ret_int HD.out.symm, HB1.out⟩
  have H0 := Lib.hid h0
  rw [h0]
  have hfl : 0 ≤ fl := (nx_bd h0).2.2.1
  clear h0
  have q_bs0 : w1.cell? ⟨w.heap.size, 0, none⟩ = some (.int .i64 sh) := bs.cell 0
  have q_bs1 : w1.cell? ⟨w.heap.size, 1, none⟩ = some (.int .i64 nx) := bs.cell 1
  have q_bs2 : w1.cell? ⟨w.heap.size, 2, none⟩ = some (.int .i64 fl) := bs.cell 2
  have q_bs3 : w1.cell? ⟨w.heap.size, 3, none⟩ = some (.int .i64 ac) := bs.cell 3
  have q_bs4 : w1.cell? ⟨w.heap.size, 4, none⟩ = some (.int .i64 fi) := bs.cell 4
  have q_bs5 : w1.cell? ⟨w.heap.size, 5, none⟩ = some (.int .i64 wa) := bs.cell 5
  have q_bs6 : w1.cell? ⟨w.heap.size, 6, none⟩ = some (.int .i64 li) := bs.cell 6
  have q_bp0 : w1.cell? ⟨w.heap.size + 1, 0, none⟩ = some (.int .i64 p0) := bp.cell 0
  have q_bp1 : w1.cell? ⟨w.heap.size + 1, 1, none⟩ = some (.int .i64 p1) := bp.cell 1
  have q_bp2 : w1.cell? ⟨w.heap.size + 1, 2, none⟩ = some (.int .i64 p2) := bp.cell 2
  go_wp2_with fail
  refine (rcheck_any p0 p1 p2 _).mono ?_
  rintro e w2 ⟨rfl, hb⟩
  clear q_bs0 q_bs1 q_bs2 q_bs3 q_bs4 q_bs5 q_bs6 q_bp0 q_bp1 q_bp2
  have bs : Blk w2 (w.heap.size) 23 #[.int .i64 sh, .int .i64 nx, .int .i64 fl, .int .i64 ac, .int .i64 fi, .int .i64 wa, .int .i64 li] := (bs).on hb
  have bp : Blk w2 (w.heap.size + 1) 25 #[.int .i64 p0, .int .i64 p1, .int .i64 p2] := (bp).on hb
  have hbz := hb.size
  have HB2 := Lib.hid ((HB1.out).trans (hb.mono (by first | exact Nat.le_refl _ | omega | (simp; done) | (simp; omega))))
  have hz2 : w.heap.size ≤ w2.heap.size := HB2.out.size
  clear hb hbz
  by_cases h1 : checkE ⟨p0, p1, p2⟩ = 0
  rotate_left
  · have HD := Lib.hid (pollE1 (s := ⟨sh, nx, fl, ac, fi, wa, li⟩) (p := ⟨p0, p1, p2⟩) (l := l.map (·.r)) (now := now) H0.out h1)
    generalize checkE ⟨p0, p1, p2⟩ = n at *
    have hne : (n == 0) = false := beq_eq_false_iff_ne.2 h1
    clear h1
    have q_bs0 : w2.cell? ⟨w.heap.size, 0, none⟩ = some (.int .i64 sh) := bs.cell 0
    have q_bs1 : w2.cell? ⟨w.heap.size, 1, none⟩ = some (.int .i64 nx) := bs.cell 1
    have q_bs2 : w2.cell? ⟨w.heap.size, 2, none⟩ = some (.int .i64 fl) := bs.cell 2
    have q_bs3 : w2.cell? ⟨w.heap.size, 3, none⟩ = some (.int .i64 ac) := bs.cell 3
    have q_bs4 : w2.cell? ⟨w.heap.size, 4, none⟩ = some (.int .i64 fi) := bs.cell 4
    have q_bs5 : w2.cell? ⟨w.heap.size, 5, none⟩ = some (.int .i64 wa) := bs.cell 5
    have q_bs6 : w2.cell? ⟨w.heap.size, 6, none⟩ = some (.int .i64 li) := bs.cell 6
    have q_bp0 : w2.cell? ⟨w.heap.size + 1, 0, none⟩ = some (.int .i64 p0) := bp.cell 0
    have q_bp1 : w2.cell? ⟨w.heap.size + 1, 1, none⟩ = some (.int .i64 p1) := bp.cell 1
    have q_bp2 : w2.cell? ⟨w.heap.size + 1, 2, none⟩ = some (.int .i64 p2) := bp.cell 2
    go_wp2_with fail
    go_ret
    exact ⟨ret_int HD.out.symm, HB2.out⟩
  have H1 := Lib.hid h1
  rw [h1]
  clear h1
  have q_bs0 : w2.cell? ⟨w.heap.size, 0, none⟩ = some (.int .i64 sh) := bs.cell 0
  have q_bs1 : w2.cell? ⟨w.heap.size, 1, none⟩ = some (.int .i64 nx) := bs.cell 1
  have q_bs2 : w2.cell? ⟨w.heap.size, 2, none⟩ = some (.int .i64 fl) := bs.cell 2
  have q_bs3 : w2.cell? ⟨w.heap.size, 3, none⟩ = some (.int .i64 ac) := bs.cell 3
  have q_bs4 : w2.cell? ⟨w.heap.size, 4, none⟩ = some (.int .i64 fi) := bs.cell 4
  have q_bs5 : w2.cell? ⟨w.heap.size, 5, none⟩ = some (.int .i64 wa) := bs.cell 5
  have q_bs6 : w2.cell? ⟨w.heap.size, 6, none⟩ = some (.int .i64 li) := bs.cell 6
  have q_bp0 : w2.cell? ⟨w.heap.size + 1, 0, none⟩ = some (.int .i64 p0) := bp.cell 0
  have q_bp1 : w2.cell? ⟨w.heap.size + 1, 1, none⟩ = some (.int .i64 p1) := bp.cell 1
  have q_bp2 : w2.cell? ⟨w.heap.size + 1, 2, none⟩ = some (.int .i64 p2) := bp.cell 2
  go_wp2_with fail
  refine (rBet_any now 0 1073741824 _).mono ?_
  rintro e wq ⟨rfl, rfl⟩
  cases hg : inB now 0 1073741824
  · have HD := Lib.hid (pollE2 (s := ⟨sh, nx, fl, ac, fi, wa, li⟩) (p := ⟨p0, p1, p2⟩) (l := l.map (·.r)) (now := now) H0.out H1.out hg)
    clear hg
    go_wp2_with fail
    go_ret
    exact ⟨ret_int HD.out.symm, HB2.out⟩
  · have H2 := Lib.hid hg
    clear hg
    by_cases h3 : 256 < l.length
    · have HD := Lib.hid (pollE3 (s := ⟨sh, nx, fl, ac, fi, wa, li⟩) (p := ⟨p0, p1, p2⟩) (l := l.map (·.r)) (now := now) H0.out H1.out H2.out (by simpa using h3))
      go_wp2_with fail
      go_ret
      exact ⟨ret_int HD.out.symm, HB2.out⟩
    · have H3 := Lib.hid (show ¬ 256 < (l.map (·.r)).length by simpa using h3)
      go_wp2_with fail
      refine (rordered_any sh A ca l _ ((HL.out.below HB2.out).more HB2.out.size) hn).mono ?_
      rintro e w3 ⟨rfl, hb⟩
      clear q_bs0 q_bs1 q_bs2 q_bs3 q_bs4 q_bs5 q_bs6 q_bp0 q_bp1 q_bp2
      have bs : Blk w3 (w.heap.size) 23 #[.int .i64 sh, .int .i64 nx, .int .i64 fl, .int .i64 ac, .int .i64 fi, .int .i64 wa, .int .i64 li] := (bs).on hb
      have bp : Blk w3 (w.heap.size + 1) 25 #[.int .i64 p0, .int .i64 p1, .int .i64 p2] := (bp).on hb
      have hbz := hb.size
      have HB3 := Lib.hid ((HB2.out).trans (hb.mono (by first | exact Nat.le_refl _ | omega | (simp; done) | (simp; omega))))
      have hz3 : w.heap.size ≤ w3.heap.size := HB3.out.size
      clear hb hbz
      cases h4 : ordB sh (l.map (·.r))
      · have HD := Lib.hid (pollE4 (s := ⟨sh, nx, fl, ac, fi, wa, li⟩) (p := ⟨p0, p1, p2⟩) (l := l.map (·.r)) (now := now) H0.out H1.out H2.out H3.out h4)
        clear h4
        have q_bs0 : w3.cell? ⟨w.heap.size, 0, none⟩ = some (.int .i64 sh) := bs.cell 0
        have q_bs1 : w3.cell? ⟨w.heap.size, 1, none⟩ = some (.int .i64 nx) := bs.cell 1
        have q_bs2 : w3.cell? ⟨w.heap.size, 2, none⟩ = some (.int .i64 fl) := bs.cell 2
        have q_bs3 : w3.cell? ⟨w.heap.size, 3, none⟩ = some (.int .i64 ac) := bs.cell 3
        have q_bs4 : w3.cell? ⟨w.heap.size, 4, none⟩ = some (.int .i64 fi) := bs.cell 4
        have q_bs5 : w3.cell? ⟨w.heap.size, 5, none⟩ = some (.int .i64 wa) := bs.cell 5
        have q_bs6 : w3.cell? ⟨w.heap.size, 6, none⟩ = some (.int .i64 li) := bs.cell 6
        have q_bp0 : w3.cell? ⟨w.heap.size + 1, 0, none⟩ = some (.int .i64 p0) := bp.cell 0
        have q_bp1 : w3.cell? ⟨w.heap.size + 1, 1, none⟩ = some (.int .i64 p1) := bp.cell 1
        have q_bp2 : w3.cell? ⟨w.heap.size + 1, 2, none⟩ = some (.int .i64 p2) := bp.cell 2
        go_wp2_with fail
        go_ret
        exact ⟨ret_int HD.out.symm, HB3.out⟩
      · have H4 := Lib.hid h4
        clear h4
        by_cases h5 : 0 < fl
        · have HD := Lib.hid (pollE5 (s := ⟨sh, nx, fl, ac, fi, wa, li⟩) (p := ⟨p0, p1, p2⟩) (l := l.map (·.r)) (now := now) H0.out H1.out H2.out H3.out H4.out (bne_iff_ne.2 (by show fl ≠ 0; omega)))
          have q_bs0 : w3.cell? ⟨w.heap.size, 0, none⟩ = some (.int .i64 sh) := bs.cell 0
          have q_bs1 : w3.cell? ⟨w.heap.size, 1, none⟩ = some (.int .i64 nx) := bs.cell 1
          have q_bs2 : w3.cell? ⟨w.heap.size, 2, none⟩ = some (.int .i64 fl) := bs.cell 2
          have q_bs3 : w3.cell? ⟨w.heap.size, 3, none⟩ = some (.int .i64 ac) := bs.cell 3
          have q_bs4 : w3.cell? ⟨w.heap.size, 4, none⟩ = some (.int .i64 fi) := bs.cell 4
          have q_bs5 : w3.cell? ⟨w.heap.size, 5, none⟩ = some (.int .i64 wa) := bs.cell 5
          have q_bs6 : w3.cell? ⟨w.heap.size, 6, none⟩ = some (.int .i64 li) := bs.cell 6
          have q_bp0 : w3.cell? ⟨w.heap.size + 1, 0, none⟩ = some (.int .i64 p0) := bp.cell 0
          have q_bp1 : w3.cell? ⟨w.heap.size + 1, 1, none⟩ = some (.int .i64 p1) := bp.cell 1
          have q_bp2 : w3.cell? ⟨w.heap.size + 1, 2, none⟩ = some (.int .i64 p2) := bp.cell 2
          go_wp2_with fail
          go_ret
          exact ⟨ret_int HD.out.symm, HB3.out⟩
        · have H5 := Lib.hid (show (fl != 0) = false by simp; omega)
          rcases decide_cases (now < wa) with ⟨hw, hwb⟩ | ⟨hw, hwb⟩
          · have HD := Lib.hid (pollE6 (s := ⟨sh, nx, fl, ac, fi, wa, li⟩) (p := ⟨p0, p1, p2⟩) (l := l.map (·.r)) (now := now) H0.out H1.out H2.out H3.out H4.out H5.out hwb)
            have q_bs0 : w3.cell? ⟨w.heap.size, 0, none⟩ = some (.int .i64 sh) := bs.cell 0
            have q_bs1 : w3.cell? ⟨w.heap.size, 1, none⟩ = some (.int .i64 nx) := bs.cell 1
            have q_bs2 : w3.cell? ⟨w.heap.size, 2, none⟩ = some (.int .i64 fl) := bs.cell 2
            have q_bs3 : w3.cell? ⟨w.heap.size, 3, none⟩ = some (.int .i64 ac) := bs.cell 3
            have q_bs4 : w3.cell? ⟨w.heap.size, 4, none⟩ = some (.int .i64 fi) := bs.cell 4
            have q_bs5 : w3.cell? ⟨w.heap.size, 5, none⟩ = some (.int .i64 wa) := bs.cell 5
            have q_bs6 : w3.cell? ⟨w.heap.size, 6, none⟩ = some (.int .i64 li) := bs.cell 6
            have q_bp0 : w3.cell? ⟨w.heap.size + 1, 0, none⟩ = some (.int .i64 p0) := bp.cell 0
            have q_bp1 : w3.cell? ⟨w.heap.size + 1, 1, none⟩ = some (.int .i64 p1) := bp.cell 1
            have q_bp2 : w3.cell? ⟨w.heap.size + 1, 2, none⟩ = some (.int .i64 p2) := bp.cell 2
            go_wp2_with fail
            go_ret
            exact ⟨ret_int HD.out.symm, HB3.out⟩
          · have HD := Lib.hid (pollE7 (s := ⟨sh, nx, fl, ac, fi, wa, li⟩) (p := ⟨p0, p1, p2⟩) (l := l.map (·.r)) (now := now) H0.out H1.out H2.out H3.out H4.out H5.out hwb)
            have q_bs0 : w3.cell? ⟨w.heap.size, 0, none⟩ = some (.int .i64 sh) := bs.cell 0
            have q_bs1 : w3.cell? ⟨w.heap.size, 1, none⟩ = some (.int .i64 nx) := bs.cell 1
            have q_bs2 : w3.cell? ⟨w.heap.size, 2, none⟩ = some (.int .i64 fl) := bs.cell 2
            have q_bs3 : w3.cell? ⟨w.heap.size, 3, none⟩ = some (.int .i64 ac) := bs.cell 3
            have q_bs4 : w3.cell? ⟨w.heap.size, 4, none⟩ = some (.int .i64 fi) := bs.cell 4
            have q_bs5 : w3.cell? ⟨w.heap.size, 5, none⟩ = some (.int .i64 wa) := bs.cell 5
            have q_bs6 : w3.cell? ⟨w.heap.size, 6, none⟩ = some (.int .i64 li) := bs.cell 6
            have q_bp0 : w3.cell? ⟨w.heap.size + 1, 0, none⟩ = some (.int .i64 p0) := bp.cell 0
            have q_bp1 : w3.cell? ⟨w.heap.size + 1, 1, none⟩ = some (.int .i64 p1) := bp.cell 1
            have q_bp2 : w3.cell? ⟨w.heap.size + 1, 2, none⟩ = some (.int .i64 p2) := bp.cell 2
            go_wp2_with fail
            go_ret
            exact ⟨ret_int HD.out.symm, HB3.out⟩
end Go.Proofs.Ytojghgeemdpmpaa
