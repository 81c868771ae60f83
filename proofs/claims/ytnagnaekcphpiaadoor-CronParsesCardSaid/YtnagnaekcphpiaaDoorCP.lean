/- cron: the reference's Parse. -/
import Derived.Test.YtnagnaekcphpiaaDoorCO
import Derived.Deep.RegionHeld3
namespace Go.Proofs.YtnagnaekcphpiaaDoor
open Go.RowKit
open Go.Sort (grow)

theorem rparts_yes (x : ByteArray) (Q : List ByteArray) (hq : pcs 44 x = Q) (size : Nat) (h : rokS x.data.toList size = true) (h1 : 1 ≤ size) (h2 : size ≤ 60) (w : World) (hs : x.size ≤ 1048576) : Calls Tryd.prog 28 #[.string x, .int .i64 size] w fun e w' => (∃ A k, e = .returned (.tuple #[.slice A Q.length k, .bool true]) ∧ StrL w' w'.heap.size A Q ∧ ∀ ad, A = some ad → w.heap.size ≤ ad.block) ∧ Below w.heap.size w w' := by
  refine (rparts_any x size h1 h2 w hs).mono ?_
  rintro e w' ⟨h3, _, hb⟩
  rw [hq] at h3
  exact ⟨h3 h, hb⟩
theorem rparts_no (x : ByteArray) (size : Nat) (h : rokS x.data.toList size = false) (h1 : 1 ≤ size) (h2 : size ≤ 60) (w : World) (hs : x.size ≤ 1048576) : Calls Tryd.prog 28 #[.string x, .int .i64 size] w fun e w' => e = .returned (.tuple #[.slice none 0 0, .bool false]) ∧ Below w.heap.size w w' := by
  refine (rparts_any x size h1 h2 w hs).mono ?_
  rintro e w' ⟨_, h3, hb⟩
  exact ⟨h3 h, hb⟩
def rfoldB (size : Nat) (Q : List ByteArray) (acc : Nat) : Nat × Bool := rfoldS size (Q.map (·.data.toList)) acc
theorem rfold_eq {x : ByteArray} {Q : List ByteArray} (hq : pcs 44 x = Q) {size : Nat} (h1 : 1 ≤ size) (h : rokS x.data.toList size = true) : rfoldB size Q 0 = foldS size (partsS x.data.toList).1 0 ∧ (partsS x.data.toList).2 = true := by
  have hr := rok_parts x.data.toList h1
  rw [hr.1] at h
  unfold rfoldB
  rw [← hq, pcs_data]
  exact ⟨hr.2 h 0, h⟩
theorem rok_no {x : ByteArray} {size : Nat} (h1 : 1 ≤ size) (h : rokS x.data.toList size = false) : (partsS x.data.toList).2 = false := by rw [← (rok_parts x.data.toList h1).1]; exact h
theorem drop_consB {l : List ByteArray} {k : Nat} {p : ByteArray} (h : l[k]? = some p) : l.drop k = p :: l.drop (k + 1) := by
  have hlt : k < l.length := (List.getElem?_eq_some_iff.1 h).1
  rw [List.drop_eq_getElem_cons hlt, (List.getElem?_eq_some_iff.1 h).2]
theorem rfold_bad {size : Nat} {x : ByteArray} {r : List ByteArray} {acc : Nat} {q : Nat × Nat × Nat} {o : Bool} (h : rpartS x.data.toList size = (q, o)) (hb : rbad q size = true) : rfoldB size (x :: r) acc = (0, false) := by
  unfold rfoldB; rw [List.map_cons, rfoldS, h, if_pos hb]
theorem rfold_go {size : Nat} {x : ByteArray} {r : List ByteArray} {acc a b d : Nat} {o : Bool} (h : rpartS x.data.toList size = ((a, b, d), o)) (hb : rbad (a, b, d) size = false) : rfoldB size (x :: r) acc = rfoldB size r (runS d b (b + 1 - a) a acc) := by
  unfold rfoldB; rw [List.map_cons, rfoldS, h, if_neg (by rw [hb]; exact Bool.false_ne_true)]
theorem rpart_at (x : ByteArray) (size : Nat) (a b d : Nat) (o : Bool) (h : rpartS x.data.toList size = ((a, b, d), o)) (h1 : 1 ≤ size) (h2 : size ≤ 60) (hs : x.size ≤ 1048576) (W : World) (dd : Nat) (os : Array Obj) :
    Calls Tryd.prog 30 #[.string x, .int .i64 size] (grow (redrawn W dd) os) fun e w' => e = .returned (.tuple #[.int .i64 a, .int .i64 b, .int .i64 d, .bool o]) ∧ ∃ p : Regrown, w' = grow (redrawn W p.d) p.os := by
  have h3 := rpart_any x size h1 h2 (grow (redrawn W dd) os) hs
  rw [h] at h3
  exact Calls.regrown_of h3
theorem part_bnd (x : List UInt8) (size : Nat) (h : size ≤ 60) : (rpartS x size).1.1 ≤ 1000000000 ∧ (rpartS x size).1.2.1 ≤ 1000000000 ∧ (rpartS x size).1.2.2 ≤ 1000000000 := by
  unfold rpartS
  split
  · exact ⟨Nat.zero_le _, by show size - 1 ≤ _; omega, by show 1 ≤ _; omega⟩
  · split
    · exact ⟨Nat.zero_le _, by show size - 1 ≤ _; omega, num_le _⟩
    · split
      · exact ⟨Nat.zero_le _, Nat.zero_le _, Nat.zero_le _⟩
      · exact ⟨num_le _, num_le _, by show 1 ≤ _; omega⟩
theorem held1_step {w0 w1 w2 : World} {p : Addr} {a : Value} (h : w1.cell? p = some a ∧ Below w0.heap.size w0 w1) (hb : Below w1.heap.size w1 w2) : w2.cell? p = some a ∧ Below w0.heap.size w0 w2 := ⟨(hb.cell (block_lt_of_cell h.1)).trans h.1, h.2.trans (hb.mono h.2.size)⟩
theorem set3_keep {w : World} {p0 p1 p2 : Addr} {H : Nat} {a b c x y z : Value} (h : w.cell? p0 = some a ∧ w.cell? p1 = some b ∧ w.cell? p2 = some c) (n0 : p0.block ≠ H) (n1 : p1.block ≠ H) (n2 : p2.block ≠ H) :
    (((w.setCell ⟨H, 0, none⟩ x).setCell ⟨H, 1, none⟩ y).setCell ⟨H, 2, none⟩ z).cell? p0 = some a ∧ (((w.setCell ⟨H, 0, none⟩ x).setCell ⟨H, 1, none⟩ y).setCell ⟨H, 2, none⟩ z).cell? p1 = some b ∧ (((w.setCell ⟨H, 0, none⟩ x).setCell ⟨H, 1, none⟩ y).setCell ⟨H, 2, none⟩ z).cell? p2 = some c := by
  have k : ∀ (p : Addr) (u : Value), p.block ≠ H → w.cell? p = some u → (((w.setCell ⟨H, 0, none⟩ x).setCell ⟨H, 1, none⟩ y).setCell ⟨H, 2, none⟩ z).cell? p = some u := fun p u hp hu => by
    rw [World.cell?_setCell_other _ _ _ _ (fun e => hp (by rw [← e])), World.cell?_setCell_other _ _ _ _ (fun e => hp (by rw [← e])), World.cell?_setCell_other _ _ _ _ (fun e => hp (by rw [← e]))]
    exact hu
  exact ⟨k _ _ n0 h.1, k _ _ n1 h.2.1, k _ _ n2 h.2.2⟩
theorem rSize0_at (W : World) (d : Nat) (os : Array Obj) : Calls Tryd.prog 29 #[.int .i64 0] (grow (redrawn W d) os) fun e w' => e = .returned (.int .i64 60) ∧ ∃ p : Regrown, w' = grow (redrawn W p.d) p.os := by
  refine Calls.regrown_of ((rSize0 _).mono ?_)
  rintro e w' ⟨rfl, rfl⟩
  exact ⟨rfl, Below.refl _ _⟩
theorem rparts_yes0 (x : ByteArray) (Q : List ByteArray) (hq : pcs 44 x = Q) (h : rokS x.data.toList 60 = true) (w : World) (hs : x.size ≤ 1048576) : Calls Tryd.prog 28 #[.string x, .int .i64 60] w fun e w' => (∃ A k, e = .returned (.tuple #[.slice A Q.length k, .bool true]) ∧ StrL w' w'.heap.size A Q ∧ ∀ ad, A = some ad → w.heap.size ≤ ad.block) ∧ Below w.heap.size w w' := rparts_yes x Q hq 60 h (by omega) (by omega) w hs
theorem rparts_no0 (x : ByteArray) (h : rokS x.data.toList 60 = false) (w : World) (hs : x.size ≤ 1048576) : Calls Tryd.prog 28 #[.string x, .int .i64 60] w fun e w' => e = .returned (.tuple #[.slice none 0 0, .bool false]) ∧ Below w.heap.size w w' := rparts_no x 60 h (by omega) (by omega) w hs
theorem rpart_at0 (x : ByteArray) (a b d : Nat) (o : Bool) (h : rpartS x.data.toList 60 = ((a, b, d), o)) (hs : x.size ≤ 1048576) (W : World) (dd : Nat) (os : Array Obj) :
    Calls Tryd.prog 30 #[.string x, .int .i64 60] (grow (redrawn W dd) os) fun e w' => e = .returned (.tuple #[.int .i64 a, .int .i64 b, .int .i64 d, .bool o]) ∧ ∃ p : Regrown, w' = grow (redrawn W p.d) p.os := rpart_at x 60 a b d o h (by omega) (by omega) hs W dd os
theorem rSize1_at (W : World) (d : Nat) (os : Array Obj) : Calls Tryd.prog 29 #[.int .i64 1] (grow (redrawn W d) os) fun e w' => e = .returned (.int .i64 24) ∧ ∃ p : Regrown, w' = grow (redrawn W p.d) p.os := by
  refine Calls.regrown_of ((rSize1 _).mono ?_)
  rintro e w' ⟨rfl, rfl⟩
  exact ⟨rfl, Below.refl _ _⟩
theorem rparts_yes1 (x : ByteArray) (Q : List ByteArray) (hq : pcs 44 x = Q) (h : rokS x.data.toList 24 = true) (w : World) (hs : x.size ≤ 1048576) : Calls Tryd.prog 28 #[.string x, .int .i64 24] w fun e w' => (∃ A k, e = .returned (.tuple #[.slice A Q.length k, .bool true]) ∧ StrL w' w'.heap.size A Q ∧ ∀ ad, A = some ad → w.heap.size ≤ ad.block) ∧ Below w.heap.size w w' := rparts_yes x Q hq 24 h (by omega) (by omega) w hs
theorem rparts_no1 (x : ByteArray) (h : rokS x.data.toList 24 = false) (w : World) (hs : x.size ≤ 1048576) : Calls Tryd.prog 28 #[.string x, .int .i64 24] w fun e w' => e = .returned (.tuple #[.slice none 0 0, .bool false]) ∧ Below w.heap.size w w' := rparts_no x 24 h (by omega) (by omega) w hs
theorem rpart_at1 (x : ByteArray) (a b d : Nat) (o : Bool) (h : rpartS x.data.toList 24 = ((a, b, d), o)) (hs : x.size ≤ 1048576) (W : World) (dd : Nat) (os : Array Obj) :
    Calls Tryd.prog 30 #[.string x, .int .i64 24] (grow (redrawn W dd) os) fun e w' => e = .returned (.tuple #[.int .i64 a, .int .i64 b, .int .i64 d, .bool o]) ∧ ∃ p : Regrown, w' = grow (redrawn W p.d) p.os := rpart_at x 24 a b d o h (by omega) (by omega) hs W dd os
theorem rSize2_at (W : World) (d : Nat) (os : Array Obj) : Calls Tryd.prog 29 #[.int .i64 2] (grow (redrawn W d) os) fun e w' => e = .returned (.int .i64 7) ∧ ∃ p : Regrown, w' = grow (redrawn W p.d) p.os := by
  refine Calls.regrown_of ((rSize2 _).mono ?_)
  rintro e w' ⟨rfl, rfl⟩
  exact ⟨rfl, Below.refl _ _⟩
theorem rparts_yes2 (x : ByteArray) (Q : List ByteArray) (hq : pcs 44 x = Q) (h : rokS x.data.toList 7 = true) (w : World) (hs : x.size ≤ 1048576) : Calls Tryd.prog 28 #[.string x, .int .i64 7] w fun e w' => (∃ A k, e = .returned (.tuple #[.slice A Q.length k, .bool true]) ∧ StrL w' w'.heap.size A Q ∧ ∀ ad, A = some ad → w.heap.size ≤ ad.block) ∧ Below w.heap.size w w' := rparts_yes x Q hq 7 h (by omega) (by omega) w hs
theorem rparts_no2 (x : ByteArray) (h : rokS x.data.toList 7 = false) (w : World) (hs : x.size ≤ 1048576) : Calls Tryd.prog 28 #[.string x, .int .i64 7] w fun e w' => e = .returned (.tuple #[.slice none 0 0, .bool false]) ∧ Below w.heap.size w w' := rparts_no x 7 h (by omega) (by omega) w hs
theorem rpart_at2 (x : ByteArray) (a b d : Nat) (o : Bool) (h : rpartS x.data.toList 7 = ((a, b, d), o)) (hs : x.size ≤ 1048576) (W : World) (dd : Nat) (os : Array Obj) :
    Calls Tryd.prog 30 #[.string x, .int .i64 7] (grow (redrawn W dd) os) fun e w' => e = .returned (.tuple #[.int .i64 a, .int .i64 b, .int .i64 d, .bool o]) ∧ ∃ p : Regrown, w' = grow (redrawn W p.d) p.os := rpart_at x 7 a b d o h (by omega) (by omega) hs W dd os
theorem info_u64 : (Tryd.prog.info? 23).map (fun i => (i.zero, i.size, i.bytes)) = some (some (.int .u64 0), 1, 8) := by kernel_rfl
theorem run_mk3 (W : World) : (Instr.makeSlice 60 (.int .i64 3) (.int .i64 3)).run Tryd.prog W = .ok (.slice (some ⟨W.heap.size, 0, none⟩) 3 3) (W.alloc (.cells #[.int .u64 0, .int .u64 0, .int .u64 0] 23)) := by
  obtain ⟨i0, ih, iz0, iz1, iz2⟩ := info_parts info_u64
  have h := run_makeSlice (P := Tryd.prog) W 60 23 i0 (.int .u64 0) Tryd.underlying60 ih iz0 .i64 .i64 3 3 (by omega) (by omega) (by rw [iz1]; decide) (by rw [iz2]; decide) (by decide)
  rw [iz1, show madeCells (Value.int IntKind.u64 0).cells (Int.toNat 3 * 1) = #[.int .u64 0, .int .u64 0, .int .u64 0] from by kernel_rfl] at h
  exact h
attribute [local go_sem] run_mk3
theorem strl_set {w : World} {A : Option Addr} {l : List ByteArray} {G : Nat} (h : StrL w w.heap.size A l) (hn : ∀ ad, A = some ad → ad.block ≠ G) (i : Nat) (u : Value) : StrL (w.setCell ⟨G, i, none⟩ u) (w.setCell ⟨G, i, none⟩ u).heap.size A l := by
  have : StrL (w.setCell ⟨G, i, none⟩ u) w.heap.size A l := Reads.set h (p := ⟨G, i, none⟩) hn u
  exact this.more (by simp)
set_option maxHeartbeats 8000000 in
set_option maxRecDepth 20000 in
theorem rParse_any (s : ByteArray) (w : World) (hs : s.size ≤ 1048576) : Calls Tryd.prog 11 #[.string s] w fun e w' => e = .returned (tupC (parseS s)) ∧ Below w.heap.size w w' := by
  go_enter Tryd.func11, Tryd.ntmps11
  by_cases h0 : 4000 < s.size
  · have t0 : decide ((4000 : Int) < s.size) = true := decide_eq_true (by omega)
    have HD := Lib.hid (parse_long h0)
    clear h0
    go_wp2_with fail
    exact bodyPost_ret (v := .tuple #[.agg #[.int .u64 0, .int .u64 0, .int .u64 0], .int .i64 3]) (by simp [results, Tryd.results11, go_sem]) rfl ⟨ret_tupC0 HD.out, size_new' _ _⟩
  · have t0 : decide ((4000 : Int) < s.size) = false := decide_eq_false (by omega)
    go_wp2_with fail
    refine (rs32 s _ hs).mono ?_
    rintro e w1 ⟨⟨A, cap, rfl, hl, -⟩, hb⟩
    have bR : Blk w1 (w.heap.size) 25 #[.int .u64 0, .int .u64 0, .int .u64 0] := (Blk.new _ _ _).on hb
    have hbz := hb.size
    have HB1 := Lib.hid (((Below.refl w.heap.size w).alloc (by first | exact Nat.le_refl _ | omega | (simp; done) | (simp; omega)) _).trans (hb.mono (by first | exact Nat.le_refl _ | omega | (simp; done) | (simp; omega))))
    have hz1 : w.heap.size ≤ w1.heap.size := HB1.out.size
    clear hb hbz
    obtain ⟨Q, hQ⟩ : ∃ Q, pcs 32 s = Q := ⟨_, rfl⟩
    have HSZ := Lib.hid (show ∀ x ∈ Q, x.size ≤ 1048576 from fun x hx => by rw [← hQ] at hx; have := pcs_size hx; omega)
    rw [hQ] at hl ⊢
    have HQ := Lib.hid hQ
    clear hQ
    by_cases h3 : Q.length = 3
    · obtain ⟨a, b, c, rfl⟩ := three_of h3
      have HL := Lib.hid hl
      have BR := Lib.hid bR
      have hR1 : w.heap.size < w1.heap.size := bR.lt
      have za := HSZ.out a (by simp)
      have zb := HSZ.out b (by simp)
      have zc := HSZ.out c (by simp)
      clear hl h3 bR
      simp only [List.length_cons, List.length_nil, Nat.zero_add, Nat.reduceAdd]
      obtain ⟨o0, ho0⟩ : ∃ q, rokS a.data.toList 60 = q := ⟨_, rfl⟩
      obtain ⟨o1, ho1⟩ : ∃ q, rokS b.data.toList 24 = q := ⟨_, rfl⟩
      obtain ⟨o2, ho2⟩ : ∃ q, rokS c.data.toList 7 = q := ⟨_, rfl⟩
      have HO0 := Lib.hid ho0
      have HO1 := Lib.hid ho1
      have HO2 := Lib.hid ho2
      obtain ⟨Q0, hq0⟩ : ∃ q, pcs 44 a = q := ⟨_, rfl⟩
      obtain ⟨Q1, hq1⟩ : ∃ q, pcs 44 b = q := ⟨_, rfl⟩
      obtain ⟨Q2, hq2⟩ : ∃ q, pcs 44 c = q := ⟨_, rfl⟩
      have HQ0 := Lib.hid hq0
      have HQ1 := Lib.hid hq1
      have HQ2 := Lib.hid hq2
      clear ho0 ho1 ho2 hq0 hq1 hq2
      go_wp2_with fail
      go_loopw [5] (fun i wr => (i = .int .i64 0 ∨ (i = .int .i64 1 ∧ o0 = true) ∨ (i = .int .i64 2 ∧ o0 = true ∧ o1 = true) ∨ (i = .int .i64 3 ∧ o0 = true ∧ o1 = true ∧ o2 = true)) ∧ Below w1.heap.size w1 wr) (fun i _ => 3 - (intOf i).toNat)
      case atStart => exact ⟨.inl rfl, Below.refl _ _⟩
      case round =>
        obtain ⟨hc, hbr⟩ := hrel
        have HB := Lib.hid hbr
        have hzr : w1.heap.size ≤ wr.heap.size := hbr.size
        clear hbr
        rcases hc with rfl | ⟨rfl, k0⟩ | ⟨rfl, k0, k1⟩ | ⟨rfl, k0, k1, k2⟩
        · skip
          obtain ⟨bb, oo, rfl, -, c0⟩ := (HL.out.on HB.out).cell (k := 0) rfl
          have c0 : wr.cell? ⟨bb, oo, none⟩ = some (.string a) := c0
          go_wp2_with fail
          cases hok : o0
          · have HF := Lib.hid (show rokS a.data.toList 60 = false from HO0.out.trans hok)
            have HD := Lib.hid (parse_syn (s := s) h0 HQ.out (by have h := rok_no (by omega) HF.out; rw [h]; simp))
            go_region_held3 (fun w' => w'.cell? ⟨bb, oo, none⟩ = some (.string a) ∧ Below wr.heap.size wr w') (first | assumption | exact ⟨c0, (Below.refl _ _).drew⟩) (first | (go_at_call 29; ((with_reducible refine (rSize0 _).mono ?_); rintro e wq ⟨rfl, hwq⟩; obtain rfl := hwq)) | (go_at_call 28; ((with_reducible refine (rparts_no0 a HF.out _ za).mono ?_); rintro e w2 ⟨rfl, hb2⟩; have H2 := held1_step (by assumption) hb2)))
            have HB2 := Lib.hid (HB.out.trans (H2.2.mono hzr))
            clear H2 hb2 c0
            have r0 : w2.cell? ⟨w.heap.size, 0, none⟩ = some (.int .u64 0) := (BR.out.on HB2.out).cell 0
            have s0 : w2.frozen? ⟨w.heap.size, 0, none⟩ = false := (BR.out.on HB2.out).frozen 0
            have r1 : w2.cell? ⟨w.heap.size, 1, none⟩ = some (.int .u64 0) := (BR.out.on HB2.out).cell 1
            have s1 : w2.frozen? ⟨w.heap.size, 1, none⟩ = false := (BR.out.on HB2.out).frozen 1
            have r2 : w2.cell? ⟨w.heap.size, 2, none⟩ = some (.int .u64 0) := (BR.out.on HB2.out).cell 2
            have s2 : w2.frozen? ⟨w.heap.size, 2, none⟩ = false := (BR.out.on HB2.out).frozen 2
            go_wp2_with fail
            exact bodyPost_ret (v := .tuple #[.agg #[.int .u64 0, .int .u64 0, .int .u64 0], .int .i64 1]) (by simp [results, Tryd.results11, go_sem, r0, r1, r2]) rfl ⟨ret_tupC0 HD.out, below_set3' (HB1.out.trans (HB2.out.mono hz1)) (Nat.le_refl _) _ _ _⟩
          · have HF := Lib.hid (show rokS a.data.toList 60 = true from HO0.out.trans hok)
            have HOK := Lib.hid hok
            go_region_held3 (fun w' => w'.cell? ⟨bb, oo, none⟩ = some (.string a) ∧ Below wr.heap.size wr w') (first | assumption | exact ⟨c0, (Below.refl _ _).drew⟩) (first | (go_at_call 29; ((with_reducible refine (rSize0 _).mono ?_); rintro e wq ⟨rfl, hwq⟩; obtain rfl := hwq)) | (go_at_call 28; ((with_reducible refine (rparts_yes0 a Q0 HQ0.out HF.out _ za).mono ?_); rintro e w2 ⟨⟨A2, k2, rfl, hl2, -⟩, hb2⟩; have H2 := held1_step (by assumption) hb2)))
            have HB2 := Lib.hid (HB.out.trans (H2.2.mono hzr))
            clear H2 hb2 c0 hl2 hok
            go_wp2_with fail
            go_roundw
            case rel => exact ⟨.inr (.inl ⟨rfl, HOK.out⟩), HB2.out⟩
            case measure => simp [intOf]
        · skip
          have K0 := Lib.hid k0
          clear k0
          obtain ⟨bb, oo, rfl, -, c0⟩ := (HL.out.on HB.out).cell (k := 1) rfl
          have c0 : wr.cell? ⟨bb, oo + 1, none⟩ = some (.string b) := c0
          go_wp2_with fail
          cases hok : o1
          · have HF := Lib.hid (show rokS b.data.toList 24 = false from HO1.out.trans hok)
            have HD := Lib.hid (parse_syn (s := s) h0 HQ.out (by have h := rok_no (by omega) HF.out; rw [h]; simp))
            go_region_held3 (fun w' => w'.cell? ⟨bb, oo + 1, none⟩ = some (.string b) ∧ Below wr.heap.size wr w') (first | assumption | exact ⟨c0, (Below.refl _ _).drew⟩) (first | (go_at_call 29; ((with_reducible refine (rSize1 _).mono ?_); rintro e wq ⟨rfl, hwq⟩; obtain rfl := hwq)) | (go_at_call 28; ((with_reducible refine (rparts_no1 b HF.out _ zb).mono ?_); rintro e w2 ⟨rfl, hb2⟩; have H2 := held1_step (by assumption) hb2)))
            have HB2 := Lib.hid (HB.out.trans (H2.2.mono hzr))
            clear H2 hb2 c0
            have r0 : w2.cell? ⟨w.heap.size, 0, none⟩ = some (.int .u64 0) := (BR.out.on HB2.out).cell 0
            have s0 : w2.frozen? ⟨w.heap.size, 0, none⟩ = false := (BR.out.on HB2.out).frozen 0
            have r1 : w2.cell? ⟨w.heap.size, 1, none⟩ = some (.int .u64 0) := (BR.out.on HB2.out).cell 1
            have s1 : w2.frozen? ⟨w.heap.size, 1, none⟩ = false := (BR.out.on HB2.out).frozen 1
            have r2 : w2.cell? ⟨w.heap.size, 2, none⟩ = some (.int .u64 0) := (BR.out.on HB2.out).cell 2
            have s2 : w2.frozen? ⟨w.heap.size, 2, none⟩ = false := (BR.out.on HB2.out).frozen 2
            go_wp2_with fail
            exact bodyPost_ret (v := .tuple #[.agg #[.int .u64 0, .int .u64 0, .int .u64 0], .int .i64 1]) (by simp [results, Tryd.results11, go_sem, r0, r1, r2]) rfl ⟨ret_tupC0 HD.out, below_set3' (HB1.out.trans (HB2.out.mono hz1)) (Nat.le_refl _) _ _ _⟩
          · have HF := Lib.hid (show rokS b.data.toList 24 = true from HO1.out.trans hok)
            have HOK := Lib.hid hok
            go_region_held3 (fun w' => w'.cell? ⟨bb, oo + 1, none⟩ = some (.string b) ∧ Below wr.heap.size wr w') (first | assumption | exact ⟨c0, (Below.refl _ _).drew⟩) (first | (go_at_call 29; ((with_reducible refine (rSize1 _).mono ?_); rintro e wq ⟨rfl, hwq⟩; obtain rfl := hwq)) | (go_at_call 28; ((with_reducible refine (rparts_yes1 b Q1 HQ1.out HF.out _ zb).mono ?_); rintro e w2 ⟨⟨A2, k2, rfl, hl2, -⟩, hb2⟩; have H2 := held1_step (by assumption) hb2)))
            have HB2 := Lib.hid (HB.out.trans (H2.2.mono hzr))
            clear H2 hb2 c0 hl2 hok
            go_wp2_with fail
            go_roundw
            case rel => exact ⟨.inr (.inr (.inl ⟨rfl, K0.out, HOK.out⟩)), HB2.out⟩
            case measure => simp [intOf]
        · skip
          have K0 := Lib.hid k0
          have K1 := Lib.hid k1
          clear k0 k1
          obtain ⟨bb, oo, rfl, -, c0⟩ := (HL.out.on HB.out).cell (k := 2) rfl
          have c0 : wr.cell? ⟨bb, oo + 2, none⟩ = some (.string c) := c0
          go_wp2_with fail
          cases hok : o2
          · have HF := Lib.hid (show rokS c.data.toList 7 = false from HO2.out.trans hok)
            have HD := Lib.hid (parse_syn (s := s) h0 HQ.out (by have h := rok_no (by omega) HF.out; rw [h]; simp))
            go_region_held3 (fun w' => w'.cell? ⟨bb, oo + 2, none⟩ = some (.string c) ∧ Below wr.heap.size wr w') (first | assumption | exact ⟨c0, (Below.refl _ _).drew⟩) (first | (go_at_call 29; ((with_reducible refine (rSize2 _).mono ?_); rintro e wq ⟨rfl, hwq⟩; obtain rfl := hwq)) | (go_at_call 28; ((with_reducible refine (rparts_no2 c HF.out _ zc).mono ?_); rintro e w2 ⟨rfl, hb2⟩; have H2 := held1_step (by assumption) hb2)))
            have HB2 := Lib.hid (HB.out.trans (H2.2.mono hzr))
            clear H2 hb2 c0
            have r0 : w2.cell? ⟨w.heap.size, 0, none⟩ = some (.int .u64 0) := (BR.out.on HB2.out).cell 0
            have s0 : w2.frozen? ⟨w.heap.size, 0, none⟩ = false := (BR.out.on HB2.out).frozen 0
            have r1 : w2.cell? ⟨w.heap.size, 1, none⟩ = some (.int .u64 0) := (BR.out.on HB2.out).cell 1
            have s1 : w2.frozen? ⟨w.heap.size, 1, none⟩ = false := (BR.out.on HB2.out).frozen 1
            have r2 : w2.cell? ⟨w.heap.size, 2, none⟩ = some (.int .u64 0) := (BR.out.on HB2.out).cell 2
            have s2 : w2.frozen? ⟨w.heap.size, 2, none⟩ = false := (BR.out.on HB2.out).frozen 2
            go_wp2_with fail
            exact bodyPost_ret (v := .tuple #[.agg #[.int .u64 0, .int .u64 0, .int .u64 0], .int .i64 1]) (by simp [results, Tryd.results11, go_sem, r0, r1, r2]) rfl ⟨ret_tupC0 HD.out, below_set3' (HB1.out.trans (HB2.out.mono hz1)) (Nat.le_refl _) _ _ _⟩
          · have HF := Lib.hid (show rokS c.data.toList 7 = true from HO2.out.trans hok)
            have HOK := Lib.hid hok
            go_region_held3 (fun w' => w'.cell? ⟨bb, oo + 2, none⟩ = some (.string c) ∧ Below wr.heap.size wr w') (first | assumption | exact ⟨c0, (Below.refl _ _).drew⟩) (first | (go_at_call 29; ((with_reducible refine (rSize2 _).mono ?_); rintro e wq ⟨rfl, hwq⟩; obtain rfl := hwq)) | (go_at_call 28; ((with_reducible refine (rparts_yes2 c Q2 HQ2.out HF.out _ zc).mono ?_); rintro e w2 ⟨⟨A2, k2, rfl, hl2, -⟩, hb2⟩; have H2 := held1_step (by assumption) hb2)))
            have HB2 := Lib.hid (HB.out.trans (H2.2.mono hzr))
            clear H2 hb2 c0 hl2 hok
            go_wp2_with fail
            go_roundw
            case rel => exact ⟨.inr (.inr (.inr ⟨rfl, K0.out, K1.out, HOK.out⟩)), HB2.out⟩
            case measure => simp [intOf]
        · have HK0 := Lib.hid (HO0.out.trans k0)
          have HK1 := Lib.hid (HO1.out.trans k1)
          have HK2 := Lib.hid (HO2.out.trans k2)
          have HR0 := Lib.hid (rfold_eq HQ0.out (size := 60) (by omega) HK0.out)
          have HR1 := Lib.hid (rfold_eq HQ1.out (size := 24) (by omega) HK1.out)
          have HR2 := Lib.hid (rfold_eq HQ2.out (size := 7) (by omega) HK2.out)
          clear k0 k1 k2
          obtain ⟨wo, rfl⟩ : ∃ wo : World, wo = wr := ⟨_, rfl⟩
          have BS := Lib.hid (Blk.new wo 23 #[.int .u64 0, .int .u64 0, .int .u64 0])
          have HBS := Lib.hid (size_new' wo (.cells #[.int .u64 0, .int .u64 0, .int .u64 0] 23))
          have HLo := Lib.hid (HL.out.on HB.out)
          have BRo := Lib.hid (BR.out.on HB.out)
          have hRo : w.heap.size < wo.heap.size := by omega
          have hzo : w.heap.size ≤ wo.heap.size := by omega
          go_wp2_with fail
          go_loopw [9] (fun i wr => ((i = .int .i64 0 ∧ Blk wr wo.heap.size 23 #[.int .u64 0, .int .u64 0, .int .u64 0]) ∨ (i = .int .i64 1 ∧ (rfoldB 60 Q0 0).2 = true ∧ Blk wr wo.heap.size 23 #[.int .u64 (rfoldB 60 Q0 0).1, .int .u64 0, .int .u64 0]) ∨ (i = .int .i64 2 ∧ (rfoldB 60 Q0 0).2 = true ∧ (rfoldB 24 Q1 0).2 = true ∧ Blk wr wo.heap.size 23 #[.int .u64 (rfoldB 60 Q0 0).1, .int .u64 (rfoldB 24 Q1 0).1, .int .u64 0]) ∨ (i = .int .i64 3 ∧ (rfoldB 60 Q0 0).2 = true ∧ (rfoldB 24 Q1 0).2 = true ∧ (rfoldB 7 Q2 0).2 = true ∧ Blk wr wo.heap.size 23 #[.int .u64 (rfoldB 60 Q0 0).1, .int .u64 (rfoldB 24 Q1 0).1, .int .u64 (rfoldB 7 Q2 0).1])) ∧ Below wo.heap.size wo wr) (fun i _ => 3 - (intOf i).toNat)
          case atStart => exact ⟨.inl ⟨rfl, BS.out⟩, HBS.out⟩
          case round =>
            obtain ⟨hc, hbr⟩ := hrel
            have HC := Lib.hid hbr
            have hzc : wo.heap.size ≤ wr.heap.size := hbr.size
            clear hbr
            rcases hc with ⟨rfl, bS⟩ | ⟨rfl, hf0, bS⟩ | ⟨rfl, hf0, hf1, bS⟩ | ⟨rfl, hf0, hf1, hf2, bS⟩
            · skip
              have BS1 := Lib.hid bS
              clear bS
              obtain ⟨bb, oo, rfl, -, c0⟩ := (HLo.out.on HC.out).cell (k := 0) rfl
              have c0 : wr.cell? ⟨bb, oo, none⟩ = some (.string a) := c0
              go_wp2_with fail
              go_region_held3 (fun w' => w'.cell? ⟨bb, oo, none⟩ = some (.string a) ∧ Below wr.heap.size wr w') (first | assumption | exact ⟨c0, (Below.refl _ _).drew⟩) (first | (go_at_call 29; ((with_reducible refine (rSize0 _).mono ?_); rintro e wq ⟨rfl, hwq⟩; obtain rfl := hwq)) | (go_at_call 28; ((with_reducible refine (rparts_yes0 a Q0 HQ0.out HK0.out _ za).mono ?_); rintro e w2 ⟨⟨A2, k2, rfl, hl2, hfr2⟩, hb2⟩; have H2 := held1_step (by assumption) hb2)))
              have HW2 := Lib.hid (HC.out.trans (H2.2.mono hzc))
              have BS2 := Lib.hid (BS1.out.on H2.2)
              have HFR := Lib.hid (show ∀ ad, A2 = some ad → wo.heap.size < ad.block from fun ad e => Nat.lt_of_lt_of_le BS1.out.lt (hfr2 ad e))
              clear hfr2
              have HL2 := Lib.hid hl2
              have hz2 : wo.heap.size ≤ w2.heap.size := HW2.out.size
              have hgs : wo.heap.size < w2.heap.size := BS2.out.lt
              clear H2 hb2 c0 hl2 BS1
              have hQl : Q0.length ≤ 1048577 := by have h := pcs_len 44 a; rw [HQ0.out] at h; omega
              have HQS := Lib.hid (show ∀ y ∈ Q0, y.size ≤ 1048576 from fun y hy => by rw [← HQ0.out] at hy; have := pcs_size hy; omega)
              go_wp2_with fail
              go_loopw [12] (fun i wr => ∃ (j acc : Nat), j ≤ Q0.length ∧ i = .int .i64 j ∧ acc < 1152921504606846976 ∧ rfoldB 60 Q0 0 = rfoldB 60 (Q0.drop j) acc ∧ Blk wr wo.heap.size 23 #[.int .u64 acc, .int .u64 0, .int .u64 0] ∧ Below wo.heap.size wo wr ∧ StrL wr wr.heap.size A2 Q0) (fun i _ => Q0.length - (intOf i).toNat)
              case atStart => exact ⟨0, 0, Nat.zero_le _, rfl, by omega, rfl, BS2.out, HW2.out, HL2.out⟩
              case round =>
                obtain ⟨j, acc, hj, rfl, hacc, hfo, bS, hbr, hl3⟩ := hrel
                have HFO := Lib.hid hfo
                have HD := Lib.hid hbr
                have hzd : wo.heap.size ≤ wr.heap.size := hbr.size
                have BS3 := Lib.hid bS
                have HL3 := Lib.hid hl3
                have HAC := Lib.hid hacc
                clear hfo hbr bS hl3 hacc
                by_cases hlt : j < Q0.length
                · obtain ⟨y, hy⟩ : ∃ y, Q0[j]? = some y := ⟨_, List.getElem?_eq_getElem hlt⟩
                  obtain ⟨b2, o2', rfl, hb2lt, c0⟩ := HL3.out.cell hy
                  have HY := Lib.hid hy
                  have hys := HQS.out y (List.mem_of_getElem? hy)
                  have hji : (j : Int) < Q0.length := by omega
                  have hj0 : (0 : Int) ≤ j := by omega
                  clear hy
                  obtain ⟨⟨⟨p1, p2, p3⟩, ok⟩, hq⟩ : ∃ q, rpartS y.data.toList 60 = q := ⟨_, rfl⟩
                  have HQP := Lib.hid hq
                  have hpb := part_bnd y.data.toList 60 (by omega)
                  rw [hq] at hpb
                  dsimp only at hpb
                  obtain ⟨hp1, hp2, hp3⟩ := hpb
                  clear hq
                  go_wp2_with fail
                  have rr := fun d os => cell_regrown (v := .string y) c0 d os
                  clear c0
                  refine wp_region_quiet_below (by kernel_rfl) (by kernel_rfl) ?_
                  repeat (go_big_quiet_step ((first | (go_at_call 29; exact rSize0_at _ _ _) | (go_at_call 30; exact rpart_at0 y p1 p2 p3 ok HQP.out hys _ _ _))))
                  refine wpQuiet_nil ?_
                  intro _ hw'
                  obtain ⟨⟨dq, osq⟩, hw''⟩ := hw'
                  subst hw''
                  have hb := below_regrown wr dq osq
                  have HD4 := Lib.hid (HD.out.trans (hb.mono hzd))
                  have BS4 := Lib.hid (BS3.out.on hb)
                  have HL4 := Lib.hid (HL3.out.on hb)
                  clear hb rr
                  generalize grow (redrawn wr dq) osq = w6 at *
                  have hz6 : wo.heap.size ≤ w6.heap.size := HD4.out.size
                  by_cases g0 : p3 < 1
                  · have u0 : decide ((p3 : Int) < 1) = true := decide_eq_true (by omega)
                    have v0 : decide (p3 < 1) = true := decide_eq_true (by omega)
                    have x0 : decide (p3 = 0) = true := decide_eq_true (by omega)
                    have HBD := Lib.hid (show rbad (p1, p2, p3) 60 = true from by unfold rbad; simp only [Bool.or_eq_true, decide_eq_true_eq]; omega)
                    have HE := Lib.hid (show parseS s = (⟨0, 0, 0⟩, 2) from parse_rng h0 HQ.out (by rw [HR0.out.2, HR1.out.2, HR2.out.2]; rfl) (by
                      have hx : (rfoldB 60 Q0 0).2 = false := by rw [HFO.out, drop_consB HY.out, rfold_bad HQP.out HBD.out]
                      rw [HR0.out.1] at hx
                      unfold foldW; simp only [hx]; simp))
                    clear g0
                    have r0 : w6.cell? ⟨w.heap.size, 0, none⟩ = some (.int .u64 0) := (BRo.out.on HD4.out).cell 0
                    have s0 : w6.frozen? ⟨w.heap.size, 0, none⟩ = false := (BRo.out.on HD4.out).frozen 0
                    have r1 : w6.cell? ⟨w.heap.size, 1, none⟩ = some (.int .u64 0) := (BRo.out.on HD4.out).cell 1
                    have s1 : w6.frozen? ⟨w.heap.size, 1, none⟩ = false := (BRo.out.on HD4.out).frozen 1
                    have r2 : w6.cell? ⟨w.heap.size, 2, none⟩ = some (.int .u64 0) := (BRo.out.on HD4.out).cell 2
                    have s2 : w6.frozen? ⟨w.heap.size, 2, none⟩ = false := (BRo.out.on HD4.out).frozen 2
                    go_wp2_with fail
                    exact bodyPost_ret (v := .tuple #[.agg #[.int .u64 0, .int .u64 0, .int .u64 0], .int .i64 2]) (by simp [results, Tryd.results11, go_sem, r0, r1, r2]) rfl ⟨ret_tupC0 HE.out, below_set3' ((HB1.out.trans (HB.out.mono hz1)).trans (HD4.out.mono hzo)) (Nat.le_refl _) _ _ _⟩
                  · have u0 : decide ((p3 : Int) < 1) = false := decide_eq_false (by omega)
                    have v0 : decide (p3 < 1) = false := decide_eq_false (by omega)
                    have x0 : decide (p3 = 0) = false := decide_eq_false (by omega)
                    by_cases g1 : 60 < p3
                    · have u1 : decide ((60 : Int) < p3) = true := decide_eq_true (by omega)
                      have v1 : decide (60 < p3) = true := decide_eq_true (by omega)
                      have HBD := Lib.hid (show rbad (p1, p2, p3) 60 = true from by unfold rbad; simp only [Bool.or_eq_true, decide_eq_true_eq]; omega)
                      have HE := Lib.hid (show parseS s = (⟨0, 0, 0⟩, 2) from parse_rng h0 HQ.out (by rw [HR0.out.2, HR1.out.2, HR2.out.2]; rfl) (by
                        have hx : (rfoldB 60 Q0 0).2 = false := by rw [HFO.out, drop_consB HY.out, rfold_bad HQP.out HBD.out]
                        rw [HR0.out.1] at hx
                        unfold foldW; simp only [hx]; simp))
                      clear g0 g1
                      have r0 : w6.cell? ⟨w.heap.size, 0, none⟩ = some (.int .u64 0) := (BRo.out.on HD4.out).cell 0
                      have s0 : w6.frozen? ⟨w.heap.size, 0, none⟩ = false := (BRo.out.on HD4.out).frozen 0
                      have r1 : w6.cell? ⟨w.heap.size, 1, none⟩ = some (.int .u64 0) := (BRo.out.on HD4.out).cell 1
                      have s1 : w6.frozen? ⟨w.heap.size, 1, none⟩ = false := (BRo.out.on HD4.out).frozen 1
                      have r2 : w6.cell? ⟨w.heap.size, 2, none⟩ = some (.int .u64 0) := (BRo.out.on HD4.out).cell 2
                      have s2 : w6.frozen? ⟨w.heap.size, 2, none⟩ = false := (BRo.out.on HD4.out).frozen 2
                      go_wp2_with fail
                      refine (rSize0 _).mono ?_
                      rintro e wq ⟨rfl, hwq⟩
                      obtain rfl := hwq
                      go_wp2_with fail
                      exact bodyPost_ret (v := .tuple #[.agg #[.int .u64 0, .int .u64 0, .int .u64 0], .int .i64 2]) (by simp [results, Tryd.results11, go_sem, r0, r1, r2]) rfl ⟨ret_tupC0 HE.out, below_set3' ((HB1.out.trans (HB.out.mono hz1)).trans (HD4.out.mono hzo)) (Nat.le_refl _) _ _ _⟩
                    · have u1 : decide ((60 : Int) < p3) = false := decide_eq_false (by omega)
                      have v1 : decide (60 < p3) = false := decide_eq_false (by omega)
                      by_cases g2 : p2 < p1
                      · have u2 : decide ((p2 : Int) < p1) = true := decide_eq_true (by omega)
                        have v2 : decide (p2 < p1) = true := decide_eq_true (by omega)
                        have HBD := Lib.hid (show rbad (p1, p2, p3) 60 = true from by unfold rbad; simp only [Bool.or_eq_true, decide_eq_true_eq]; omega)
                        have HE := Lib.hid (show parseS s = (⟨0, 0, 0⟩, 2) from parse_rng h0 HQ.out (by rw [HR0.out.2, HR1.out.2, HR2.out.2]; rfl) (by
                          have hx : (rfoldB 60 Q0 0).2 = false := by rw [HFO.out, drop_consB HY.out, rfold_bad HQP.out HBD.out]
                          rw [HR0.out.1] at hx
                          unfold foldW; simp only [hx]; simp))
                        clear g0 g1 g2
                        have r0 : w6.cell? ⟨w.heap.size, 0, none⟩ = some (.int .u64 0) := (BRo.out.on HD4.out).cell 0
                        have s0 : w6.frozen? ⟨w.heap.size, 0, none⟩ = false := (BRo.out.on HD4.out).frozen 0
                        have r1 : w6.cell? ⟨w.heap.size, 1, none⟩ = some (.int .u64 0) := (BRo.out.on HD4.out).cell 1
                        have s1 : w6.frozen? ⟨w.heap.size, 1, none⟩ = false := (BRo.out.on HD4.out).frozen 1
                        have r2 : w6.cell? ⟨w.heap.size, 2, none⟩ = some (.int .u64 0) := (BRo.out.on HD4.out).cell 2
                        have s2 : w6.frozen? ⟨w.heap.size, 2, none⟩ = false := (BRo.out.on HD4.out).frozen 2
                        go_wp2_with fail
                        refine (rSize0 _).mono ?_
                        rintro e wq ⟨rfl, hwq⟩
                        obtain rfl := hwq
                        go_wp2_with fail
                        exact bodyPost_ret (v := .tuple #[.agg #[.int .u64 0, .int .u64 0, .int .u64 0], .int .i64 2]) (by simp [results, Tryd.results11, go_sem, r0, r1, r2]) rfl ⟨ret_tupC0 HE.out, below_set3' ((HB1.out.trans (HB.out.mono hz1)).trans (HD4.out.mono hzo)) (Nat.le_refl _) _ _ _⟩
                      · have u2 : decide ((p2 : Int) < p1) = false := decide_eq_false (by omega)
                        have v2 : decide (p2 < p1) = false := decide_eq_false (by omega)
                        by_cases g3 : 60 ≤ p2
                        · have u3 : decide ((60 : Int) ≤ p2) = true := decide_eq_true (by omega)
                          have v3 : decide (60 ≤ p2) = true := decide_eq_true (by omega)
                          have HBD := Lib.hid (show rbad (p1, p2, p3) 60 = true from by unfold rbad; simp only [Bool.or_eq_true, decide_eq_true_eq]; omega)
                          have HE := Lib.hid (show parseS s = (⟨0, 0, 0⟩, 2) from parse_rng h0 HQ.out (by rw [HR0.out.2, HR1.out.2, HR2.out.2]; rfl) (by
                            have hx : (rfoldB 60 Q0 0).2 = false := by rw [HFO.out, drop_consB HY.out, rfold_bad HQP.out HBD.out]
                            rw [HR0.out.1] at hx
                            unfold foldW; simp only [hx]; simp))
                          clear g0 g1 g2 g3
                          have r0 : w6.cell? ⟨w.heap.size, 0, none⟩ = some (.int .u64 0) := (BRo.out.on HD4.out).cell 0
                          have s0 : w6.frozen? ⟨w.heap.size, 0, none⟩ = false := (BRo.out.on HD4.out).frozen 0
                          have r1 : w6.cell? ⟨w.heap.size, 1, none⟩ = some (.int .u64 0) := (BRo.out.on HD4.out).cell 1
                          have s1 : w6.frozen? ⟨w.heap.size, 1, none⟩ = false := (BRo.out.on HD4.out).frozen 1
                          have r2 : w6.cell? ⟨w.heap.size, 2, none⟩ = some (.int .u64 0) := (BRo.out.on HD4.out).cell 2
                          have s2 : w6.frozen? ⟨w.heap.size, 2, none⟩ = false := (BRo.out.on HD4.out).frozen 2
                          go_wp2_with fail
                          refine (rSize0 _).mono ?_
                          rintro e wq ⟨rfl, hwq⟩
                          obtain rfl := hwq
                          go_wp2_with fail
                          refine (rSize0 _).mono ?_
                          rintro e wq ⟨rfl, hwq⟩
                          obtain rfl := hwq
                          go_wp2_with fail
                          exact bodyPost_ret (v := .tuple #[.agg #[.int .u64 0, .int .u64 0, .int .u64 0], .int .i64 2]) (by simp [results, Tryd.results11, go_sem, r0, r1, r2]) rfl ⟨ret_tupC0 HE.out, below_set3' ((HB1.out.trans (HB.out.mono hz1)).trans (HD4.out.mono hzo)) (Nat.le_refl _) _ _ _⟩
                        · have u3 : decide ((60 : Int) ≤ p2) = false := decide_eq_false (by omega)
                          have v3 : decide (60 ≤ p2) = false := decide_eq_false (by omega)
                          have HBD := Lib.hid (show rbad (p1, p2, p3) 60 = false from by unfold rbad; rw [← Bool.not_eq_true]; simp only [Bool.or_eq_true, decide_eq_true_eq]; omega)
                          have HG := Lib.hid (show rfoldB 60 Q0 0 = rfoldB 60 (Q0.drop (j + 1)) (runS p3 p2 (p2 + 1 - p1) p1 acc) from by rw [HFO.out, drop_consB HY.out, rfold_go HQP.out HBD.out])
                          go_wp2_with fail
                          refine (rSize0 _).mono ?_
                          rintro e wq ⟨rfl, hwq⟩
                          obtain rfl := hwq
                          go_wp2_with fail
                          refine (rSize0 _).mono ?_
                          rintro e wq ⟨rfl, hwq⟩
                          obtain rfl := hwq
                          go_wp2_with fail
                          go_loopw [17] (fun i wr => ∃ (n m : Nat), i = .int .i64 n ∧ m < 1152921504606846976 ∧ (n : Int) ≤ 2000000000 ∧ runS p3 p2 (p2 + 1 - p1) p1 acc = runS p3 p2 (p2 + 1 - n) n m ∧ Blk wr wo.heap.size 23 #[.int .u64 m, .int .u64 0, .int .u64 0] ∧ Below wo.heap.size wo wr ∧ StrL wr wr.heap.size (some ⟨b2, o2', none⟩) Q0) (fun i _ => p2 + 1 - (intOf i).toNat)
                          case atStart => exact ⟨p1, acc, rfl, HAC.out, by omega, rfl, BS4.out, HD4.out, HL4.out⟩
                          case round =>
                            obtain ⟨q, m, rfl, hm, hqb, hrun, bS, hbr, hl5⟩ := hrel
                            have HRU := Lib.hid hrun
                            have HD5 := Lib.hid hbr
                            have BS5 := Lib.hid bS
                            have HL5 := Lib.hid hl5
                            have hz5 : wo.heap.size ≤ wr.heap.size := hbr.size
                            clear hrun hbr bS hl5
                            by_cases hle : q ≤ p2
                            · have tl : decide ((q : Int) ≤ p2) = true := decide_eq_true (by omega)
                              have ul : decide (q ≤ p2) = true := decide_eq_true (by omega)
                              have HS := Lib.hid (runS_step (st := p3) (by omega) hle m)
                              have hn59 : q ≤ 59 := by omega
                              have hn0 : (0 : Int) ≤ q := by omega
                              have hn64 : (q : Int) ≤ 64 := by omega
                              obtain ⟨P, hP⟩ : ∃ P, 2 ^ q = P := ⟨_, rfl⟩
                              have hPb : P < 1152921504606846976 := by rw [← hP, show (1152921504606846976 : Nat) = 2 ^ 60 from by decide]; exact Nat.pow_lt_pow_right (by omega) (by omega)
                              have e1 : IntKind.u64.wrap ((2 : Int) ^ q) = (P : Int) := by rw [pow_u64 (by omega), hP]
                              obtain ⟨A5, hA⟩ : ∃ A, m ||| P = A := ⟨_, rfl⟩
                              have hAb : A5 < 1152921504606846976 := by rw [← hA, show (1152921504606846976 : Nat) = 2 ^ 60 from by decide] at *; exact Nat.or_lt_two_pow hm hPb
                              have e2 : bits .or .u64 (m : Int) (P : Int) = (A5 : Int) := by rw [or_u64 hm hPb, hA]
                              have e3 : IntKind.i64.wrap ((q : Int) + p3) = ((q + p3 : Nat) : Int) := by rw [IntKind.wrap_i64]; omega
                              obtain ⟨q', hq'⟩ : ∃ q', q + p3 = q' := ⟨_, rfl⟩
                              rw [hq'] at e3 HS
                              rw [hP, hA] at HS
                              have hmb : (q' : Int) ≤ 2000000000 := by omega
                              have hmn : q < q' := by omega
                              have HP := Lib.hid hAb
                              clear hP hA hq' hPb hAb hm
                              have qs : wr.cell? ⟨wo.heap.size, 0, none⟩ = some (.int .u64 m) := BS5.out.cell 0
                              have fs : wr.frozen? ⟨wo.heap.size, 0, none⟩ = false := BS5.out.frozen 0
                              go_wp2_with fail
                              go_roundw
                              case rel => exact ⟨q', A5, rfl, HP.out, hmb, by rw [HRU.out, HS.out], by simpa using BS5.out.set_ 0 (.int .u64 A5), HD5.out.setCell (p := ⟨wo.heap.size, 0, none⟩) (Nat.le_refl _) _, strl_set HL5.out (fun ad e => by have h := HFR.out ad e; omega) 0 _⟩
                              case measure => simp [intOf]; omega
                            · have tl : decide ((q : Int) ≤ p2) = false := decide_eq_false (by omega)
                              have ul : decide (q ≤ p2) = false := decide_eq_false (by omega)
                              have HN := Lib.hid (show rfoldB 60 Q0 0 = rfoldB 60 (Q0.drop (j + 1)) m from by rw [HG.out, HRU.out, runS_stop hle])
                              have HMB := Lib.hid hm
                              clear hm
                              go_wp2_with fail
                              go_roundw
                              case rel => exact ⟨j + 1, m, by omega, by go_num, HMB.out, HN.out, BS5.out, HD5.out, HL5.out⟩
                              case measure => simp [intOf]; omega
                · have hji : ¬ (j : Int) < Q0.length := by omega
                  obtain rfl : j = Q0.length := by omega
                  have HN := Lib.hid (show rfoldB 60 Q0 0 = (acc, true) from by rw [HFO.out, List.drop_length]; rfl)
                  have BS5 := Lib.hid (show Blk wr wo.heap.size 23 #[.int .u64 (rfoldB 60 Q0 0).1, .int .u64 0, .int .u64 0] from by rw [HN.out]; exact BS3.out)
                  go_wp2_with fail
                  go_roundw
                  case rel => exact ⟨.inr (.inl ⟨rfl, by rw [HN.out], BS5.out⟩), HD.out⟩
                  case measure => simp [intOf]
            · skip
              have HF0 := Lib.hid hf0
              clear hf0
              have BS1 := Lib.hid bS
              clear bS
              obtain ⟨bb, oo, rfl, -, c0⟩ := (HLo.out.on HC.out).cell (k := 1) rfl
              have c0 : wr.cell? ⟨bb, oo + 1, none⟩ = some (.string b) := c0
              go_wp2_with fail
              go_region_held3 (fun w' => w'.cell? ⟨bb, oo + 1, none⟩ = some (.string b) ∧ Below wr.heap.size wr w') (first | assumption | exact ⟨c0, (Below.refl _ _).drew⟩) (first | (go_at_call 29; ((with_reducible refine (rSize1 _).mono ?_); rintro e wq ⟨rfl, hwq⟩; obtain rfl := hwq)) | (go_at_call 28; ((with_reducible refine (rparts_yes1 b Q1 HQ1.out HK1.out _ zb).mono ?_); rintro e w2 ⟨⟨A2, k2, rfl, hl2, hfr2⟩, hb2⟩; have H2 := held1_step (by assumption) hb2)))
              have HW2 := Lib.hid (HC.out.trans (H2.2.mono hzc))
              have BS2 := Lib.hid (BS1.out.on H2.2)
              have HFR := Lib.hid (show ∀ ad, A2 = some ad → wo.heap.size < ad.block from fun ad e => Nat.lt_of_lt_of_le BS1.out.lt (hfr2 ad e))
              clear hfr2
              have HL2 := Lib.hid hl2
              have hz2 : wo.heap.size ≤ w2.heap.size := HW2.out.size
              have hgs : wo.heap.size < w2.heap.size := BS2.out.lt
              clear H2 hb2 c0 hl2 BS1
              have hQl : Q1.length ≤ 1048577 := by have h := pcs_len 44 b; rw [HQ1.out] at h; omega
              have HQS := Lib.hid (show ∀ y ∈ Q1, y.size ≤ 1048576 from fun y hy => by rw [← HQ1.out] at hy; have := pcs_size hy; omega)
              go_wp2_with fail
              go_loopw [12] (fun i wr => ∃ (j acc : Nat), j ≤ Q1.length ∧ i = .int .i64 j ∧ acc < 1152921504606846976 ∧ rfoldB 24 Q1 0 = rfoldB 24 (Q1.drop j) acc ∧ Blk wr wo.heap.size 23 #[.int .u64 (rfoldB 60 Q0 0).1, .int .u64 acc, .int .u64 0] ∧ Below wo.heap.size wo wr ∧ StrL wr wr.heap.size A2 Q1) (fun i _ => Q1.length - (intOf i).toNat)
              case atStart => exact ⟨0, 0, Nat.zero_le _, rfl, by omega, rfl, BS2.out, HW2.out, HL2.out⟩
              case round =>
                obtain ⟨j, acc, hj, rfl, hacc, hfo, bS, hbr, hl3⟩ := hrel
                have HFO := Lib.hid hfo
                have HD := Lib.hid hbr
                have hzd : wo.heap.size ≤ wr.heap.size := hbr.size
                have BS3 := Lib.hid bS
                have HL3 := Lib.hid hl3
                have HAC := Lib.hid hacc
                clear hfo hbr bS hl3 hacc
                by_cases hlt : j < Q1.length
                · obtain ⟨y, hy⟩ : ∃ y, Q1[j]? = some y := ⟨_, List.getElem?_eq_getElem hlt⟩
                  obtain ⟨b2, o2', rfl, hb2lt, c0⟩ := HL3.out.cell hy
                  have HY := Lib.hid hy
                  have hys := HQS.out y (List.mem_of_getElem? hy)
                  have hji : (j : Int) < Q1.length := by omega
                  have hj0 : (0 : Int) ≤ j := by omega
                  clear hy
                  obtain ⟨⟨⟨p1, p2, p3⟩, ok⟩, hq⟩ : ∃ q, rpartS y.data.toList 24 = q := ⟨_, rfl⟩
                  have HQP := Lib.hid hq
                  have hpb := part_bnd y.data.toList 24 (by omega)
                  rw [hq] at hpb
                  dsimp only at hpb
                  obtain ⟨hp1, hp2, hp3⟩ := hpb
                  clear hq
                  go_wp2_with fail
                  have rr := fun d os => cell_regrown (v := .string y) c0 d os
                  clear c0
                  refine wp_region_quiet_below (by kernel_rfl) (by kernel_rfl) ?_
                  repeat (go_big_quiet_step ((first | (go_at_call 29; exact rSize1_at _ _ _) | (go_at_call 30; exact rpart_at1 y p1 p2 p3 ok HQP.out hys _ _ _))))
                  refine wpQuiet_nil ?_
                  intro _ hw'
                  obtain ⟨⟨dq, osq⟩, hw''⟩ := hw'
                  subst hw''
                  have hb := below_regrown wr dq osq
                  have HD4 := Lib.hid (HD.out.trans (hb.mono hzd))
                  have BS4 := Lib.hid (BS3.out.on hb)
                  have HL4 := Lib.hid (HL3.out.on hb)
                  clear hb rr
                  generalize grow (redrawn wr dq) osq = w6 at *
                  have hz6 : wo.heap.size ≤ w6.heap.size := HD4.out.size
                  by_cases g0 : p3 < 1
                  · have u0 : decide ((p3 : Int) < 1) = true := decide_eq_true (by omega)
                    have v0 : decide (p3 < 1) = true := decide_eq_true (by omega)
                    have x0 : decide (p3 = 0) = true := decide_eq_true (by omega)
                    have HBD := Lib.hid (show rbad (p1, p2, p3) 24 = true from by unfold rbad; simp only [Bool.or_eq_true, decide_eq_true_eq]; omega)
                    have HE := Lib.hid (show parseS s = (⟨0, 0, 0⟩, 2) from parse_rng h0 HQ.out (by rw [HR0.out.2, HR1.out.2, HR2.out.2]; rfl) (by
                      have hx : (rfoldB 24 Q1 0).2 = false := by rw [HFO.out, drop_consB HY.out, rfold_bad HQP.out HBD.out]
                      rw [HR1.out.1] at hx
                      unfold foldW; simp only [hx]; simp))
                    clear g0
                    have r0 : w6.cell? ⟨w.heap.size, 0, none⟩ = some (.int .u64 0) := (BRo.out.on HD4.out).cell 0
                    have s0 : w6.frozen? ⟨w.heap.size, 0, none⟩ = false := (BRo.out.on HD4.out).frozen 0
                    have r1 : w6.cell? ⟨w.heap.size, 1, none⟩ = some (.int .u64 0) := (BRo.out.on HD4.out).cell 1
                    have s1 : w6.frozen? ⟨w.heap.size, 1, none⟩ = false := (BRo.out.on HD4.out).frozen 1
                    have r2 : w6.cell? ⟨w.heap.size, 2, none⟩ = some (.int .u64 0) := (BRo.out.on HD4.out).cell 2
                    have s2 : w6.frozen? ⟨w.heap.size, 2, none⟩ = false := (BRo.out.on HD4.out).frozen 2
                    go_wp2_with fail
                    exact bodyPost_ret (v := .tuple #[.agg #[.int .u64 0, .int .u64 0, .int .u64 0], .int .i64 2]) (by simp [results, Tryd.results11, go_sem, r0, r1, r2]) rfl ⟨ret_tupC0 HE.out, below_set3' ((HB1.out.trans (HB.out.mono hz1)).trans (HD4.out.mono hzo)) (Nat.le_refl _) _ _ _⟩
                  · have u0 : decide ((p3 : Int) < 1) = false := decide_eq_false (by omega)
                    have v0 : decide (p3 < 1) = false := decide_eq_false (by omega)
                    have x0 : decide (p3 = 0) = false := decide_eq_false (by omega)
                    by_cases g1 : 24 < p3
                    · have u1 : decide ((24 : Int) < p3) = true := decide_eq_true (by omega)
                      have v1 : decide (24 < p3) = true := decide_eq_true (by omega)
                      have HBD := Lib.hid (show rbad (p1, p2, p3) 24 = true from by unfold rbad; simp only [Bool.or_eq_true, decide_eq_true_eq]; omega)
                      have HE := Lib.hid (show parseS s = (⟨0, 0, 0⟩, 2) from parse_rng h0 HQ.out (by rw [HR0.out.2, HR1.out.2, HR2.out.2]; rfl) (by
                        have hx : (rfoldB 24 Q1 0).2 = false := by rw [HFO.out, drop_consB HY.out, rfold_bad HQP.out HBD.out]
                        rw [HR1.out.1] at hx
                        unfold foldW; simp only [hx]; simp))
                      clear g0 g1
                      have r0 : w6.cell? ⟨w.heap.size, 0, none⟩ = some (.int .u64 0) := (BRo.out.on HD4.out).cell 0
                      have s0 : w6.frozen? ⟨w.heap.size, 0, none⟩ = false := (BRo.out.on HD4.out).frozen 0
                      have r1 : w6.cell? ⟨w.heap.size, 1, none⟩ = some (.int .u64 0) := (BRo.out.on HD4.out).cell 1
                      have s1 : w6.frozen? ⟨w.heap.size, 1, none⟩ = false := (BRo.out.on HD4.out).frozen 1
                      have r2 : w6.cell? ⟨w.heap.size, 2, none⟩ = some (.int .u64 0) := (BRo.out.on HD4.out).cell 2
                      have s2 : w6.frozen? ⟨w.heap.size, 2, none⟩ = false := (BRo.out.on HD4.out).frozen 2
                      go_wp2_with fail
                      refine (rSize1 _).mono ?_
                      rintro e wq ⟨rfl, hwq⟩
                      obtain rfl := hwq
                      go_wp2_with fail
                      exact bodyPost_ret (v := .tuple #[.agg #[.int .u64 0, .int .u64 0, .int .u64 0], .int .i64 2]) (by simp [results, Tryd.results11, go_sem, r0, r1, r2]) rfl ⟨ret_tupC0 HE.out, below_set3' ((HB1.out.trans (HB.out.mono hz1)).trans (HD4.out.mono hzo)) (Nat.le_refl _) _ _ _⟩
                    · have u1 : decide ((24 : Int) < p3) = false := decide_eq_false (by omega)
                      have v1 : decide (24 < p3) = false := decide_eq_false (by omega)
                      by_cases g2 : p2 < p1
                      · have u2 : decide ((p2 : Int) < p1) = true := decide_eq_true (by omega)
                        have v2 : decide (p2 < p1) = true := decide_eq_true (by omega)
                        have HBD := Lib.hid (show rbad (p1, p2, p3) 24 = true from by unfold rbad; simp only [Bool.or_eq_true, decide_eq_true_eq]; omega)
                        have HE := Lib.hid (show parseS s = (⟨0, 0, 0⟩, 2) from parse_rng h0 HQ.out (by rw [HR0.out.2, HR1.out.2, HR2.out.2]; rfl) (by
                          have hx : (rfoldB 24 Q1 0).2 = false := by rw [HFO.out, drop_consB HY.out, rfold_bad HQP.out HBD.out]
                          rw [HR1.out.1] at hx
                          unfold foldW; simp only [hx]; simp))
                        clear g0 g1 g2
                        have r0 : w6.cell? ⟨w.heap.size, 0, none⟩ = some (.int .u64 0) := (BRo.out.on HD4.out).cell 0
                        have s0 : w6.frozen? ⟨w.heap.size, 0, none⟩ = false := (BRo.out.on HD4.out).frozen 0
                        have r1 : w6.cell? ⟨w.heap.size, 1, none⟩ = some (.int .u64 0) := (BRo.out.on HD4.out).cell 1
                        have s1 : w6.frozen? ⟨w.heap.size, 1, none⟩ = false := (BRo.out.on HD4.out).frozen 1
                        have r2 : w6.cell? ⟨w.heap.size, 2, none⟩ = some (.int .u64 0) := (BRo.out.on HD4.out).cell 2
                        have s2 : w6.frozen? ⟨w.heap.size, 2, none⟩ = false := (BRo.out.on HD4.out).frozen 2
                        go_wp2_with fail
                        refine (rSize1 _).mono ?_
                        rintro e wq ⟨rfl, hwq⟩
                        obtain rfl := hwq
                        go_wp2_with fail
                        exact bodyPost_ret (v := .tuple #[.agg #[.int .u64 0, .int .u64 0, .int .u64 0], .int .i64 2]) (by simp [results, Tryd.results11, go_sem, r0, r1, r2]) rfl ⟨ret_tupC0 HE.out, below_set3' ((HB1.out.trans (HB.out.mono hz1)).trans (HD4.out.mono hzo)) (Nat.le_refl _) _ _ _⟩
                      · have u2 : decide ((p2 : Int) < p1) = false := decide_eq_false (by omega)
                        have v2 : decide (p2 < p1) = false := decide_eq_false (by omega)
                        by_cases g3 : 24 ≤ p2
                        · have u3 : decide ((24 : Int) ≤ p2) = true := decide_eq_true (by omega)
                          have v3 : decide (24 ≤ p2) = true := decide_eq_true (by omega)
                          have HBD := Lib.hid (show rbad (p1, p2, p3) 24 = true from by unfold rbad; simp only [Bool.or_eq_true, decide_eq_true_eq]; omega)
                          have HE := Lib.hid (show parseS s = (⟨0, 0, 0⟩, 2) from parse_rng h0 HQ.out (by rw [HR0.out.2, HR1.out.2, HR2.out.2]; rfl) (by
                            have hx : (rfoldB 24 Q1 0).2 = false := by rw [HFO.out, drop_consB HY.out, rfold_bad HQP.out HBD.out]
                            rw [HR1.out.1] at hx
                            unfold foldW; simp only [hx]; simp))
                          clear g0 g1 g2 g3
                          have r0 : w6.cell? ⟨w.heap.size, 0, none⟩ = some (.int .u64 0) := (BRo.out.on HD4.out).cell 0
                          have s0 : w6.frozen? ⟨w.heap.size, 0, none⟩ = false := (BRo.out.on HD4.out).frozen 0
                          have r1 : w6.cell? ⟨w.heap.size, 1, none⟩ = some (.int .u64 0) := (BRo.out.on HD4.out).cell 1
                          have s1 : w6.frozen? ⟨w.heap.size, 1, none⟩ = false := (BRo.out.on HD4.out).frozen 1
                          have r2 : w6.cell? ⟨w.heap.size, 2, none⟩ = some (.int .u64 0) := (BRo.out.on HD4.out).cell 2
                          have s2 : w6.frozen? ⟨w.heap.size, 2, none⟩ = false := (BRo.out.on HD4.out).frozen 2
                          go_wp2_with fail
                          refine (rSize1 _).mono ?_
                          rintro e wq ⟨rfl, hwq⟩
                          obtain rfl := hwq
                          go_wp2_with fail
                          refine (rSize1 _).mono ?_
                          rintro e wq ⟨rfl, hwq⟩
                          obtain rfl := hwq
                          go_wp2_with fail
                          exact bodyPost_ret (v := .tuple #[.agg #[.int .u64 0, .int .u64 0, .int .u64 0], .int .i64 2]) (by simp [results, Tryd.results11, go_sem, r0, r1, r2]) rfl ⟨ret_tupC0 HE.out, below_set3' ((HB1.out.trans (HB.out.mono hz1)).trans (HD4.out.mono hzo)) (Nat.le_refl _) _ _ _⟩
                        · have u3 : decide ((24 : Int) ≤ p2) = false := decide_eq_false (by omega)
                          have v3 : decide (24 ≤ p2) = false := decide_eq_false (by omega)
                          have HBD := Lib.hid (show rbad (p1, p2, p3) 24 = false from by unfold rbad; rw [← Bool.not_eq_true]; simp only [Bool.or_eq_true, decide_eq_true_eq]; omega)
                          have HG := Lib.hid (show rfoldB 24 Q1 0 = rfoldB 24 (Q1.drop (j + 1)) (runS p3 p2 (p2 + 1 - p1) p1 acc) from by rw [HFO.out, drop_consB HY.out, rfold_go HQP.out HBD.out])
                          go_wp2_with fail
                          refine (rSize1 _).mono ?_
                          rintro e wq ⟨rfl, hwq⟩
                          obtain rfl := hwq
                          go_wp2_with fail
                          refine (rSize1 _).mono ?_
                          rintro e wq ⟨rfl, hwq⟩
                          obtain rfl := hwq
                          go_wp2_with fail
                          go_loopw [17] (fun i wr => ∃ (n m : Nat), i = .int .i64 n ∧ m < 1152921504606846976 ∧ (n : Int) ≤ 2000000000 ∧ runS p3 p2 (p2 + 1 - p1) p1 acc = runS p3 p2 (p2 + 1 - n) n m ∧ Blk wr wo.heap.size 23 #[.int .u64 (rfoldB 60 Q0 0).1, .int .u64 m, .int .u64 0] ∧ Below wo.heap.size wo wr ∧ StrL wr wr.heap.size (some ⟨b2, o2', none⟩) Q1) (fun i _ => p2 + 1 - (intOf i).toNat)
                          case atStart => exact ⟨p1, acc, rfl, HAC.out, by omega, rfl, BS4.out, HD4.out, HL4.out⟩
                          case round =>
                            obtain ⟨q, m, rfl, hm, hqb, hrun, bS, hbr, hl5⟩ := hrel
                            have HRU := Lib.hid hrun
                            have HD5 := Lib.hid hbr
                            have BS5 := Lib.hid bS
                            have HL5 := Lib.hid hl5
                            have hz5 : wo.heap.size ≤ wr.heap.size := hbr.size
                            clear hrun hbr bS hl5
                            by_cases hle : q ≤ p2
                            · have tl : decide ((q : Int) ≤ p2) = true := decide_eq_true (by omega)
                              have ul : decide (q ≤ p2) = true := decide_eq_true (by omega)
                              have HS := Lib.hid (runS_step (st := p3) (by omega) hle m)
                              have hn59 : q ≤ 59 := by omega
                              have hn0 : (0 : Int) ≤ q := by omega
                              have hn64 : (q : Int) ≤ 64 := by omega
                              obtain ⟨P, hP⟩ : ∃ P, 2 ^ q = P := ⟨_, rfl⟩
                              have hPb : P < 1152921504606846976 := by rw [← hP, show (1152921504606846976 : Nat) = 2 ^ 60 from by decide]; exact Nat.pow_lt_pow_right (by omega) (by omega)
                              have e1 : IntKind.u64.wrap ((2 : Int) ^ q) = (P : Int) := by rw [pow_u64 (by omega), hP]
                              obtain ⟨A5, hA⟩ : ∃ A, m ||| P = A := ⟨_, rfl⟩
                              have hAb : A5 < 1152921504606846976 := by rw [← hA, show (1152921504606846976 : Nat) = 2 ^ 60 from by decide] at *; exact Nat.or_lt_two_pow hm hPb
                              have e2 : bits .or .u64 (m : Int) (P : Int) = (A5 : Int) := by rw [or_u64 hm hPb, hA]
                              have e3 : IntKind.i64.wrap ((q : Int) + p3) = ((q + p3 : Nat) : Int) := by rw [IntKind.wrap_i64]; omega
                              obtain ⟨q', hq'⟩ : ∃ q', q + p3 = q' := ⟨_, rfl⟩
                              rw [hq'] at e3 HS
                              rw [hP, hA] at HS
                              have hmb : (q' : Int) ≤ 2000000000 := by omega
                              have hmn : q < q' := by omega
                              have HP := Lib.hid hAb
                              clear hP hA hq' hPb hAb hm
                              have qs : wr.cell? ⟨wo.heap.size, 1, none⟩ = some (.int .u64 m) := BS5.out.cell 1
                              have fs : wr.frozen? ⟨wo.heap.size, 1, none⟩ = false := BS5.out.frozen 1
                              go_wp2_with fail
                              go_roundw
                              case rel => exact ⟨q', A5, rfl, HP.out, hmb, by rw [HRU.out, HS.out], by simpa using BS5.out.set_ 1 (.int .u64 A5), HD5.out.setCell (p := ⟨wo.heap.size, 1, none⟩) (Nat.le_refl _) _, strl_set HL5.out (fun ad e => by have h := HFR.out ad e; omega) 1 _⟩
                              case measure => simp [intOf]; omega
                            · have tl : decide ((q : Int) ≤ p2) = false := decide_eq_false (by omega)
                              have ul : decide (q ≤ p2) = false := decide_eq_false (by omega)
                              have HN := Lib.hid (show rfoldB 24 Q1 0 = rfoldB 24 (Q1.drop (j + 1)) m from by rw [HG.out, HRU.out, runS_stop hle])
                              have HMB := Lib.hid hm
                              clear hm
                              go_wp2_with fail
                              go_roundw
                              case rel => exact ⟨j + 1, m, by omega, by go_num, HMB.out, HN.out, BS5.out, HD5.out, HL5.out⟩
                              case measure => simp [intOf]; omega
                · have hji : ¬ (j : Int) < Q1.length := by omega
                  obtain rfl : j = Q1.length := by omega
                  have HN := Lib.hid (show rfoldB 24 Q1 0 = (acc, true) from by rw [HFO.out, List.drop_length]; rfl)
                  have BS5 := Lib.hid (show Blk wr wo.heap.size 23 #[.int .u64 (rfoldB 60 Q0 0).1, .int .u64 (rfoldB 24 Q1 0).1, .int .u64 0] from by rw [HN.out]; exact BS3.out)
                  go_wp2_with fail
                  go_roundw
                  case rel => exact ⟨.inr (.inr (.inl ⟨rfl, HF0.out, by rw [HN.out], BS5.out⟩)), HD.out⟩
                  case measure => simp [intOf]
            · skip
              have HF0 := Lib.hid hf0
              have HF1 := Lib.hid hf1
              clear hf0 hf1
              have BS1 := Lib.hid bS
              clear bS
              obtain ⟨bb, oo, rfl, -, c0⟩ := (HLo.out.on HC.out).cell (k := 2) rfl
              have c0 : wr.cell? ⟨bb, oo + 2, none⟩ = some (.string c) := c0
              go_wp2_with fail
              go_region_held3 (fun w' => w'.cell? ⟨bb, oo + 2, none⟩ = some (.string c) ∧ Below wr.heap.size wr w') (first | assumption | exact ⟨c0, (Below.refl _ _).drew⟩) (first | (go_at_call 29; ((with_reducible refine (rSize2 _).mono ?_); rintro e wq ⟨rfl, hwq⟩; obtain rfl := hwq)) | (go_at_call 28; ((with_reducible refine (rparts_yes2 c Q2 HQ2.out HK2.out _ zc).mono ?_); rintro e w2 ⟨⟨A2, k2, rfl, hl2, hfr2⟩, hb2⟩; have H2 := held1_step (by assumption) hb2)))
              have HW2 := Lib.hid (HC.out.trans (H2.2.mono hzc))
              have BS2 := Lib.hid (BS1.out.on H2.2)
              have HFR := Lib.hid (show ∀ ad, A2 = some ad → wo.heap.size < ad.block from fun ad e => Nat.lt_of_lt_of_le BS1.out.lt (hfr2 ad e))
              clear hfr2
              have HL2 := Lib.hid hl2
              have hz2 : wo.heap.size ≤ w2.heap.size := HW2.out.size
              have hgs : wo.heap.size < w2.heap.size := BS2.out.lt
              clear H2 hb2 c0 hl2 BS1
              have hQl : Q2.length ≤ 1048577 := by have h := pcs_len 44 c; rw [HQ2.out] at h; omega
              have HQS := Lib.hid (show ∀ y ∈ Q2, y.size ≤ 1048576 from fun y hy => by rw [← HQ2.out] at hy; have := pcs_size hy; omega)
              go_wp2_with fail
              go_loopw [12] (fun i wr => ∃ (j acc : Nat), j ≤ Q2.length ∧ i = .int .i64 j ∧ acc < 1152921504606846976 ∧ rfoldB 7 Q2 0 = rfoldB 7 (Q2.drop j) acc ∧ Blk wr wo.heap.size 23 #[.int .u64 (rfoldB 60 Q0 0).1, .int .u64 (rfoldB 24 Q1 0).1, .int .u64 acc] ∧ Below wo.heap.size wo wr ∧ StrL wr wr.heap.size A2 Q2) (fun i _ => Q2.length - (intOf i).toNat)
              case atStart => exact ⟨0, 0, Nat.zero_le _, rfl, by omega, rfl, BS2.out, HW2.out, HL2.out⟩
              case round =>
                obtain ⟨j, acc, hj, rfl, hacc, hfo, bS, hbr, hl3⟩ := hrel
                have HFO := Lib.hid hfo
                have HD := Lib.hid hbr
                have hzd : wo.heap.size ≤ wr.heap.size := hbr.size
                have BS3 := Lib.hid bS
                have HL3 := Lib.hid hl3
                have HAC := Lib.hid hacc
                clear hfo hbr bS hl3 hacc
                by_cases hlt : j < Q2.length
                · obtain ⟨y, hy⟩ : ∃ y, Q2[j]? = some y := ⟨_, List.getElem?_eq_getElem hlt⟩
                  obtain ⟨b2, o2', rfl, hb2lt, c0⟩ := HL3.out.cell hy
                  have HY := Lib.hid hy
                  have hys := HQS.out y (List.mem_of_getElem? hy)
                  have hji : (j : Int) < Q2.length := by omega
                  have hj0 : (0 : Int) ≤ j := by omega
                  clear hy
                  obtain ⟨⟨⟨p1, p2, p3⟩, ok⟩, hq⟩ : ∃ q, rpartS y.data.toList 7 = q := ⟨_, rfl⟩
                  have HQP := Lib.hid hq
                  have hpb := part_bnd y.data.toList 7 (by omega)
                  rw [hq] at hpb
                  dsimp only at hpb
                  obtain ⟨hp1, hp2, hp3⟩ := hpb
                  clear hq
                  go_wp2_with fail
                  have rr := fun d os => cell_regrown (v := .string y) c0 d os
                  clear c0
                  refine wp_region_quiet_below (by kernel_rfl) (by kernel_rfl) ?_
                  repeat (go_big_quiet_step ((first | (go_at_call 29; exact rSize2_at _ _ _) | (go_at_call 30; exact rpart_at2 y p1 p2 p3 ok HQP.out hys _ _ _))))
                  refine wpQuiet_nil ?_
                  intro _ hw'
                  obtain ⟨⟨dq, osq⟩, hw''⟩ := hw'
                  subst hw''
                  have hb := below_regrown wr dq osq
                  have HD4 := Lib.hid (HD.out.trans (hb.mono hzd))
                  have BS4 := Lib.hid (BS3.out.on hb)
                  have HL4 := Lib.hid (HL3.out.on hb)
                  clear hb rr
                  generalize grow (redrawn wr dq) osq = w6 at *
                  have hz6 : wo.heap.size ≤ w6.heap.size := HD4.out.size
                  by_cases g0 : p3 < 1
                  · have u0 : decide ((p3 : Int) < 1) = true := decide_eq_true (by omega)
                    have v0 : decide (p3 < 1) = true := decide_eq_true (by omega)
                    have x0 : decide (p3 = 0) = true := decide_eq_true (by omega)
                    have HBD := Lib.hid (show rbad (p1, p2, p3) 7 = true from by unfold rbad; simp only [Bool.or_eq_true, decide_eq_true_eq]; omega)
                    have HE := Lib.hid (show parseS s = (⟨0, 0, 0⟩, 2) from parse_rng h0 HQ.out (by rw [HR0.out.2, HR1.out.2, HR2.out.2]; rfl) (by
                      have hx : (rfoldB 7 Q2 0).2 = false := by rw [HFO.out, drop_consB HY.out, rfold_bad HQP.out HBD.out]
                      rw [HR2.out.1] at hx
                      unfold foldW; simp only [hx]; simp))
                    clear g0
                    have r0 : w6.cell? ⟨w.heap.size, 0, none⟩ = some (.int .u64 0) := (BRo.out.on HD4.out).cell 0
                    have s0 : w6.frozen? ⟨w.heap.size, 0, none⟩ = false := (BRo.out.on HD4.out).frozen 0
                    have r1 : w6.cell? ⟨w.heap.size, 1, none⟩ = some (.int .u64 0) := (BRo.out.on HD4.out).cell 1
                    have s1 : w6.frozen? ⟨w.heap.size, 1, none⟩ = false := (BRo.out.on HD4.out).frozen 1
                    have r2 : w6.cell? ⟨w.heap.size, 2, none⟩ = some (.int .u64 0) := (BRo.out.on HD4.out).cell 2
                    have s2 : w6.frozen? ⟨w.heap.size, 2, none⟩ = false := (BRo.out.on HD4.out).frozen 2
                    go_wp2_with fail
                    exact bodyPost_ret (v := .tuple #[.agg #[.int .u64 0, .int .u64 0, .int .u64 0], .int .i64 2]) (by simp [results, Tryd.results11, go_sem, r0, r1, r2]) rfl ⟨ret_tupC0 HE.out, below_set3' ((HB1.out.trans (HB.out.mono hz1)).trans (HD4.out.mono hzo)) (Nat.le_refl _) _ _ _⟩
                  · have u0 : decide ((p3 : Int) < 1) = false := decide_eq_false (by omega)
                    have v0 : decide (p3 < 1) = false := decide_eq_false (by omega)
                    have x0 : decide (p3 = 0) = false := decide_eq_false (by omega)
                    by_cases g1 : 7 < p3
                    · have u1 : decide ((7 : Int) < p3) = true := decide_eq_true (by omega)
                      have v1 : decide (7 < p3) = true := decide_eq_true (by omega)
                      have HBD := Lib.hid (show rbad (p1, p2, p3) 7 = true from by unfold rbad; simp only [Bool.or_eq_true, decide_eq_true_eq]; omega)
                      have HE := Lib.hid (show parseS s = (⟨0, 0, 0⟩, 2) from parse_rng h0 HQ.out (by rw [HR0.out.2, HR1.out.2, HR2.out.2]; rfl) (by
                        have hx : (rfoldB 7 Q2 0).2 = false := by rw [HFO.out, drop_consB HY.out, rfold_bad HQP.out HBD.out]
                        rw [HR2.out.1] at hx
                        unfold foldW; simp only [hx]; simp))
                      clear g0 g1
                      have r0 : w6.cell? ⟨w.heap.size, 0, none⟩ = some (.int .u64 0) := (BRo.out.on HD4.out).cell 0
                      have s0 : w6.frozen? ⟨w.heap.size, 0, none⟩ = false := (BRo.out.on HD4.out).frozen 0
                      have r1 : w6.cell? ⟨w.heap.size, 1, none⟩ = some (.int .u64 0) := (BRo.out.on HD4.out).cell 1
                      have s1 : w6.frozen? ⟨w.heap.size, 1, none⟩ = false := (BRo.out.on HD4.out).frozen 1
                      have r2 : w6.cell? ⟨w.heap.size, 2, none⟩ = some (.int .u64 0) := (BRo.out.on HD4.out).cell 2
                      have s2 : w6.frozen? ⟨w.heap.size, 2, none⟩ = false := (BRo.out.on HD4.out).frozen 2
                      go_wp2_with fail
                      refine (rSize2 _).mono ?_
                      rintro e wq ⟨rfl, hwq⟩
                      obtain rfl := hwq
                      go_wp2_with fail
                      exact bodyPost_ret (v := .tuple #[.agg #[.int .u64 0, .int .u64 0, .int .u64 0], .int .i64 2]) (by simp [results, Tryd.results11, go_sem, r0, r1, r2]) rfl ⟨ret_tupC0 HE.out, below_set3' ((HB1.out.trans (HB.out.mono hz1)).trans (HD4.out.mono hzo)) (Nat.le_refl _) _ _ _⟩
                    · have u1 : decide ((7 : Int) < p3) = false := decide_eq_false (by omega)
                      have v1 : decide (7 < p3) = false := decide_eq_false (by omega)
                      by_cases g2 : p2 < p1
                      · have u2 : decide ((p2 : Int) < p1) = true := decide_eq_true (by omega)
                        have v2 : decide (p2 < p1) = true := decide_eq_true (by omega)
                        have HBD := Lib.hid (show rbad (p1, p2, p3) 7 = true from by unfold rbad; simp only [Bool.or_eq_true, decide_eq_true_eq]; omega)
                        have HE := Lib.hid (show parseS s = (⟨0, 0, 0⟩, 2) from parse_rng h0 HQ.out (by rw [HR0.out.2, HR1.out.2, HR2.out.2]; rfl) (by
                          have hx : (rfoldB 7 Q2 0).2 = false := by rw [HFO.out, drop_consB HY.out, rfold_bad HQP.out HBD.out]
                          rw [HR2.out.1] at hx
                          unfold foldW; simp only [hx]; simp))
                        clear g0 g1 g2
                        have r0 : w6.cell? ⟨w.heap.size, 0, none⟩ = some (.int .u64 0) := (BRo.out.on HD4.out).cell 0
                        have s0 : w6.frozen? ⟨w.heap.size, 0, none⟩ = false := (BRo.out.on HD4.out).frozen 0
                        have r1 : w6.cell? ⟨w.heap.size, 1, none⟩ = some (.int .u64 0) := (BRo.out.on HD4.out).cell 1
                        have s1 : w6.frozen? ⟨w.heap.size, 1, none⟩ = false := (BRo.out.on HD4.out).frozen 1
                        have r2 : w6.cell? ⟨w.heap.size, 2, none⟩ = some (.int .u64 0) := (BRo.out.on HD4.out).cell 2
                        have s2 : w6.frozen? ⟨w.heap.size, 2, none⟩ = false := (BRo.out.on HD4.out).frozen 2
                        go_wp2_with fail
                        refine (rSize2 _).mono ?_
                        rintro e wq ⟨rfl, hwq⟩
                        obtain rfl := hwq
                        go_wp2_with fail
                        exact bodyPost_ret (v := .tuple #[.agg #[.int .u64 0, .int .u64 0, .int .u64 0], .int .i64 2]) (by simp [results, Tryd.results11, go_sem, r0, r1, r2]) rfl ⟨ret_tupC0 HE.out, below_set3' ((HB1.out.trans (HB.out.mono hz1)).trans (HD4.out.mono hzo)) (Nat.le_refl _) _ _ _⟩
                      · have u2 : decide ((p2 : Int) < p1) = false := decide_eq_false (by omega)
                        have v2 : decide (p2 < p1) = false := decide_eq_false (by omega)
                        by_cases g3 : 7 ≤ p2
                        · have u3 : decide ((7 : Int) ≤ p2) = true := decide_eq_true (by omega)
                          have v3 : decide (7 ≤ p2) = true := decide_eq_true (by omega)
                          have HBD := Lib.hid (show rbad (p1, p2, p3) 7 = true from by unfold rbad; simp only [Bool.or_eq_true, decide_eq_true_eq]; omega)
                          have HE := Lib.hid (show parseS s = (⟨0, 0, 0⟩, 2) from parse_rng h0 HQ.out (by rw [HR0.out.2, HR1.out.2, HR2.out.2]; rfl) (by
                            have hx : (rfoldB 7 Q2 0).2 = false := by rw [HFO.out, drop_consB HY.out, rfold_bad HQP.out HBD.out]
                            rw [HR2.out.1] at hx
                            unfold foldW; simp only [hx]; simp))
                          clear g0 g1 g2 g3
                          have r0 : w6.cell? ⟨w.heap.size, 0, none⟩ = some (.int .u64 0) := (BRo.out.on HD4.out).cell 0
                          have s0 : w6.frozen? ⟨w.heap.size, 0, none⟩ = false := (BRo.out.on HD4.out).frozen 0
                          have r1 : w6.cell? ⟨w.heap.size, 1, none⟩ = some (.int .u64 0) := (BRo.out.on HD4.out).cell 1
                          have s1 : w6.frozen? ⟨w.heap.size, 1, none⟩ = false := (BRo.out.on HD4.out).frozen 1
                          have r2 : w6.cell? ⟨w.heap.size, 2, none⟩ = some (.int .u64 0) := (BRo.out.on HD4.out).cell 2
                          have s2 : w6.frozen? ⟨w.heap.size, 2, none⟩ = false := (BRo.out.on HD4.out).frozen 2
                          go_wp2_with fail
                          refine (rSize2 _).mono ?_
                          rintro e wq ⟨rfl, hwq⟩
                          obtain rfl := hwq
                          go_wp2_with fail
                          refine (rSize2 _).mono ?_
                          rintro e wq ⟨rfl, hwq⟩
                          obtain rfl := hwq
                          go_wp2_with fail
                          exact bodyPost_ret (v := .tuple #[.agg #[.int .u64 0, .int .u64 0, .int .u64 0], .int .i64 2]) (by simp [results, Tryd.results11, go_sem, r0, r1, r2]) rfl ⟨ret_tupC0 HE.out, below_set3' ((HB1.out.trans (HB.out.mono hz1)).trans (HD4.out.mono hzo)) (Nat.le_refl _) _ _ _⟩
                        · have u3 : decide ((7 : Int) ≤ p2) = false := decide_eq_false (by omega)
                          have v3 : decide (7 ≤ p2) = false := decide_eq_false (by omega)
                          have HBD := Lib.hid (show rbad (p1, p2, p3) 7 = false from by unfold rbad; rw [← Bool.not_eq_true]; simp only [Bool.or_eq_true, decide_eq_true_eq]; omega)
                          have HG := Lib.hid (show rfoldB 7 Q2 0 = rfoldB 7 (Q2.drop (j + 1)) (runS p3 p2 (p2 + 1 - p1) p1 acc) from by rw [HFO.out, drop_consB HY.out, rfold_go HQP.out HBD.out])
                          go_wp2_with fail
                          refine (rSize2 _).mono ?_
                          rintro e wq ⟨rfl, hwq⟩
                          obtain rfl := hwq
                          go_wp2_with fail
                          refine (rSize2 _).mono ?_
                          rintro e wq ⟨rfl, hwq⟩
                          obtain rfl := hwq
                          go_wp2_with fail
                          go_loopw [17] (fun i wr => ∃ (n m : Nat), i = .int .i64 n ∧ m < 1152921504606846976 ∧ (n : Int) ≤ 2000000000 ∧ runS p3 p2 (p2 + 1 - p1) p1 acc = runS p3 p2 (p2 + 1 - n) n m ∧ Blk wr wo.heap.size 23 #[.int .u64 (rfoldB 60 Q0 0).1, .int .u64 (rfoldB 24 Q1 0).1, .int .u64 m] ∧ Below wo.heap.size wo wr ∧ StrL wr wr.heap.size (some ⟨b2, o2', none⟩) Q2) (fun i _ => p2 + 1 - (intOf i).toNat)
                          case atStart => exact ⟨p1, acc, rfl, HAC.out, by omega, rfl, BS4.out, HD4.out, HL4.out⟩
                          case round =>
                            obtain ⟨q, m, rfl, hm, hqb, hrun, bS, hbr, hl5⟩ := hrel
                            have HRU := Lib.hid hrun
                            have HD5 := Lib.hid hbr
                            have BS5 := Lib.hid bS
                            have HL5 := Lib.hid hl5
                            have hz5 : wo.heap.size ≤ wr.heap.size := hbr.size
                            clear hrun hbr bS hl5
                            by_cases hle : q ≤ p2
                            · have tl : decide ((q : Int) ≤ p2) = true := decide_eq_true (by omega)
                              have ul : decide (q ≤ p2) = true := decide_eq_true (by omega)
                              have HS := Lib.hid (runS_step (st := p3) (by omega) hle m)
                              have hn59 : q ≤ 59 := by omega
                              have hn0 : (0 : Int) ≤ q := by omega
                              have hn64 : (q : Int) ≤ 64 := by omega
                              obtain ⟨P, hP⟩ : ∃ P, 2 ^ q = P := ⟨_, rfl⟩
                              have hPb : P < 1152921504606846976 := by rw [← hP, show (1152921504606846976 : Nat) = 2 ^ 60 from by decide]; exact Nat.pow_lt_pow_right (by omega) (by omega)
                              have e1 : IntKind.u64.wrap ((2 : Int) ^ q) = (P : Int) := by rw [pow_u64 (by omega), hP]
                              obtain ⟨A5, hA⟩ : ∃ A, m ||| P = A := ⟨_, rfl⟩
                              have hAb : A5 < 1152921504606846976 := by rw [← hA, show (1152921504606846976 : Nat) = 2 ^ 60 from by decide] at *; exact Nat.or_lt_two_pow hm hPb
                              have e2 : bits .or .u64 (m : Int) (P : Int) = (A5 : Int) := by rw [or_u64 hm hPb, hA]
                              have e3 : IntKind.i64.wrap ((q : Int) + p3) = ((q + p3 : Nat) : Int) := by rw [IntKind.wrap_i64]; omega
                              obtain ⟨q', hq'⟩ : ∃ q', q + p3 = q' := ⟨_, rfl⟩
                              rw [hq'] at e3 HS
                              rw [hP, hA] at HS
                              have hmb : (q' : Int) ≤ 2000000000 := by omega
                              have hmn : q < q' := by omega
                              have HP := Lib.hid hAb
                              clear hP hA hq' hPb hAb hm
                              have qs : wr.cell? ⟨wo.heap.size, 2, none⟩ = some (.int .u64 m) := BS5.out.cell 2
                              have fs : wr.frozen? ⟨wo.heap.size, 2, none⟩ = false := BS5.out.frozen 2
                              go_wp2_with fail
                              go_roundw
                              case rel => exact ⟨q', A5, rfl, HP.out, hmb, by rw [HRU.out, HS.out], by simpa using BS5.out.set_ 2 (.int .u64 A5), HD5.out.setCell (p := ⟨wo.heap.size, 2, none⟩) (Nat.le_refl _) _, strl_set HL5.out (fun ad e => by have h := HFR.out ad e; omega) 2 _⟩
                              case measure => simp [intOf]; omega
                            · have tl : decide ((q : Int) ≤ p2) = false := decide_eq_false (by omega)
                              have ul : decide (q ≤ p2) = false := decide_eq_false (by omega)
                              have HN := Lib.hid (show rfoldB 7 Q2 0 = rfoldB 7 (Q2.drop (j + 1)) m from by rw [HG.out, HRU.out, runS_stop hle])
                              have HMB := Lib.hid hm
                              clear hm
                              go_wp2_with fail
                              go_roundw
                              case rel => exact ⟨j + 1, m, by omega, by go_num, HMB.out, HN.out, BS5.out, HD5.out, HL5.out⟩
                              case measure => simp [intOf]; omega
                · have hji : ¬ (j : Int) < Q2.length := by omega
                  obtain rfl : j = Q2.length := by omega
                  have HN := Lib.hid (show rfoldB 7 Q2 0 = (acc, true) from by rw [HFO.out, List.drop_length]; rfl)
                  have BS5 := Lib.hid (show Blk wr wo.heap.size 23 #[.int .u64 (rfoldB 60 Q0 0).1, .int .u64 (rfoldB 24 Q1 0).1, .int .u64 (rfoldB 7 Q2 0).1] from by rw [HN.out]; exact BS3.out)
                  go_wp2_with fail
                  go_roundw
                  case rel => exact ⟨.inr (.inr (.inr ⟨rfl, HF0.out, HF1.out, by rw [HN.out], BS5.out⟩)), HD.out⟩
                  case measure => simp [intOf]
            · have HE := Lib.hid (show parseS s = (⟨(rfoldB 60 Q0 0).1, (rfoldB 24 Q1 0).1, (rfoldB 7 Q2 0).1⟩, 0) from by
                rw [HR0.out.1] at hf0 ⊢
                rw [HR1.out.1] at hf1 ⊢
                rw [HR2.out.1] at hf2 ⊢
                exact parse_ok h0 HQ.out (by rw [HR0.out.2, HR1.out.2, HR2.out.2]; rfl) (by unfold foldW; simp only [hf0, hf1, hf2]; rfl))
              clear hf0 hf1 hf2
              obtain ⟨x0, hx0⟩ : ∃ q, (rfoldB 60 Q0 0).1 = q := ⟨_, rfl⟩
              obtain ⟨x1, hx1⟩ : ∃ q, (rfoldB 24 Q1 0).1 = q := ⟨_, rfl⟩
              obtain ⟨x2, hx2⟩ : ∃ q, (rfoldB 7 Q2 0).1 = q := ⟨_, rfl⟩
              rw [hx0, hx1, hx2] at HE bS
              clear hx0 hx1 hx2
              have qs0 : wr.cell? ⟨wo.heap.size, 0, none⟩ = some (.int .u64 x0) := bS.cell 0
              have qs1 : wr.cell? ⟨wo.heap.size, 1, none⟩ = some (.int .u64 x1) := bS.cell 1
              have qs2 : wr.cell? ⟨wo.heap.size, 2, none⟩ = some (.int .u64 x2) := bS.cell 2
              have r0 : wr.cell? ⟨w.heap.size, 0, none⟩ = some (.int .u64 0) := (BRo.out.on HC.out).cell 0
              have s0 : wr.frozen? ⟨w.heap.size, 0, none⟩ = false := (BRo.out.on HC.out).frozen 0
              have r1 : wr.cell? ⟨w.heap.size, 1, none⟩ = some (.int .u64 0) := (BRo.out.on HC.out).cell 1
              have s1 : wr.frozen? ⟨w.heap.size, 1, none⟩ = false := (BRo.out.on HC.out).frozen 1
              have r2 : wr.cell? ⟨w.heap.size, 2, none⟩ = some (.int .u64 0) := (BRo.out.on HC.out).cell 2
              have s2 : wr.frozen? ⟨w.heap.size, 2, none⟩ = false := (BRo.out.on HC.out).frozen 2
              go_wp2_with fail
              go_region_held3 (fun w' => w'.cell? ⟨wo.heap.size, 0, none⟩ = some (.int .u64 x0) ∧ w'.cell? ⟨wo.heap.size, 1, none⟩ = some (.int .u64 x1) ∧ w'.cell? ⟨wo.heap.size, 2, none⟩ = some (.int .u64 x2)) (first | assumption | exact ⟨qs0, qs1, qs2⟩ | exact set3_keep (by assumption) (by intro e; dsimp only at e; omega) (by intro e; dsimp only at e; omega) (by intro e; dsimp only at e; omega)) (first | fail)
              all_goals go_wp2_with fail
              all_goals exact bodyPost_ret (v := .tuple #[.agg #[.int .u64 x0, .int .u64 x1, .int .u64 x2], .int .i64 0]) (by simp [results, Tryd.results11, go_sem, r0, r1, r2]) rfl ⟨ret_tupC HE.out, below_set3' (((HB1.out.trans (HB.out.mono hz1)).trans (HC.out.mono hzo)).drew) (Nat.le_refl _) _ _ _⟩
    · have t3 : ((Q.length : Int) != 3) = true := by rw [bne_iff_ne]; omega
      have HD := Lib.hid (parse_cnt h0 HQ.out h3)
      have r0 : w1.cell? ⟨w.heap.size, 0, none⟩ = some (.int .u64 0) := bR.cell 0
      have r1 : w1.cell? ⟨w.heap.size, 1, none⟩ = some (.int .u64 0) := bR.cell 1
      have r2 : w1.cell? ⟨w.heap.size, 2, none⟩ = some (.int .u64 0) := bR.cell 2
      have s0 : w1.frozen? ⟨w.heap.size, 0, none⟩ = false := bR.frozen 0
      have s1 : w1.frozen? ⟨w.heap.size, 1, none⟩ = false := bR.frozen 1
      have s2 : w1.frozen? ⟨w.heap.size, 2, none⟩ = false := bR.frozen 2
      go_wp2_with fail
      exact bodyPost_ret (v := .tuple #[.agg #[.int .u64 0, .int .u64 0, .int .u64 0], .int .i64 1]) (by simp [results, Tryd.results11, go_sem, r0, r1, r2]) rfl ⟨ret_tupC0 HD.out, below_set3' HB1.out (Nat.le_refl _) _ _ _⟩
end Go.Proofs.YtnagnaekcphpiaaDoor
