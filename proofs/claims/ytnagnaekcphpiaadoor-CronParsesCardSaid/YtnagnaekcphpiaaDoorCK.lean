/- cron: the program's Parse. -/
import Derived.Test.YtnagnaekcphpiaaDoorCJ
import Derived.Lib.QuietBelow
namespace Go.Proofs.YtnagnaekcphpiaaDoor
open Go.RowKit
open Go.Sort (grow)

theorem parts_lit (s : ByteArray) (L : List Pt) (ok : Bool) (h : partsS s.data.toList = (L, ok)) (m : Int) (w : World) (hs : s.size ≤ 1048576) (hm : w.cell? ⟨0, 0, none⟩ = some (.int .i64 m)) : Calls Tryd.prog 24 #[.string s] w fun e w' => (∃ A k, e = .returned (.tuple #[.slice A L.length k, .bool ok]) ∧ PtL w' w'.heap.size A L ∧ ∀ ad, A = some ad → w.heap.size ≤ ad.block) ∧ Below w.heap.size w w' := by
  have h2 := parts_any s m w hs hm
  rw [h] at h2
  exact h2
theorem parts_len (x : ByteArray) (h : x.size ≤ 1048576) : (partsS x.data.toList).1.length ≤ 1048577 := by
  unfold partsS
  split
  · simp
  · split
    · simp
    · split
      · rw [List.length_map]
        have := pcs_len 44 x
        unfold pcs at this
        rw [List.length_map] at this
        show (cutL 44 x.data.toList).length ≤ _
        omega
      · simp
theorem three_of {α : Type} {L : List α} (h : L.length = 3) : ∃ a b c, L = [a, b, c] := by
  match L, h with
  | [a, b, c], _ => exact ⟨a, b, c, rfl⟩
def tupC (x : Cr × Int) : Value := .tuple #[.agg #[.int .u64 x.1.mi, .int .u64 x.1.ho, .int .u64 x.1.da], .int .i64 x.2]
theorem ret_tupC0 {x : Cr × Int} {n : Int} (h : x = (⟨0, 0, 0⟩, n)) : Ending.returned (.tuple #[.agg #[.int .u64 0, .int .u64 0, .int .u64 0], .int .i64 n]) = .returned (tupC x) := by subst h; rfl
theorem ret_tupC {x : Cr × Int} {a b c : Nat} {n : Int} (h : x = (⟨a, b, c⟩, n)) : Ending.returned (.tuple #[.agg #[.int .u64 a, .int .u64 b, .int .u64 c], .int .i64 n]) = .returned (tupC x) := by subst h; rfl
/-- A list of parts in front of the block G of the lists. -/
def ListAt (w : World) (G : Nat) (v : Value) (L : List Pt) : Prop := ∃ A k, v = .slice A L.length k ∧ PtL w w.heap.size A L ∧ ∀ ad, A = some ad → G < ad.block
theorem ListAt.on {w w' : World} {G : Nat} {v : Value} {L : List Pt} (h : ListAt w G v L) (hb : Below w.heap.size w w') : ListAt w' G v L := by
  obtain ⟨A, k, e, hp, hf⟩ := h
  exact ⟨A, k, e, hp.on hb, hf⟩
theorem ListAt.set {w : World} {G : Nat} {v : Value} {L : List Pt} (h : ListAt w G v L) (i : Nat) (u : Value) : ListAt (w.setCell ⟨G, i, none⟩ u) G v L := by
  obtain ⟨A, k, e, hp, hf⟩ := h
  refine ⟨A, k, e, ?_, hf⟩
  have : PtL (w.setCell ⟨G, i, none⟩ u) w.heap.size A L := Reads.set hp (p := ⟨G, i, none⟩) (fun ad ha e => by have h1 := hf ad ha; rw [e] at h1; exact Nat.lt_irrefl _ h1) u
  exact this.more (by simp)
theorem sizes_at (W : World) (d : Nat) (os : Array Obj) : Calls Tryd.prog 26 #[] (grow (redrawn W d) os) fun e w' => e = .returned (.agg #[.int .i64 60, .int .i64 24, .int .i64 7]) ∧ ∃ p : Regrown, w' = grow (redrawn W p.d) p.os := Calls.regrown_of (sizes_any _)
theorem set_at (p : Pt) (size : Nat) (x : Nat) (b : Bool) (h : setS p size = (x, b)) (hs1 : 1 ≤ size) (hs2 : size ≤ 60) (hb : (p.lo ≤ 1000000000 ∧ p.hi ≤ 1000000000 ∧ p.st ≤ 1000000000) ∧ (p.sp = false → p.st = 1)) (W : World) (d : Nat) (os : Array Obj) :
    Calls Tryd.prog 25 #[.agg #[.int .i64 p.lo, .int .i64 p.hi, .int .i64 p.st, .bool p.sp], .int .i64 size] (grow (redrawn W d) os) fun e w' => e = .returned (.tuple #[.int .u64 x, .bool b]) ∧ ∃ p : Regrown, w' = grow (redrawn W p.d) p.os := by
  have h2 := set_any p.lo p.hi p.st p.sp size hs1 hs2 hb.1 hb.2 (grow (redrawn W d) os)
  rw [show (⟨p.lo, p.hi, p.st, p.sp⟩ : Pt) = p from rfl, h] at h2
  exact Calls.regrown_of h2
theorem set_at60 (p : Pt) (x : Nat) (b : Bool) (h : setS p 60 = (x, b)) (hb : (p.lo ≤ 1000000000 ∧ p.hi ≤ 1000000000 ∧ p.st ≤ 1000000000) ∧ (p.sp = false → p.st = 1)) (W : World) (d : Nat) (os : Array Obj) :
    Calls Tryd.prog 25 #[.agg #[.int .i64 p.lo, .int .i64 p.hi, .int .i64 p.st, .bool p.sp], .int .i64 60] (grow (redrawn W d) os) fun e w' => e = .returned (.tuple #[.int .u64 x, .bool b]) ∧ ∃ p : Regrown, w' = grow (redrawn W p.d) p.os := set_at p 60 x b h (by omega) (by omega) hb W d os
theorem set_at24 (p : Pt) (x : Nat) (b : Bool) (h : setS p 24 = (x, b)) (hb : (p.lo ≤ 1000000000 ∧ p.hi ≤ 1000000000 ∧ p.st ≤ 1000000000) ∧ (p.sp = false → p.st = 1)) (W : World) (d : Nat) (os : Array Obj) :
    Calls Tryd.prog 25 #[.agg #[.int .i64 p.lo, .int .i64 p.hi, .int .i64 p.st, .bool p.sp], .int .i64 24] (grow (redrawn W d) os) fun e w' => e = .returned (.tuple #[.int .u64 x, .bool b]) ∧ ∃ p : Regrown, w' = grow (redrawn W p.d) p.os := set_at p 24 x b h (by omega) (by omega) hb W d os
theorem set_at7 (p : Pt) (x : Nat) (b : Bool) (h : setS p 7 = (x, b)) (hb : (p.lo ≤ 1000000000 ∧ p.hi ≤ 1000000000 ∧ p.st ≤ 1000000000) ∧ (p.sp = false → p.st = 1)) (W : World) (d : Nat) (os : Array Obj) :
    Calls Tryd.prog 25 #[.agg #[.int .i64 p.lo, .int .i64 p.hi, .int .i64 p.st, .bool p.sp], .int .i64 7] (grow (redrawn W d) os) fun e w' => e = .returned (.tuple #[.int .u64 x, .bool b]) ∧ ∃ p : Regrown, w' = grow (redrawn W p.d) p.os := set_at p 7 x b h (by omega) (by omega) hb W d os
theorem foldS_fail {size : Nat} {p : Pt} {r : List Pt} {acc : Nat} (h : (setS p size).2 = false) : foldS size (p :: r) acc = (0, false) := by rw [foldS, if_neg (by rw [h]; exact Bool.false_ne_true)]
theorem foldS_go {size : Nat} {p : Pt} {r : List Pt} {acc : Nat} (h : (setS p size).2 = true) : foldS size (p :: r) acc = foldS size r (acc ||| (setS p size).1) := by rw [foldS, if_pos h]
theorem drop_cons {l : List Pt} {k : Nat} {p : Pt} (h : l[k]? = some p) : l.drop k = p :: l.drop (k + 1) := by
  have hlt : k < l.length := (List.getElem?_eq_some_iff.1 h).1
  rw [List.drop_eq_getElem_cons hlt, (List.getElem?_eq_some_iff.1 h).2]
theorem setS60 {p : Pt} {size : Nat} (hs : size ≤ 60) {x : Nat} {b : Bool} (h : setS p size = (x, b)) : x < 1152921504606846976 := by
  have h1 := setS_lt p (size := size)
  rw [h] at h1
  exact Nat.lt_of_lt_of_le h1 (by rw [show (1152921504606846976 : Nat) = 2 ^ 60 from by decide]; exact Nat.pow_le_pow_right (by omega) hs)
theorem Blk.set3' {w : World} {g : Nat} {t : TypeId} {a b c : Value} (h : Blk w g t #[a, b, c]) (x y z : Value) : Blk (((w.setCell ⟨g, 0, none⟩ x).setCell ⟨g, 1, none⟩ y).setCell ⟨g, 2, none⟩ z) g t #[x, y, z] := by
  simpa using ((h.set_ 0 x).set_ 1 y).set_ 2 z
attribute [local go_sem] run_u3_0
attribute [local go_sem] run_u3_1
attribute [local go_sem] run_u3_2
attribute [local go_sem] run_i3_0
attribute [local go_sem] run_i3_1
attribute [local go_sem] run_i3_2
theorem run_l3_0 (A0 A1 A2 : Option Addr) (n0 n1 n2 k0 k1 k2 : Nat) (w : World) : (Instr.index 46 (.agg #[.slice A0 n0 k0, .slice A1 n1 k1, .slice A2 n2 k2]) (.int .i64 0)).run Tryd.prog w = .ok (.slice A0 n0 k0) w := by
  simp [Instr.index, asIntOf, run_underlying Tryd.underlying46, part, Tryd.sizeOf45, Tryd.isAgg45, go_sem]
attribute [local go_sem] run_l3_0
theorem run_l3_1 (A0 A1 A2 : Option Addr) (n0 n1 n2 k0 k1 k2 : Nat) (w : World) : (Instr.index 46 (.agg #[.slice A0 n0 k0, .slice A1 n1 k1, .slice A2 n2 k2]) (.int .i64 1)).run Tryd.prog w = .ok (.slice A1 n1 k1) w := by
  simp [Instr.index, asIntOf, run_underlying Tryd.underlying46, part, Tryd.sizeOf45, Tryd.isAgg45, go_sem]
attribute [local go_sem] run_l3_1
theorem run_l3_2 (A0 A1 A2 : Option Addr) (n0 n1 n2 k0 k1 k2 : Nat) (w : World) : (Instr.index 46 (.agg #[.slice A0 n0 k0, .slice A1 n1 k1, .slice A2 n2 k2]) (.int .i64 2)).run Tryd.prog w = .ok (.slice A2 n2 k2) w := by
  simp [Instr.index, asIntOf, run_underlying Tryd.underlying46, part, Tryd.sizeOf45, Tryd.isAgg45, go_sem]
attribute [local go_sem] run_l3_2
set_option maxHeartbeats 8000000 in
set_option maxRecDepth 20000 in
theorem Parse_any (s : ByteArray) (m : Int) (w : World) (hs : s.size ≤ 9223372036854775807) (hm : w.cell? ⟨0, 0, none⟩ = some (.int .i64 m)) : Calls Tryd.prog 10 #[.string s] w fun e w' => e = .returned (tupC (parseS s)) ∧ Below w.heap.size w w' := by
  have HM := Lib.hid hm
  have hw0 := block_lt_of_cell hm
  clear hm
  go_enter Tryd.func10, Tryd.ntmps10
  by_cases h0 : 4000 < s.size
  · have t0 : decide ((4000 : Int) < s.size) = true := decide_eq_true (by omega)
    have HD := Lib.hid (parse_long h0)
    clear h0
    go_wp2_with fail
    exact bodyPost_ret (v := .tuple #[.agg #[.int .u64 0, .int .u64 0, .int .u64 0], .int .i64 3]) (by simp [results, Tryd.results10, go_sem]) rfl ⟨ret_tupC0 HD.out, size_new' _ _⟩
  · have t0 : decide ((4000 : Int) < s.size) = false := decide_eq_false (by omega)
    go_wp2_with fail
    refine (ssplit_any 32 s m _ (by omega) ((((Below.refl w.heap.size w).alloc (by first | exact Nat.le_refl _ | omega | (simp; done) | (simp; omega)) _).cell (p := ⟨0, 0, none⟩) hw0).trans HM.out)).mono ?_
    rintro e w1 ⟨⟨A, cap, rfl, hl⟩, hb⟩
    have bR : Blk w1 (w.heap.size) 25 #[.int .u64 0, .int .u64 0, .int .u64 0] := (Blk.new _ _ _).on hb
    have hbz := hb.size
    have HB1 := Lib.hid (((Below.refl w.heap.size w).alloc (by first | exact Nat.le_refl _ | omega | (simp; done) | (simp; omega)) _).trans (hb.mono (by first | exact Nat.le_refl _ | omega | (simp; done) | (simp; omega))))
    have hz1 : w.heap.size ≤ w1.heap.size := HB1.out.size
    clear hb hbz
    obtain ⟨Q, hQ⟩ : ∃ Q, pcs 32 s = Q := ⟨_, rfl⟩
    have HSZ := Lib.hid (show ∀ x ∈ Q, x.size ≤ 1048576 from fun x hx => by rw [← hQ] at hx; have := pcs_size hx; omega)
    rw [hQ] at hl ⊢
    have HQ := Lib.hid hQ
    clear hQ
    by_cases h3 : Q.length = 3
    · obtain ⟨a, b, c, rfl⟩ := three_of h3
      have HL := Lib.hid hl
      have BR := Lib.hid bR
      have LQ := Lib.hid (show ∀ x ∈ [a, b, c], (partsS x.data.toList).1.length ≤ 1048577 from fun x hx => parts_len x (HSZ.out x hx))
      have za := HSZ.out a (by simp)
      have zb := HSZ.out b (by simp)
      have zc := HSZ.out c (by simp)
      clear hl h3
      simp only [List.length_cons, List.length_nil, Nat.zero_add, Nat.reduceAdd]
      obtain ⟨⟨L0, o0⟩, hp0⟩ : ∃ q, partsS a.data.toList = q := ⟨_, rfl⟩
      obtain ⟨⟨L1, o1⟩, hp1⟩ : ∃ q, partsS b.data.toList = q := ⟨_, rfl⟩
      obtain ⟨⟨L2, o2⟩, hp2⟩ : ∃ q, partsS c.data.toList = q := ⟨_, rfl⟩
      have HP0 := Lib.hid hp0
      have HP1 := Lib.hid hp1
      have HP2 := Lib.hid hp2
      clear hp0 hp1 hp2
      go_wp2_with fail
      have bR : Blk ((w1).alloc (.cells #[.slice none 0 0, .slice none 0 0, .slice none 0 0] 46)) (w.heap.size) 25 #[.int .u64 0, .int .u64 0, .int .u64 0] := (bR).alloc _
      have bL : Blk ((w1).alloc (.cells #[.slice none 0 0, .slice none 0 0, .slice none 0 0] 46)) (w1.heap.size) 46 #[.slice none 0 0, .slice none 0 0, .slice none 0 0] := Blk.new _ _ _
      have HB2 := Lib.hid (show Below w.heap.size w ((w1).alloc (.cells #[.slice none 0 0, .slice none 0 0, .slice none 0 0] 46)) from (HB1.out).alloc (by first | exact Nat.le_refl _ | omega | (simp; done) | (simp; omega)) _)
      have HBO := Lib.hid (size_new' w1 (.cells #[.slice none 0 0, .slice none 0 0, .slice none 0 0] 46))
      generalize (w1).alloc (.cells #[.slice none 0 0, .slice none 0 0, .slice none 0 0] 46) = w2 at *
      have hz2 : w.heap.size ≤ w2.heap.size := HB2.out.size
      go_loopw [29] (fun i wr => ((i = .int .i64 0 ∧ Blk wr w1.heap.size 46 #[.slice none 0 0, .slice none 0 0, .slice none 0 0]) ∨ (∃ v0 : Value, i = .int .i64 1 ∧ ListAt wr w1.heap.size v0 L0 ∧ o0 = true ∧ Blk wr w1.heap.size 46 #[v0, .slice none 0 0, .slice none 0 0]) ∨ (∃ v0 v1 : Value, i = .int .i64 2 ∧ ListAt wr w1.heap.size v0 L0 ∧ o0 = true ∧ ListAt wr w1.heap.size v1 L1 ∧ o1 = true ∧ Blk wr w1.heap.size 46 #[v0, v1, .slice none 0 0]) ∨ (∃ v0 v1 v2 : Value, i = .int .i64 3 ∧ ListAt wr w1.heap.size v0 L0 ∧ o0 = true ∧ ListAt wr w1.heap.size v1 L1 ∧ o1 = true ∧ ListAt wr w1.heap.size v2 L2 ∧ o2 = true ∧ Blk wr w1.heap.size 46 #[v0, v1, v2])) ∧ Below w1.heap.size w1 wr) (fun i _ => 3 - (intOf i).toNat)
      case atStart => exact ⟨.inl ⟨rfl, bL⟩, HBO.out⟩
      case round =>
        obtain ⟨hc, hbr⟩ := hrel
        have HB := Lib.hid hbr
        have hzr : w1.heap.size ≤ wr.heap.size := hbr.size
        have hz1' := hz1
        have bR := BR.out.on hbr
        clear hbr
        rcases hc with ⟨rfl, bL⟩ | ⟨v0, rfl, hl0, ho0, bL⟩ | ⟨v0, v1, rfl, hl0, ho0, hl1, ho1, bL⟩ | ⟨v0, v1, v2, rfl, hl0, ho0, hl1, ho1, hl2, ho2, bL⟩
        · skip
          obtain ⟨bb, oo, rfl, -, c0⟩ := (HL.out.on HB.out).cell (k := 0) rfl
          have c0 : wr.cell? ⟨bb, oo, none⟩ = some (.string a) := c0
          have BL := Lib.hid bL
          have BR2 := Lib.hid bR
          clear bL bR
          go_wp2_with fail
          refine (parts_lit a L0 o0 HP0.out m _ za (((HB1.out.trans (HB.out.mono hz1)).cell (p := ⟨0, 0, none⟩) hw0).trans HM.out)).mono ?_
          rintro e w2 ⟨⟨A0, k0, rfl, hp, hfr⟩, hb⟩
          have HN := Lib.hid (show ListAt w2 w1.heap.size (.slice A0 L0.length k0) L0 from ⟨A0, k0, rfl, hp, fun ad e => Nat.lt_of_lt_of_le BL.out.lt (hfr ad e)⟩)
          have HB2 := Lib.hid (HB.out.trans (hb.mono hzr))
          have bL := BL.out.on hb
          have bR := BR2.out.on hb
          clear hp hfr hb c0
          cases hok : o0
          · have HD := Lib.hid (parse_syn (s := s) h0 HQ.out (by rw [HP0.out, HP1.out, HP2.out]; dsimp only; rw [hok]; simp))
            have r0 : w2.cell? ⟨w.heap.size, 0, none⟩ = some (.int .u64 0) := bR.cell 0
            have s0 : w2.frozen? ⟨w.heap.size, 0, none⟩ = false := bR.frozen 0
            have r1 : w2.cell? ⟨w.heap.size, 1, none⟩ = some (.int .u64 0) := bR.cell 1
            have s1 : w2.frozen? ⟨w.heap.size, 1, none⟩ = false := bR.frozen 1
            have r2 : w2.cell? ⟨w.heap.size, 2, none⟩ = some (.int .u64 0) := bR.cell 2
            have s2 : w2.frozen? ⟨w.heap.size, 2, none⟩ = false := bR.frozen 2
            go_wp2_with fail
            exact bodyPost_ret (v := .tuple #[.agg #[.int .u64 0, .int .u64 0, .int .u64 0], .int .i64 1]) (by simp [results, Tryd.results10, go_sem, r0, r1, r2]) rfl ⟨ret_tupC0 HD.out, below_set3' (HB1.out.trans (HB2.out.mono hz1)) (Nat.le_refl _) _ _ _⟩
          · have s0 : w2.frozen? ⟨w1.heap.size, 0, none⟩ = false := bL.frozen 0
            have q0 : w2.cell? ⟨w1.heap.size, 0, none⟩ = some (.slice none 0 0) := bL.cell 0
            have HOK := Lib.hid hok
            clear hok
            go_wp2_with fail
            go_roundw
            case rel => exact ⟨.inr (.inl ⟨_, rfl, HN.out.set 0 _, HOK.out, by simpa using bL.set_ 0 (.slice A0 L0.length k0)⟩), HB2.out.setCell (p := ⟨w1.heap.size, 0, none⟩) (Nat.le_refl _) _⟩
            case measure => simp [intOf]
        · have HL0 := Lib.hid hl0
          have HO0 := Lib.hid ho0
          clear hl0 ho0
          obtain ⟨bb, oo, rfl, -, c0⟩ := (HL.out.on HB.out).cell (k := 1) rfl
          have c0 : wr.cell? ⟨bb, oo + 1, none⟩ = some (.string b) := c0
          have BL := Lib.hid bL
          have BR2 := Lib.hid bR
          clear bL bR
          go_wp2_with fail
          refine (parts_lit b L1 o1 HP1.out m _ zb (((HB1.out.trans (HB.out.mono hz1)).cell (p := ⟨0, 0, none⟩) hw0).trans HM.out)).mono ?_
          rintro e w2 ⟨⟨A1, k1, rfl, hp, hfr⟩, hb⟩
          have HN := Lib.hid (show ListAt w2 w1.heap.size (.slice A1 L1.length k1) L1 from ⟨A1, k1, rfl, hp, fun ad e => Nat.lt_of_lt_of_le BL.out.lt (hfr ad e)⟩)
          have HB2 := Lib.hid (HB.out.trans (hb.mono hzr))
          have bL := BL.out.on hb
          have bR := BR2.out.on hb
          have HK0 := Lib.hid (HL0.out.on hb)
          clear hp hfr hb c0
          cases hok : o1
          · have HD := Lib.hid (parse_syn (s := s) h0 HQ.out (by rw [HP0.out, HP1.out, HP2.out]; dsimp only; rw [hok]; simp))
            have r0 : w2.cell? ⟨w.heap.size, 0, none⟩ = some (.int .u64 0) := bR.cell 0
            have s0 : w2.frozen? ⟨w.heap.size, 0, none⟩ = false := bR.frozen 0
            have r1 : w2.cell? ⟨w.heap.size, 1, none⟩ = some (.int .u64 0) := bR.cell 1
            have s1 : w2.frozen? ⟨w.heap.size, 1, none⟩ = false := bR.frozen 1
            have r2 : w2.cell? ⟨w.heap.size, 2, none⟩ = some (.int .u64 0) := bR.cell 2
            have s2 : w2.frozen? ⟨w.heap.size, 2, none⟩ = false := bR.frozen 2
            go_wp2_with fail
            exact bodyPost_ret (v := .tuple #[.agg #[.int .u64 0, .int .u64 0, .int .u64 0], .int .i64 1]) (by simp [results, Tryd.results10, go_sem, r0, r1, r2]) rfl ⟨ret_tupC0 HD.out, below_set3' (HB1.out.trans (HB2.out.mono hz1)) (Nat.le_refl _) _ _ _⟩
          · have s1 : w2.frozen? ⟨w1.heap.size, 1, none⟩ = false := bL.frozen 1
            have q1 : w2.cell? ⟨w1.heap.size, 1, none⟩ = some (.slice none 0 0) := bL.cell 1
            have HOK := Lib.hid hok
            clear hok
            go_wp2_with fail
            go_roundw
            case rel => exact ⟨.inr (.inr (.inl ⟨v0, _, rfl, HK0.out.set 1 _, HO0.out, HN.out.set 1 _, HOK.out, by simpa using bL.set_ 1 (.slice A1 L1.length k1)⟩)), HB2.out.setCell (p := ⟨w1.heap.size, 1, none⟩) (Nat.le_refl _) _⟩
            case measure => simp [intOf]
        · have HL0 := Lib.hid hl0
          have HL1 := Lib.hid hl1
          have HO0 := Lib.hid ho0
          have HO1 := Lib.hid ho1
          clear hl0 ho0 hl1 ho1
          obtain ⟨bb, oo, rfl, -, c0⟩ := (HL.out.on HB.out).cell (k := 2) rfl
          have c0 : wr.cell? ⟨bb, oo + 2, none⟩ = some (.string c) := c0
          have BL := Lib.hid bL
          have BR2 := Lib.hid bR
          clear bL bR
          go_wp2_with fail
          refine (parts_lit c L2 o2 HP2.out m _ zc (((HB1.out.trans (HB.out.mono hz1)).cell (p := ⟨0, 0, none⟩) hw0).trans HM.out)).mono ?_
          rintro e w2 ⟨⟨A2, k2, rfl, hp, hfr⟩, hb⟩
          have HN := Lib.hid (show ListAt w2 w1.heap.size (.slice A2 L2.length k2) L2 from ⟨A2, k2, rfl, hp, fun ad e => Nat.lt_of_lt_of_le BL.out.lt (hfr ad e)⟩)
          have HB2 := Lib.hid (HB.out.trans (hb.mono hzr))
          have bL := BL.out.on hb
          have bR := BR2.out.on hb
          have HK0 := Lib.hid (HL0.out.on hb)
          have HK1 := Lib.hid (HL1.out.on hb)
          clear hp hfr hb c0
          cases hok : o2
          · have HD := Lib.hid (parse_syn (s := s) h0 HQ.out (by rw [HP0.out, HP1.out, HP2.out]; dsimp only; rw [hok]; simp))
            have r0 : w2.cell? ⟨w.heap.size, 0, none⟩ = some (.int .u64 0) := bR.cell 0
            have s0 : w2.frozen? ⟨w.heap.size, 0, none⟩ = false := bR.frozen 0
            have r1 : w2.cell? ⟨w.heap.size, 1, none⟩ = some (.int .u64 0) := bR.cell 1
            have s1 : w2.frozen? ⟨w.heap.size, 1, none⟩ = false := bR.frozen 1
            have r2 : w2.cell? ⟨w.heap.size, 2, none⟩ = some (.int .u64 0) := bR.cell 2
            have s2 : w2.frozen? ⟨w.heap.size, 2, none⟩ = false := bR.frozen 2
            go_wp2_with fail
            exact bodyPost_ret (v := .tuple #[.agg #[.int .u64 0, .int .u64 0, .int .u64 0], .int .i64 1]) (by simp [results, Tryd.results10, go_sem, r0, r1, r2]) rfl ⟨ret_tupC0 HD.out, below_set3' (HB1.out.trans (HB2.out.mono hz1)) (Nat.le_refl _) _ _ _⟩
          · have s2 : w2.frozen? ⟨w1.heap.size, 2, none⟩ = false := bL.frozen 2
            have q2 : w2.cell? ⟨w1.heap.size, 2, none⟩ = some (.slice none 0 0) := bL.cell 2
            have HOK := Lib.hid hok
            clear hok
            go_wp2_with fail
            go_roundw
            case rel => exact ⟨.inr (.inr (.inr ⟨v0, v1, _, rfl, HK0.out.set 2 _, HO0.out, HK1.out.set 2 _, HO1.out, HN.out.set 2 _, HOK.out, by simpa using bL.set_ 2 (.slice A2 L2.length k2)⟩)), HB2.out.setCell (p := ⟨w1.heap.size, 2, none⟩) (Nat.le_refl _) _⟩
            case measure => simp [intOf]
        · obtain ⟨A0, k0, rfl, hp0, -⟩ := hl0
          obtain ⟨A1, k1, rfl, hp1, -⟩ := hl1
          obtain ⟨A2, k2, rfl, hp2, -⟩ := hl2
          have HO0 := Lib.hid ho0
          have HO1 := Lib.hid ho1
          have HO2 := Lib.hid ho2
          clear ho0 ho1 ho2
          have q0 : wr.cell? ⟨w1.heap.size, 0, none⟩ = some (.slice A0 L0.length k0) := bL.cell 0
          have q1 : wr.cell? ⟨w1.heap.size, 1, none⟩ = some (.slice A1 L1.length k1) := bL.cell 1
          have q2 : wr.cell? ⟨w1.heap.size, 2, none⟩ = some (.slice A2 L2.length k2) := bL.cell 2
          have qa0 : (wr.alloc (.cells #[.int .u64 0, .int .u64 0, .int .u64 0] 49)).cell? ⟨w1.heap.size, 0, none⟩ = some (.slice A0 L0.length k0) := (bL.alloc _).cell 0
          have qa1 : (wr.alloc (.cells #[.int .u64 0, .int .u64 0, .int .u64 0] 49)).cell? ⟨w1.heap.size, 1, none⟩ = some (.slice A1 L1.length k1) := (bL.alloc _).cell 1
          have qa2 : (wr.alloc (.cells #[.int .u64 0, .int .u64 0, .int .u64 0] 49)).cell? ⟨w1.heap.size, 2, none⟩ = some (.slice A2 L2.length k2) := (bL.alloc _).cell 2
          obtain ⟨wo, rfl⟩ : ∃ wo : World, wo = wr := ⟨_, rfl⟩
          have HQ0 := Lib.hid (show PtL wo wo.heap.size A0 L0 from hp0)
          have HQ1 := Lib.hid (show PtL wo wo.heap.size A1 L1 from hp1)
          have HQ2 := Lib.hid (show PtL wo wo.heap.size A2 L2 from hp2)
          have BRo := Lib.hid bR
          have BS := Lib.hid (Blk.new wo 49 #[.int .u64 0, .int .u64 0, .int .u64 0])
          have HBS := Lib.hid (size_new' wo (.cells #[.int .u64 0, .int .u64 0, .int .u64 0] 49))
          have hzo : w.heap.size ≤ wo.heap.size := by omega
          have hRo : w.heap.size < wo.heap.size := bR.lt
          clear hp0 hp1 hp2 bL bR
          go_wp2_with fail
          go_loopw [47] (fun i wr => ((i = .int .i64 0 ∧ Blk wr wo.heap.size 49 #[.int .u64 0, .int .u64 0, .int .u64 0]) ∨ (i = .int .i64 1 ∧ (foldS 60 L0 0).2 = true ∧ Blk wr wo.heap.size 49 #[.int .u64 (foldS 60 L0 0).1, .int .u64 0, .int .u64 0]) ∨ (i = .int .i64 2 ∧ (foldS 60 L0 0).2 = true ∧ (foldS 24 L1 0).2 = true ∧ Blk wr wo.heap.size 49 #[.int .u64 (foldS 60 L0 0).1, .int .u64 (foldS 24 L1 0).1, .int .u64 0]) ∨ (i = .int .i64 3 ∧ (foldS 60 L0 0).2 = true ∧ (foldS 24 L1 0).2 = true ∧ (foldS 7 L2 0).2 = true ∧ Blk wr wo.heap.size 49 #[.int .u64 (foldS 60 L0 0).1, .int .u64 (foldS 24 L1 0).1, .int .u64 (foldS 7 L2 0).1])) ∧ Below wo.heap.size wo wr) (fun i _ => 3 - (intOf i).toNat)
          case atStart => exact ⟨.inl ⟨rfl, BS.out⟩, HBS.out⟩
          case round =>
            obtain ⟨hc, hbr⟩ := hrel
            have HC := Lib.hid hbr
            have hzc : wo.heap.size ≤ wr.heap.size := hbr.size
            clear hbr
            rcases hc with ⟨rfl, bS⟩ | ⟨rfl, hf0, bS⟩ | ⟨rfl, hf0, hf1, bS⟩ | ⟨rfl, hf0, hf1, hf2, bS⟩
            · skip
              have BS1 := Lib.hid bS
              clear bS
              obtain ⟨wp, rfl⟩ : ∃ wp : World, wp = wr := ⟨_, rfl⟩
              go_wp2_with fail
              go_loopw [53] (fun i wr => ∃ (j acc : Nat), j ≤ L0.length ∧ i = .int .i64 j ∧ acc < 1152921504606846976 ∧ foldS 60 L0 0 = foldS 60 (L0.drop j) acc ∧ Blk wr wo.heap.size 49 #[.int .u64 acc, .int .u64 0, .int .u64 0] ∧ Below wo.heap.size wo wr) (fun i _ => L0.length - (intOf i).toNat)
              case atStart => exact ⟨0, 0, Nat.zero_le _, rfl, by omega, rfl, BS1.out, HC.out⟩
              case round =>
                obtain ⟨j, acc, hj, rfl, hacc, hfo, bS, hbr⟩ := hrel
                have HFO := Lib.hid hfo
                have HD := Lib.hid hbr
                have hzd : wo.heap.size ≤ wr.heap.size := hbr.size
                have BS2 := Lib.hid bS
                clear hfo hbr bS
                by_cases hlt : j < L0.length
                · obtain ⟨p, hp⟩ : ∃ p, L0[j]? = some p := ⟨_, List.getElem?_eq_getElem hlt⟩
                  obtain ⟨bb, oo, rfl, -, c0, c1, c2, c3⟩ := (HQ0.out.on HD.out).elem hp
                  have HPJ := Lib.hid hp
                  have HBD := Lib.hid (parts_bound (w := a.data.toList) (p := p) (by rw [HP0.out]; exact List.mem_of_getElem? hp))
                  have hji : (j : Int) < L0.length := by omega
                  have hj0 : (0 : Int) ≤ j := by omega
                  have hjb : (j : Int) ≤ 9000000000000000000 := by have h := LQ.out a (by simp); rw [HP0.out] at h; dsimp only at h; omega
                  clear hp
                  have bP := Blk.new wr 51 #[.int .i64 p.lo, .int .i64 p.hi, .int .i64 p.st, .bool p.sp]
                  have BS3 := Lib.hid (BS2.out.alloc (.cells #[.int .i64 p.lo, .int .i64 p.hi, .int .i64 p.st, .bool p.sp] 51))
                  have HD3 := Lib.hid (HD.out.alloc hzd (.cells #[.int .i64 p.lo, .int .i64 p.hi, .int .i64 p.st, .bool p.sp] 51))
                  have BP := Lib.hid bP
                  clear bP
                  obtain ⟨⟨x, ok⟩, hset⟩ : ∃ q, setS p 60 = q := ⟨_, rfl⟩
                  have HSE := Lib.hid hset
                  clear hset
                  go_wp2_with fail
                  generalize hGP : wr.heap.size = GP at *
                  generalize wr.alloc (.cells #[.int .i64 p.lo, .int .i64 p.hi, .int .i64 p.st, .bool p.sp] 51) = w5 at *
                  clear c0 c1 c2 c3
                  have rr0 := fun d os => cell_regrown (v := .int .i64 p.lo) (BP.out.cell 0) d os
                  have rr1 := fun d os => cell_regrown (v := .int .i64 p.hi) (BP.out.cell 1) d os
                  have rr2 := fun d os => cell_regrown (v := .int .i64 p.st) (BP.out.cell 2) d os
                  have rr3 := fun d os => cell_regrown (v := .bool p.sp) (BP.out.cell 3) d os
                  refine wp_region_quiet_below (by kernel_rfl) (by kernel_rfl) ?_
                  repeat (go_big_quiet_step ((first | (go_at_call 26; exact sizes_at _ _ _) | (go_at_call 25; exact set_at60 p x ok HSE.out HBD.out _ _ _))))
                  refine wpQuiet_nil ?_
                  intro _ hw'
                  obtain ⟨⟨dq, osq⟩, hw''⟩ := hw'
                  subst hw''
                  have hb := below_regrown w5 dq osq
                  have HD4 := Lib.hid (HD3.out.trans (hb.mono HD3.out.size))
                  have BS4 := Lib.hid (BS3.out.on hb)
                  clear hb rr0 rr1 rr2 rr3
                  generalize grow (redrawn w5 dq) osq = w6 at *
                  have hz6 : wo.heap.size ≤ w6.heap.size := HD4.out.size
                  cases ok
                  · have HE := Lib.hid (show parseS s = (⟨0, 0, 0⟩, 2) from parse_rng h0 HQ.out (by rw [HP0.out, HP1.out, HP2.out]; simp only [HO0.out, HO1.out, HO2.out]; rfl) (by
                      have hx : (foldS 60 L0 0).2 = false := by rw [HFO.out, drop_cons HPJ.out, foldS_fail (by rw [HSE.out])]
                      unfold foldW; rw [HP0.out, HP1.out, HP2.out]; simp only [hx]; simp))
                    have bR := BRo.out.on HD4.out
                    have r0 : w6.cell? ⟨w.heap.size, 0, none⟩ = some (.int .u64 0) := bR.cell 0
                    have s0 : w6.frozen? ⟨w.heap.size, 0, none⟩ = false := bR.frozen 0
                    have r1 : w6.cell? ⟨w.heap.size, 1, none⟩ = some (.int .u64 0) := bR.cell 1
                    have s1 : w6.frozen? ⟨w.heap.size, 1, none⟩ = false := bR.frozen 1
                    have r2 : w6.cell? ⟨w.heap.size, 2, none⟩ = some (.int .u64 0) := bR.cell 2
                    have s2 : w6.frozen? ⟨w.heap.size, 2, none⟩ = false := bR.frozen 2
                    go_wp2_with fail
                    exact bodyPost_ret (v := .tuple #[.agg #[.int .u64 0, .int .u64 0, .int .u64 0], .int .i64 2]) (by simp [results, Tryd.results10, go_sem, r0, r1, r2]) rfl ⟨ret_tupC0 HE.out, below_set3' ((HB1.out.trans (HB.out.mono hz1)).trans (HD4.out.mono hzo)) (Nat.le_refl _) _ _ _⟩
                  · have hxb := setS60 (by omega) HSE.out
                    obtain ⟨acc', hA⟩ : ∃ q, acc ||| x = q := ⟨_, rfl⟩
                    have hA2 : acc' < 1152921504606846976 := by rw [← hA, show (1152921504606846976 : Nat) = 2 ^ 60 from by decide] at *; exact Nat.or_lt_two_pow hacc hxb
                    have e2 : bits .or .u64 (acc : Int) (x : Int) = (acc' : Int) := by rw [or_u64 hacc hxb, hA]
                    have HN := Lib.hid (show foldS 60 L0 0 = foldS 60 (L0.drop (j + 1)) acc' from by rw [HFO.out, drop_cons HPJ.out, foldS_go (by rw [HSE.out]), HSE.out, hA])
                    have HA := Lib.hid hA2
                    clear hA hA2 hacc hxb
                    have qs : w6.cell? ⟨wo.heap.size, 0, none⟩ = some (.int .u64 acc) := BS4.out.cell 0
                    have fs : w6.frozen? ⟨wo.heap.size, 0, none⟩ = false := BS4.out.frozen 0
                    go_wp2_with fail
                    go_roundw
                    case rel => exact ⟨j + 1, acc', by omega, by go_num, HA.out, HN.out, by simpa using BS4.out.set_ 0 (.int .u64 acc'), HD4.out.setCell (p := ⟨wo.heap.size, 0, none⟩) (Nat.le_refl _) _⟩
                    case measure => simp [intOf]; omega
                · have hji : ¬ (j : Int) < L0.length := by omega
                  obtain rfl : j = L0.length := by omega
                  have HN := Lib.hid (show foldS 60 L0 0 = (acc, true) from by rw [HFO.out, List.drop_length]; rfl)
                  have BS5 := Lib.hid (show Blk wr wo.heap.size 49 #[.int .u64 (foldS 60 L0 0).1, .int .u64 0, .int .u64 0] from by rw [HN.out]; exact BS2.out)
                  clear hacc
                  go_wp2_with fail
                  go_roundw
                  case rel => exact ⟨.inr (.inl ⟨rfl, by rw [HN.out], BS5.out⟩), HD.out⟩
                  case measure => simp [intOf]
            · skip
              have HF0 := Lib.hid hf0
              clear hf0
              have BS1 := Lib.hid bS
              clear bS
              obtain ⟨wp, rfl⟩ : ∃ wp : World, wp = wr := ⟨_, rfl⟩
              go_wp2_with fail
              go_loopw [53] (fun i wr => ∃ (j acc : Nat), j ≤ L1.length ∧ i = .int .i64 j ∧ acc < 1152921504606846976 ∧ foldS 24 L1 0 = foldS 24 (L1.drop j) acc ∧ Blk wr wo.heap.size 49 #[.int .u64 (foldS 60 L0 0).1, .int .u64 acc, .int .u64 0] ∧ Below wo.heap.size wo wr) (fun i _ => L1.length - (intOf i).toNat)
              case atStart => exact ⟨0, 0, Nat.zero_le _, rfl, by omega, rfl, BS1.out, HC.out⟩
              case round =>
                obtain ⟨j, acc, hj, rfl, hacc, hfo, bS, hbr⟩ := hrel
                have HFO := Lib.hid hfo
                have HD := Lib.hid hbr
                have hzd : wo.heap.size ≤ wr.heap.size := hbr.size
                have BS2 := Lib.hid bS
                clear hfo hbr bS
                by_cases hlt : j < L1.length
                · obtain ⟨p, hp⟩ : ∃ p, L1[j]? = some p := ⟨_, List.getElem?_eq_getElem hlt⟩
                  obtain ⟨bb, oo, rfl, -, c0, c1, c2, c3⟩ := (HQ1.out.on HD.out).elem hp
                  have HPJ := Lib.hid hp
                  have HBD := Lib.hid (parts_bound (w := b.data.toList) (p := p) (by rw [HP1.out]; exact List.mem_of_getElem? hp))
                  have hji : (j : Int) < L1.length := by omega
                  have hj0 : (0 : Int) ≤ j := by omega
                  have hjb : (j : Int) ≤ 9000000000000000000 := by have h := LQ.out b (by simp); rw [HP1.out] at h; dsimp only at h; omega
                  clear hp
                  have bP := Blk.new wr 51 #[.int .i64 p.lo, .int .i64 p.hi, .int .i64 p.st, .bool p.sp]
                  have BS3 := Lib.hid (BS2.out.alloc (.cells #[.int .i64 p.lo, .int .i64 p.hi, .int .i64 p.st, .bool p.sp] 51))
                  have HD3 := Lib.hid (HD.out.alloc hzd (.cells #[.int .i64 p.lo, .int .i64 p.hi, .int .i64 p.st, .bool p.sp] 51))
                  have BP := Lib.hid bP
                  clear bP
                  obtain ⟨⟨x, ok⟩, hset⟩ : ∃ q, setS p 24 = q := ⟨_, rfl⟩
                  have HSE := Lib.hid hset
                  clear hset
                  go_wp2_with fail
                  generalize hGP : wr.heap.size = GP at *
                  generalize wr.alloc (.cells #[.int .i64 p.lo, .int .i64 p.hi, .int .i64 p.st, .bool p.sp] 51) = w5 at *
                  clear c0 c1 c2 c3
                  have rr0 := fun d os => cell_regrown (v := .int .i64 p.lo) (BP.out.cell 0) d os
                  have rr1 := fun d os => cell_regrown (v := .int .i64 p.hi) (BP.out.cell 1) d os
                  have rr2 := fun d os => cell_regrown (v := .int .i64 p.st) (BP.out.cell 2) d os
                  have rr3 := fun d os => cell_regrown (v := .bool p.sp) (BP.out.cell 3) d os
                  refine wp_region_quiet_below (by kernel_rfl) (by kernel_rfl) ?_
                  repeat (go_big_quiet_step ((first | (go_at_call 26; exact sizes_at _ _ _) | (go_at_call 25; exact set_at24 p x ok HSE.out HBD.out _ _ _))))
                  refine wpQuiet_nil ?_
                  intro _ hw'
                  obtain ⟨⟨dq, osq⟩, hw''⟩ := hw'
                  subst hw''
                  have hb := below_regrown w5 dq osq
                  have HD4 := Lib.hid (HD3.out.trans (hb.mono HD3.out.size))
                  have BS4 := Lib.hid (BS3.out.on hb)
                  clear hb rr0 rr1 rr2 rr3
                  generalize grow (redrawn w5 dq) osq = w6 at *
                  have hz6 : wo.heap.size ≤ w6.heap.size := HD4.out.size
                  cases ok
                  · have HE := Lib.hid (show parseS s = (⟨0, 0, 0⟩, 2) from parse_rng h0 HQ.out (by rw [HP0.out, HP1.out, HP2.out]; simp only [HO0.out, HO1.out, HO2.out]; rfl) (by
                      have hx : (foldS 24 L1 0).2 = false := by rw [HFO.out, drop_cons HPJ.out, foldS_fail (by rw [HSE.out])]
                      unfold foldW; rw [HP0.out, HP1.out, HP2.out]; simp only [hx]; simp))
                    have bR := BRo.out.on HD4.out
                    have r0 : w6.cell? ⟨w.heap.size, 0, none⟩ = some (.int .u64 0) := bR.cell 0
                    have s0 : w6.frozen? ⟨w.heap.size, 0, none⟩ = false := bR.frozen 0
                    have r1 : w6.cell? ⟨w.heap.size, 1, none⟩ = some (.int .u64 0) := bR.cell 1
                    have s1 : w6.frozen? ⟨w.heap.size, 1, none⟩ = false := bR.frozen 1
                    have r2 : w6.cell? ⟨w.heap.size, 2, none⟩ = some (.int .u64 0) := bR.cell 2
                    have s2 : w6.frozen? ⟨w.heap.size, 2, none⟩ = false := bR.frozen 2
                    go_wp2_with fail
                    exact bodyPost_ret (v := .tuple #[.agg #[.int .u64 0, .int .u64 0, .int .u64 0], .int .i64 2]) (by simp [results, Tryd.results10, go_sem, r0, r1, r2]) rfl ⟨ret_tupC0 HE.out, below_set3' ((HB1.out.trans (HB.out.mono hz1)).trans (HD4.out.mono hzo)) (Nat.le_refl _) _ _ _⟩
                  · have hxb := setS60 (by omega) HSE.out
                    obtain ⟨acc', hA⟩ : ∃ q, acc ||| x = q := ⟨_, rfl⟩
                    have hA2 : acc' < 1152921504606846976 := by rw [← hA, show (1152921504606846976 : Nat) = 2 ^ 60 from by decide] at *; exact Nat.or_lt_two_pow hacc hxb
                    have e2 : bits .or .u64 (acc : Int) (x : Int) = (acc' : Int) := by rw [or_u64 hacc hxb, hA]
                    have HN := Lib.hid (show foldS 24 L1 0 = foldS 24 (L1.drop (j + 1)) acc' from by rw [HFO.out, drop_cons HPJ.out, foldS_go (by rw [HSE.out]), HSE.out, hA])
                    have HA := Lib.hid hA2
                    clear hA hA2 hacc hxb
                    have qs : w6.cell? ⟨wo.heap.size, 1, none⟩ = some (.int .u64 acc) := BS4.out.cell 1
                    have fs : w6.frozen? ⟨wo.heap.size, 1, none⟩ = false := BS4.out.frozen 1
                    go_wp2_with fail
                    go_roundw
                    case rel => exact ⟨j + 1, acc', by omega, by go_num, HA.out, HN.out, by simpa using BS4.out.set_ 1 (.int .u64 acc'), HD4.out.setCell (p := ⟨wo.heap.size, 1, none⟩) (Nat.le_refl _) _⟩
                    case measure => simp [intOf]; omega
                · have hji : ¬ (j : Int) < L1.length := by omega
                  obtain rfl : j = L1.length := by omega
                  have HN := Lib.hid (show foldS 24 L1 0 = (acc, true) from by rw [HFO.out, List.drop_length]; rfl)
                  have BS5 := Lib.hid (show Blk wr wo.heap.size 49 #[.int .u64 (foldS 60 L0 0).1, .int .u64 (foldS 24 L1 0).1, .int .u64 0] from by rw [HN.out]; exact BS2.out)
                  clear hacc
                  go_wp2_with fail
                  go_roundw
                  case rel => exact ⟨.inr (.inr (.inl ⟨rfl, HF0.out, by rw [HN.out], BS5.out⟩)), HD.out⟩
                  case measure => simp [intOf]
            · skip
              have HF0 := Lib.hid hf0
              have HF1 := Lib.hid hf1
              clear hf0 hf1
              have BS1 := Lib.hid bS
              clear bS
              obtain ⟨wp, rfl⟩ : ∃ wp : World, wp = wr := ⟨_, rfl⟩
              go_wp2_with fail
              go_loopw [53] (fun i wr => ∃ (j acc : Nat), j ≤ L2.length ∧ i = .int .i64 j ∧ acc < 1152921504606846976 ∧ foldS 7 L2 0 = foldS 7 (L2.drop j) acc ∧ Blk wr wo.heap.size 49 #[.int .u64 (foldS 60 L0 0).1, .int .u64 (foldS 24 L1 0).1, .int .u64 acc] ∧ Below wo.heap.size wo wr) (fun i _ => L2.length - (intOf i).toNat)
              case atStart => exact ⟨0, 0, Nat.zero_le _, rfl, by omega, rfl, BS1.out, HC.out⟩
              case round =>
                obtain ⟨j, acc, hj, rfl, hacc, hfo, bS, hbr⟩ := hrel
                have HFO := Lib.hid hfo
                have HD := Lib.hid hbr
                have hzd : wo.heap.size ≤ wr.heap.size := hbr.size
                have BS2 := Lib.hid bS
                clear hfo hbr bS
                by_cases hlt : j < L2.length
                · obtain ⟨p, hp⟩ : ∃ p, L2[j]? = some p := ⟨_, List.getElem?_eq_getElem hlt⟩
                  obtain ⟨bb, oo, rfl, -, c0, c1, c2, c3⟩ := (HQ2.out.on HD.out).elem hp
                  have HPJ := Lib.hid hp
                  have HBD := Lib.hid (parts_bound (w := c.data.toList) (p := p) (by rw [HP2.out]; exact List.mem_of_getElem? hp))
                  have hji : (j : Int) < L2.length := by omega
                  have hj0 : (0 : Int) ≤ j := by omega
                  have hjb : (j : Int) ≤ 9000000000000000000 := by have h := LQ.out c (by simp); rw [HP2.out] at h; dsimp only at h; omega
                  clear hp
                  have bP := Blk.new wr 51 #[.int .i64 p.lo, .int .i64 p.hi, .int .i64 p.st, .bool p.sp]
                  have BS3 := Lib.hid (BS2.out.alloc (.cells #[.int .i64 p.lo, .int .i64 p.hi, .int .i64 p.st, .bool p.sp] 51))
                  have HD3 := Lib.hid (HD.out.alloc hzd (.cells #[.int .i64 p.lo, .int .i64 p.hi, .int .i64 p.st, .bool p.sp] 51))
                  have BP := Lib.hid bP
                  clear bP
                  obtain ⟨⟨x, ok⟩, hset⟩ : ∃ q, setS p 7 = q := ⟨_, rfl⟩
                  have HSE := Lib.hid hset
                  clear hset
                  go_wp2_with fail
                  generalize hGP : wr.heap.size = GP at *
                  generalize wr.alloc (.cells #[.int .i64 p.lo, .int .i64 p.hi, .int .i64 p.st, .bool p.sp] 51) = w5 at *
                  clear c0 c1 c2 c3
                  have rr0 := fun d os => cell_regrown (v := .int .i64 p.lo) (BP.out.cell 0) d os
                  have rr1 := fun d os => cell_regrown (v := .int .i64 p.hi) (BP.out.cell 1) d os
                  have rr2 := fun d os => cell_regrown (v := .int .i64 p.st) (BP.out.cell 2) d os
                  have rr3 := fun d os => cell_regrown (v := .bool p.sp) (BP.out.cell 3) d os
                  refine wp_region_quiet_below (by kernel_rfl) (by kernel_rfl) ?_
                  repeat (go_big_quiet_step ((first | (go_at_call 26; exact sizes_at _ _ _) | (go_at_call 25; exact set_at7 p x ok HSE.out HBD.out _ _ _))))
                  refine wpQuiet_nil ?_
                  intro _ hw'
                  obtain ⟨⟨dq, osq⟩, hw''⟩ := hw'
                  subst hw''
                  have hb := below_regrown w5 dq osq
                  have HD4 := Lib.hid (HD3.out.trans (hb.mono HD3.out.size))
                  have BS4 := Lib.hid (BS3.out.on hb)
                  clear hb rr0 rr1 rr2 rr3
                  generalize grow (redrawn w5 dq) osq = w6 at *
                  have hz6 : wo.heap.size ≤ w6.heap.size := HD4.out.size
                  cases ok
                  · have HE := Lib.hid (show parseS s = (⟨0, 0, 0⟩, 2) from parse_rng h0 HQ.out (by rw [HP0.out, HP1.out, HP2.out]; simp only [HO0.out, HO1.out, HO2.out]; rfl) (by
                      have hx : (foldS 7 L2 0).2 = false := by rw [HFO.out, drop_cons HPJ.out, foldS_fail (by rw [HSE.out])]
                      unfold foldW; rw [HP0.out, HP1.out, HP2.out]; simp only [hx]; simp))
                    have bR := BRo.out.on HD4.out
                    have r0 : w6.cell? ⟨w.heap.size, 0, none⟩ = some (.int .u64 0) := bR.cell 0
                    have s0 : w6.frozen? ⟨w.heap.size, 0, none⟩ = false := bR.frozen 0
                    have r1 : w6.cell? ⟨w.heap.size, 1, none⟩ = some (.int .u64 0) := bR.cell 1
                    have s1 : w6.frozen? ⟨w.heap.size, 1, none⟩ = false := bR.frozen 1
                    have r2 : w6.cell? ⟨w.heap.size, 2, none⟩ = some (.int .u64 0) := bR.cell 2
                    have s2 : w6.frozen? ⟨w.heap.size, 2, none⟩ = false := bR.frozen 2
                    go_wp2_with fail
                    exact bodyPost_ret (v := .tuple #[.agg #[.int .u64 0, .int .u64 0, .int .u64 0], .int .i64 2]) (by simp [results, Tryd.results10, go_sem, r0, r1, r2]) rfl ⟨ret_tupC0 HE.out, below_set3' ((HB1.out.trans (HB.out.mono hz1)).trans (HD4.out.mono hzo)) (Nat.le_refl _) _ _ _⟩
                  · have hxb := setS60 (by omega) HSE.out
                    obtain ⟨acc', hA⟩ : ∃ q, acc ||| x = q := ⟨_, rfl⟩
                    have hA2 : acc' < 1152921504606846976 := by rw [← hA, show (1152921504606846976 : Nat) = 2 ^ 60 from by decide] at *; exact Nat.or_lt_two_pow hacc hxb
                    have e2 : bits .or .u64 (acc : Int) (x : Int) = (acc' : Int) := by rw [or_u64 hacc hxb, hA]
                    have HN := Lib.hid (show foldS 7 L2 0 = foldS 7 (L2.drop (j + 1)) acc' from by rw [HFO.out, drop_cons HPJ.out, foldS_go (by rw [HSE.out]), HSE.out, hA])
                    have HA := Lib.hid hA2
                    clear hA hA2 hacc hxb
                    have qs : w6.cell? ⟨wo.heap.size, 2, none⟩ = some (.int .u64 acc) := BS4.out.cell 2
                    have fs : w6.frozen? ⟨wo.heap.size, 2, none⟩ = false := BS4.out.frozen 2
                    go_wp2_with fail
                    go_roundw
                    case rel => exact ⟨j + 1, acc', by omega, by go_num, HA.out, HN.out, by simpa using BS4.out.set_ 2 (.int .u64 acc'), HD4.out.setCell (p := ⟨wo.heap.size, 2, none⟩) (Nat.le_refl _) _⟩
                    case measure => simp [intOf]; omega
                · have hji : ¬ (j : Int) < L2.length := by omega
                  obtain rfl : j = L2.length := by omega
                  have HN := Lib.hid (show foldS 7 L2 0 = (acc, true) from by rw [HFO.out, List.drop_length]; rfl)
                  have BS5 := Lib.hid (show Blk wr wo.heap.size 49 #[.int .u64 (foldS 60 L0 0).1, .int .u64 (foldS 24 L1 0).1, .int .u64 (foldS 7 L2 0).1] from by rw [HN.out]; exact BS2.out)
                  clear hacc
                  go_wp2_with fail
                  go_roundw
                  case rel => exact ⟨.inr (.inr (.inr ⟨rfl, HF0.out, HF1.out, by rw [HN.out], BS5.out⟩)), HD.out⟩
                  case measure => simp [intOf]
            · have HE := Lib.hid (show parseS s = (⟨(foldS 60 L0 0).1, (foldS 24 L1 0).1, (foldS 7 L2 0).1⟩, 0) from by
                rw [parse_ok h0 HQ.out (by rw [HP0.out, HP1.out, HP2.out]; simp only [HO0.out, HO1.out, HO2.out]; rfl) (by unfold foldW; rw [HP0.out, HP1.out, HP2.out]; simp only [hf0, hf1, hf2]; rfl)]
                unfold foldW; rw [HP0.out, HP1.out, HP2.out])
              clear hf0 hf1 hf2
              obtain ⟨x0, hx0⟩ : ∃ q, (foldS 60 L0 0).1 = q := ⟨_, rfl⟩
              obtain ⟨x1, hx1⟩ : ∃ q, (foldS 24 L1 0).1 = q := ⟨_, rfl⟩
              obtain ⟨x2, hx2⟩ : ∃ q, (foldS 7 L2 0).1 = q := ⟨_, rfl⟩
              rw [hx0, hx1, hx2] at HE bS
              clear hx0 hx1 hx2
              have qs0 : wr.cell? ⟨wo.heap.size, 0, none⟩ = some (.int .u64 x0) := bS.cell 0
              have qs1 : wr.cell? ⟨wo.heap.size, 1, none⟩ = some (.int .u64 x1) := bS.cell 1
              have qs2 : wr.cell? ⟨wo.heap.size, 2, none⟩ = some (.int .u64 x2) := bS.cell 2
              have bR := BRo.out.on HC.out
              have r0 : wr.cell? ⟨w.heap.size, 0, none⟩ = some (.int .u64 0) := bR.cell 0
              have s0 : wr.frozen? ⟨w.heap.size, 0, none⟩ = false := bR.frozen 0
              have r1 : wr.cell? ⟨w.heap.size, 1, none⟩ = some (.int .u64 0) := bR.cell 1
              have s1 : wr.frozen? ⟨w.heap.size, 1, none⟩ = false := bR.frozen 1
              have r2 : wr.cell? ⟨w.heap.size, 2, none⟩ = some (.int .u64 0) := bR.cell 2
              have s2 : wr.frozen? ⟨w.heap.size, 2, none⟩ = false := bR.frozen 2
              go_wp2_with fail
              exact bodyPost_ret (v := .tuple #[.agg #[.int .u64 x0, .int .u64 x1, .int .u64 x2], .int .i64 0]) (by simp [results, Tryd.results10, go_sem, r0, r1, r2]) rfl ⟨ret_tupC HE.out, below_set3' ((HB1.out.trans (HB.out.mono hz1)).trans (HC.out.mono hzo)) (Nat.le_refl _) _ _ _⟩
    · have t3 : ((Q.length : Int) != 3) = true := by rw [bne_iff_ne]; omega
      have HD := Lib.hid (parse_cnt h0 HQ.out h3)
      have r0 : w1.cell? ⟨w.heap.size, 0, none⟩ = some (.int .u64 0) := bR.cell 0
      have r1 : w1.cell? ⟨w.heap.size, 1, none⟩ = some (.int .u64 0) := bR.cell 1
      have r2 : w1.cell? ⟨w.heap.size, 2, none⟩ = some (.int .u64 0) := bR.cell 2
      have s0 : w1.frozen? ⟨w.heap.size, 0, none⟩ = false := bR.frozen 0
      have s1 : w1.frozen? ⟨w.heap.size, 1, none⟩ = false := bR.frozen 1
      have s2 : w1.frozen? ⟨w.heap.size, 2, none⟩ = false := bR.frozen 2
      go_wp2_with fail
      exact bodyPost_ret (v := .tuple #[.agg #[.int .u64 0, .int .u64 0, .int .u64 0], .int .i64 1]) (by simp [results, Tryd.results10, go_sem, r0, r1, r2]) rfl ⟨ret_tupC0 HD.out, below_set3' HB1.out (Nat.le_refl _) _ _ _⟩
end Go.Proofs.YtnagnaekcphpiaaDoor
