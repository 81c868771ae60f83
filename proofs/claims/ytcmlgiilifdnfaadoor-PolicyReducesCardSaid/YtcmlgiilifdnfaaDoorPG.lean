/- Check of a statement: the program's and the reference's. -/
import Derived.Test.YtcmlgiilifdnfaaDoorPF
namespace Go.Proofs.YtcmlgiilifdnfaaDoor
open Go.RowKit
open Go.Sort (grow)

/-- A statement's value in memory. -/
def StV (w : World) (B : Nat) (v : Value) (s : St) : Prop := ∃ A c A2 c2, v = .agg #[.bool s.al, .slice A s.ac.length c, .slice A2 s.re.length c2] ∧ StrL w B A s.ac ∧ StrL w B A2 s.re
theorem StV.on {w w' : World} {v : Value} {s : St} (h : StV w w.heap.size v s) (hb : Below w.heap.size w w') : StV w' w'.heap.size v s := by
  obtain ⟨A, c, A2, c2, rfl, h1, h2⟩ := h
  exact ⟨A, c, A2, c2, rfl, h1.on hb, h2.on hb⟩
theorem StV.keep {w w' : World} {B : Nat} {v : Value} {s : St} (h : StV w B v s) (hb : Below B w w') : StV w' B v s := by
  obtain ⟨A, c, A2, c2, rfl, h1, h2⟩ := h
  exact ⟨A, c, A2, c2, rfl, h1.keep hb, h2.keep hb⟩
def SzSt (s : St) : Prop := s.ac.length ≤ 1000000 ∧ s.re.length ≤ 1000000 ∧ Sz s.ac ∧ Sz s.re
theorem check1_ans (p : ByteArray) (w : World) (hp : p.size ≤ 9223372036854775807) : Ans 37 #[] w p (!patW p.data.toList) := by
  intro W hb
  have HP := Lib.hid hp
  clear hb hp
  show Calls Tryd.prog 37 #[.string p] W _
  go_enter Tryd.func37, Tryd.ntmps37
  go_wp2_with fail
  refine (Pattern_any p W HP.out).mono ?_
  rintro e w1 ⟨rfl, hb⟩
  have HB := Lib.hid hb
  clear hb
  go_wp2_with fail
  go_ret
  exact ⟨rfl, HB.out⟩
theorem okS_any (l : List ByteArray) : (l.any fun t => !patW t.data.toList) = !okS l := by
  unfold okS
  induction l with
  | nil => rfl
  | cons a l ih => simp only [List.any_cons, List.all_cons, Bool.not_and, ih]
theorem bad_any (A : Option Addr) (c : Nat) (l : List ByteArray) (w : World) (hl : StrL w w.heap.size A l) (hn : l.length ≤ 1000000) (hs : Sz l) :
    Calls Tryd.prog 36 #[.slice A l.length c, .func (.func 37) #[] #[]] w fun e w' => e = .returned (.bool (!okS l)) ∧ Below w.heap.size w w' := by
  rw [← okS_any]
  exact ContainsS _ enters_check _ (fun t => !patW t.data.toList) A c l w hl hn (fun t ht => check1_ans t w (hs t ht))
theorem lenS_yes {l : List ByteArray} (h1 : 1 ≤ l.length) (h2 : l.length ≤ 8) : lenS l = true := by unfold lenS; rw [decide_eq_true]; exact ⟨h1, h2⟩
theorem lenS_no {l : List ByteArray} (h : ¬ (1 ≤ l.length ∧ l.length ≤ 8)) : lenS l = false := by unfold lenS; rw [decide_eq_false h]
theorem ck3a {s : St} (h : lenS s.ac = false) : (3 : Int) = s.ck := by unfold St.ck; rw [h]; simp
theorem ck3b {s : St} (h : lenS s.re = false) : (3 : Int) = s.ck := by unfold St.ck; rw [h]; simp
theorem ck4a {s : St} (h1 : lenS s.ac = true) (h2 : lenS s.re = true) (h : okS s.ac = false) : (4 : Int) = s.ck := by unfold St.ck; rw [h, h1, h2]; simp
theorem ck4b {s : St} (h1 : lenS s.ac = true) (h2 : lenS s.re = true) (h : okS s.re = false) : (4 : Int) = s.ck := by unfold St.ck; rw [h, h1, h2]; simp
theorem ck0 {s : St} (h1 : lenS s.ac = true) (h2 : lenS s.re = true) (h3 : okS s.ac = true) (h : okS s.re = true) : (0 : Int) = s.ck := by unfold St.ck; rw [h, h1, h2, h3]; simp
theorem size_new2 (w : World) (o o2 : Obj) : Below w.heap.size w ((w.alloc o).alloc o2) := (size_new w o).alloc (by simp) _
set_option maxHeartbeats 2000000 in
theorem Check_any (s : St) (v : Value) (w : World) (hv : StV w w.heap.size v s) (hz : SzSt s) :
    Calls Tryd.prog 17 #[v] w fun e w' => e = .returned (.int .i64 s.ck) ∧ Below w.heap.size w w' := by
  obtain ⟨A, c, A2, c2, rfl, hl1, hl2⟩ := hv
  obtain ⟨hn1, hn2, hs1, hs2⟩ := hz
  have HL1 := Lib.hid hl1
  have HL2 := Lib.hid hl2
  have HS1 := Lib.hid hs1
  have HS2 := Lib.hid hs2
  clear hl1 hl2 hs1 hs2
  go_enter Tryd.func17, Tryd.ntmps17
  go_wp2_with fail
  have bl := Blk.new1 w (.cells #[.bool s.al, .slice A s.ac.length c, .slice A2 s.re.length c2] 31) 29 #[.slice A s.ac.length c, .slice A2 s.re.length c2]
  have HB0 := Lib.hid (size_new2 w (.cells #[.bool s.al, .slice A s.ac.length c, .slice A2 s.re.length c2] 31) (.cells #[.slice A s.ac.length c, .slice A2 s.re.length c2] 29))
  generalize (w.alloc (.cells #[.bool s.al, .slice A s.ac.length c, .slice A2 s.re.length c2] 31)).alloc (.cells #[.slice A s.ac.length c, .slice A2 s.re.length c2] 29) = W at *
  have c0 : W.cell? ⟨w.heap.size + 1, 0, none⟩ = some (.slice A s.ac.length c) := bl.cell 0
  have c1 : W.cell? ⟨w.heap.size + 1, 1, none⟩ = some (.slice A2 s.re.length c2) := bl.cell 1
  have BL := Lib.hid bl
  clear bl
  go_loop [5, 15] (fun _ i => (i = .int .i64 0 ∨ (i = .int .i64 1 ∧ lenS s.ac = true) ∨ (i = .int .i64 2 ∧ lenS s.ac = true ∧ lenS s.re = true))) (fun _ i => 2 - (intOf i).toNat)
  case atStart => exact .inl rfl
  case round =>
    rcases hrel with rfl | ⟨rfl, hac⟩ | ⟨rfl, hac, hre⟩
    · by_cases h1 : 1 ≤ s.ac.length
      · have d1 : decide ((s.ac.length : Int) < 1) = false := decide_eq_false (by omega)
        by_cases h2 : s.ac.length ≤ 8
        · have d2 : decide ((8 : Int) < s.ac.length) = false := decide_eq_false (by omega)
          have HA := Lib.hid (lenS_yes h1 h2)
          go_wp2_with fail
          go_round
          case rel => exact .inr (.inl ⟨rfl, HA.out⟩)
          case measure => simp [intOf]
        · have d2 : decide ((8 : Int) < s.ac.length) = true := decide_eq_true (by omega)
          have HA := Lib.hid (ck3a (s := s) (lenS_no (by omega)))
          clear h2
          go_wp2_with fail
          all_goals try (exfalso; omega)
          go_ret
          exact ⟨ret_int HA.out, HB0.out⟩
      · have d1 : decide ((s.ac.length : Int) < 1) = true := decide_eq_true (by omega)
        have HA := Lib.hid (ck3a (s := s) (lenS_no (by omega)))
        clear h1
        go_wp2_with fail
        all_goals try (exfalso; omega)
        go_ret
        exact ⟨ret_int HA.out, HB0.out⟩
    · have HAC := Lib.hid hac
      clear hac
      by_cases h1 : 1 ≤ s.re.length
      · have d1 : decide ((s.re.length : Int) < 1) = false := decide_eq_false (by omega)
        by_cases h2 : s.re.length ≤ 8
        · have d2 : decide ((8 : Int) < s.re.length) = false := decide_eq_false (by omega)
          have HA := Lib.hid (lenS_yes h1 h2)
          go_wp2_with fail
          go_round
          case rel => exact .inr (.inr ⟨rfl, HAC.out, HA.out⟩)
          case measure => simp [intOf]
        · have d2 : decide ((8 : Int) < s.re.length) = true := decide_eq_true (by omega)
          have HA := Lib.hid (ck3b (s := s) (lenS_no (by omega)))
          clear h2
          go_wp2_with fail
          all_goals try (exfalso; omega)
          go_ret
          exact ⟨ret_int HA.out, HB0.out⟩
      · have d1 : decide ((s.re.length : Int) < 1) = true := decide_eq_true (by omega)
        have HA := Lib.hid (ck3b (s := s) (lenS_no (by omega)))
        clear h1
        go_wp2_with fail
        all_goals try (exfalso; omega)
        go_ret
        exact ⟨ret_int HA.out, HB0.out⟩
    · have HAC := Lib.hid hac
      have HRE := Lib.hid hre
      clear hac hre c0 c1
      go_wp2_with fail
      go_loopw [7, 30] (fun _ i wr => (i = .int .i64 0 ∨ (i = .int .i64 1 ∧ okS s.ac = true) ∨ (i = .int .i64 2 ∧ okS s.ac = true ∧ okS s.re = true)) ∧ Below w.heap.size w wr ∧ Blk wr (w.heap.size + 1) 29 #[.slice A s.ac.length c, .slice A2 s.re.length c2]) (fun _ i _ => 2 - (intOf i).toNat)
      case atStart => exact ⟨.inl rfl, HB0.out, BL.out⟩
      case round =>
        obtain ⟨hc, hb, bl⟩ := hrel
        have c0 : wr.cell? ⟨w.heap.size + 1, 0, none⟩ = some (.slice A s.ac.length c) := bl.cell 0
        have c1 : wr.cell? ⟨w.heap.size + 1, 1, none⟩ = some (.slice A2 s.re.length c2) := bl.cell 1
        have hzr : w.heap.size ≤ wr.heap.size := hb.size
        have HB := Lib.hid hb
        have BL2 := Lib.hid bl
        clear hb bl
        rcases hc with rfl | ⟨rfl, hac⟩ | ⟨rfl, hac, hre⟩
        · go_wp2_with fail
          refine (bad_any A c s.ac wr ((HL1.out.keep HB.out).more hzr) hn1 HS1.out).mono ?_
          rintro e w1 ⟨rfl, hb⟩
          have HB1 := Lib.hid (HB.out.trans (hb.mono hzr))
          have BL3 := Lib.hid (BL2.out.on hb)
          clear hb
          cases hk : okS s.ac
          · have HA := Lib.hid (ck4a (s := s) HAC.out HRE.out hk)
            clear hk
            go_wp2_with fail
            go_ret
            exact ⟨ret_int HA.out, HB1.out⟩
          · have HK := Lib.hid hk
            clear hk
            go_wp2_with fail
            go_roundw
            case rel => exact ⟨.inr (.inl ⟨rfl, HK.out⟩), HB1.out, BL3.out⟩
            case measure => simp [intOf]
        · have HOA := Lib.hid hac
          clear hac
          go_wp2_with fail
          refine (bad_any A2 c2 s.re wr ((HL2.out.keep HB.out).more hzr) hn2 HS2.out).mono ?_
          rintro e w1 ⟨rfl, hb⟩
          have HB1 := Lib.hid (HB.out.trans (hb.mono hzr))
          have BL3 := Lib.hid (BL2.out.on hb)
          clear hb
          cases hk : okS s.re
          · have HA := Lib.hid (ck4b (s := s) HAC.out HRE.out hk)
            clear hk
            go_wp2_with fail
            go_ret
            exact ⟨ret_int HA.out, HB1.out⟩
          · have HK := Lib.hid hk
            clear hk
            go_wp2_with fail
            go_roundw
            case rel => exact ⟨.inr (.inr ⟨rfl, HOA.out, HK.out⟩), HB1.out, BL3.out⟩
            case measure => simp [intOf]
        · have HA := Lib.hid (ck0 (s := s) HAC.out HRE.out hac hre)
          clear hac hre
          go_wp2_with fail
          go_ret
          exact ⟨ret_int HA.out, HB.out⟩
end Go.Proofs.YtcmlgiilifdnfaaDoor
