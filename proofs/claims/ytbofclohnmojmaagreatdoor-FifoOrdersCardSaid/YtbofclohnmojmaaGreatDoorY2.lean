/- Values and events: cells, sizes, copies. -/
import Derived.Test.YtbofclohnmojmaaGreatDoorY1
import Derived.Lib.Bytealg
import Derived.Deep.CutBlock
import Derived.Lib.SliceRun
import Derived.Shelf.SlicesQ.Load
namespace Go.Proofs.YtbofclohnmojmaaGreatDoor
open Go.RowKit
open Go.Sort (grow)

/-- A cell of a value. -/
structure Cel where
  k : Int
  i : Int
  s : ByteArray
  n : Int
def Cel.cells (c : Cel) : List Value := [.int .i64 c.k, .int .i64 c.i, .string c.s, .int .i64 c.n]
def txL (l : List UInt8) : Bool := l.all fun c => decide (32 ≤ c.toNat) && decide (c.toNat ≤ 126)
def ebS (s : ByteArray) : Bool := decide (s.size = 0)
/-- plain. -/
def plI (k i : Int) (s : ByteArray) (n : Int) : Bool :=
  if k = 1 then decide (i = 0) && ebS s && decide (n = 0)
  else if k = 2 then (decide (i = 0) || decide (i = 1)) && ebS s && decide (n = 0)
  else if k = 3 then ebS s && decide (n = 0)
  else if k = 4 then decide (i = 0) && decide (n = 0) && txL s.data.toList
  else if k = 5 ∨ k = 6 then decide (i = 0) && ebS s && decide (0 ≤ n)
  else false
def Cel.pl (c : Cel) : Bool := plI c.k c.i c.s c.n
/-- quoted. -/
def qtN (s : ByteArray) : Nat := s.size + 2 + Lib.countByte s.data.toList 34 + Lib.countByte s.data.toList 92
/-- size. -/
def szI (k i : Int) (s : ByteArray) (n : Int) : Int :=
  if k = 1 then 4 else if k = 2 then 5 - i else if k = 3 then ((Lib.itoa i).length : Nat) else if k = 4 then (qtN s : Nat) else 2 + max 0 (n - 1)
def Cel.sz (c : Cel) : Int := szI c.k c.i c.s c.n
theorem count_le (l : List UInt8) (c : UInt8) : Lib.countByte l c ≤ l.length := List.count_le_length
theorem qtN_le (s : ByteArray) : qtN s ≤ 3 * s.size + 2 := by
  have h1 := count_le s.data.toList 34
  have h2 := count_le s.data.toList 92
  rw [size_len] at h1 h2
  unfold qtN; omega

theorem al_new (w : World) (o : Obj) : Below w.heap.size w (w.alloc o) := (Below.refl _ _).alloc (Nat.le_refl _) o
theorem txL_step (s : ByteArray) (k : Nat) (h : k < s.size) : txL (s.data.toList.take (k + 1)) = (txL (s.data.toList.take k) && (decide (32 ≤ s[k].toNat) && decide (s[k].toNat ≤ 126))) := by
  unfold txL
  rw [List.take_add_one, byte_at s k h, List.all_append]
  simp
theorem txL_no (s : ByteArray) (k : Nat) (h : k < s.size) (hd : (decide (32 ≤ s[k].toNat) && decide (s[k].toNat ≤ 126)) = false) : txL s.data.toList = false := by
  unfold txL
  rw [List.all_eq_false]
  exact ⟨s[k], List.mem_of_getElem? (byte_at s k h), by rw [hd]; simp⟩
set_option maxHeartbeats 1000000 in
theorem text_any (s : ByteArray) (w : World) (hs : s.size ≤ 9223372036854775807) : Calls Tryz.prog 114 #[.string s] w fun e w' => e = .returned (.bool (txL s.data.toList)) ∧ w' = w := by
  go_enter Tryz.func114, Tryz.ntmps114
  go_wp2_with fail
  go_loopw [3, 6] (fun _ i wr => ∃ k : Nat, k ≤ s.size ∧ i = .int .i64 k ∧ wr = w ∧ txL (s.data.toList.take k) = true) (fun _ i _ => s.size - (intOf i).toNat)
  case atStart => exact ⟨0, Nat.zero_le _, rfl, rfl, rfl⟩
  case round =>
    obtain ⟨k, hk, rfl, rfl, ht⟩ := hrel
    have HT := Lib.hid ht
    clear ht
    by_cases hlt : k < s.size
    · have hltz : (k : Int) < (s.size : Int) := by omega
      have p0 : (0 : Int) ≤ k := by omega
      by_cases h1 : s[k].toNat < 32
      · have d1 : decide ((s[k].toNat : Int) < 32) = true := decide_eq_true (by omega)
        have HE := Lib.hid (show false = txL s.data.toList from (txL_no s k hlt (by rw [decide_eq_false (by omega), Bool.false_and])).symm)
        clear h1
        go_wp2_with fail
        go_ret
        exact ⟨ret_bool HE.out, rfl⟩
      · have d1 : decide ((s[k].toNat : Int) < 32) = false := decide_eq_false (by omega)
        by_cases h2 : 126 < s[k].toNat
        · have d2 : decide ((126 : Int) < (s[k].toNat : Int)) = true := decide_eq_true (by omega)
          have HE := Lib.hid (show false = txL s.data.toList from (txL_no s k hlt (by rw [decide_eq_false (show ¬ s[k].toNat ≤ 126 by omega), Bool.and_false])).symm)
          clear h1 h2
          go_wp2_with fail
          go_ret
          exact ⟨ret_bool HE.out, rfl⟩
        · have d2 : decide ((126 : Int) < (s[k].toNat : Int)) = false := decide_eq_false (by omega)
          have HE := Lib.hid (show txL (s.data.toList.take (k + 1)) = true by rw [txL_step s k hlt, HT.out, decide_eq_true (show 32 ≤ s[k].toNat by omega), decide_eq_true (show s[k].toNat ≤ 126 by omega)]; rfl)
          clear h1 h2
          go_wp2_with fail
          go_roundw
          case rel => exact ⟨k + 1, by omega, by go_num, trivial, HE.out⟩
          case measure => simp [intOf]; omega
    · obtain rfl : k = s.size := by omega
      have HE := Lib.hid (show true = txL s.data.toList by have h := HT.out; rw [← size_len, List.take_length] at h; exact h.symm)
      go_wp2_with fail
      go_ret
      exact ⟨ret_bool HE.out, rfl⟩
set_option maxHeartbeats 1000000 in
theorem quoted_any (s : ByteArray) (w : World) (hs : s.size ≤ 140737488351232) : Calls Tryz.prog 103 #[.string s] w fun e w' => e = .returned (.int .i64 (qtN s : Nat)) ∧ w' = w := by
  have h1 := count_le s.data.toList 34
  have h2 := count_le s.data.toList 92
  rw [size_len] at h1 h2
  have HE := Lib.hid (show ((s.size : Int) + 2 + (Lib.countByte s.data.toList 34 : Nat) + (Lib.countByte s.data.toList 92 : Nat)) = (qtN s : Nat) by unfold qtN; omega)
  go_enter Tryz.func103, Tryz.ntmps103
  have w1 : IntKind.i64.wrap ((s.size : Int) + 2) = (s.size : Int) + 2 := by rw [IntKind.wrap_i64]; omega
  have w2 : IntKind.i64.wrap ((s.size : Int) + 2 + (Lib.countByte s.data.toList 34 : Nat)) = (s.size : Int) + 2 + (Lib.countByte s.data.toList 34 : Nat) := by rw [IntKind.wrap_i64]; omega
  have w3 : IntKind.i64.wrap ((s.size : Int) + 2 + (Lib.countByte s.data.toList 34 : Nat) + (Lib.countByte s.data.toList 92 : Nat)) = (s.size : Int) + 2 + (Lib.countByte s.data.toList 34 : Nat) + (Lib.countByte s.data.toList 92 : Nat) := by rw [IntKind.wrap_i64]; omega
  go_wp2_with fail
  refine (Tryz.strings_Count_one s 34 w).mono ?_
  rintro e wq ⟨rfl, hq⟩
  obtain rfl := hq.symm
  go_wp2_with fail
  refine (Tryz.strings_Count_one s 92 _).mono ?_
  rintro e wq ⟨rfl, hq⟩
  obtain rfl := hq.symm
  go_wp2_with fail
  go_ret
  exact ⟨ret_int HE.out, rfl⟩

set_option maxHeartbeats 4000000 in
theorem plain_any (k i : Int) (s : ByteArray) (n : Int) (w : World) (hs : s.size ≤ 9223372036854775807) : Calls Tryz.prog 102 #[.agg #[.int .i64 k, .int .i64 i, .string s, .int .i64 n]] w fun e w' => e = .returned (.bool (plI k i s n)) ∧ Below w.heap.size w w' := by
  go_enter Tryz.func102, Tryz.ntmps102
  by_cases h1 : k = 1
  · subst h1
    by_cases h_i0 : i = 0
    · have f_i0 : (i == 0) = true := beq_iff_eq.2 h_i0
      by_cases h_se : s.size = 0
      · have f_se := isEmpty_of h_se
        by_cases h_n0 : n = 0
        · have f_n0 : (n == 0) = true := beq_iff_eq.2 h_n0
          have HE := Lib.hid (show true = plI 1 i s n by first | (unfold plI ebS; simp_all; done) | (unfold plI; simp_all; done))
          clear h_n0
          clear h_se
          clear h_i0
          go_wp2_with fail
          go_ret
          exact ⟨ret_bool HE.out, al_new w _⟩
        · have f_n0 : (n == 0) = false := beq_eq_false_iff_ne.2 h_n0
          have HE := Lib.hid (show false = plI 1 i s n by first | (unfold plI ebS; simp_all; done) | (unfold plI; simp_all; done))
          clear h_n0
          clear h_se
          clear h_i0
          go_wp2_with fail
          go_ret
          exact ⟨ret_bool HE.out, al_new w _⟩
      · have f_se := isEmpty_not (s := s) (by omega)
        have HE := Lib.hid (show false = plI 1 i s n by first | (unfold plI ebS; simp_all; done) | (unfold plI; simp_all; done))
        clear h_se
        clear h_i0
        go_wp2_with fail
        go_ret
        exact ⟨ret_bool HE.out, al_new w _⟩
    · have f_i0 : (i == 0) = false := beq_eq_false_iff_ne.2 h_i0
      have HE := Lib.hid (show false = plI 1 i s n by first | (unfold plI ebS; simp_all; done) | (unfold plI; simp_all; done))
      clear h_i0
      go_wp2_with fail
      go_ret
      exact ⟨ret_bool HE.out, al_new w _⟩
  · have b1 : (k == 1) = false := beq_eq_false_iff_ne.2 h1
    by_cases h2 : k = 2
    · subst h2
      by_cases h_i0 : i = 0
      · have f_i0 : (i == 0) = true := beq_iff_eq.2 h_i0
        by_cases h_se : s.size = 0
        · have f_se := isEmpty_of h_se
          by_cases h_n0 : n = 0
          · have f_n0 : (n == 0) = true := beq_iff_eq.2 h_n0
            have HE := Lib.hid (show true = plI 2 i s n by first | (unfold plI ebS; simp_all; done) | (unfold plI; simp_all; done))
            clear h_n0
            clear h_se
            clear h_i0
            go_wp2_with fail
            go_ret
            exact ⟨ret_bool HE.out, al_new w _⟩
          · have f_n0 : (n == 0) = false := beq_eq_false_iff_ne.2 h_n0
            have HE := Lib.hid (show false = plI 2 i s n by first | (unfold plI ebS; simp_all; done) | (unfold plI; simp_all; done))
            clear h_n0
            clear h_se
            clear h_i0
            go_wp2_with fail
            go_ret
            exact ⟨ret_bool HE.out, al_new w _⟩
        · have f_se := isEmpty_not (s := s) (by omega)
          have HE := Lib.hid (show false = plI 2 i s n by first | (unfold plI ebS; simp_all; done) | (unfold plI; simp_all; done))
          clear h_se
          clear h_i0
          go_wp2_with fail
          go_ret
          exact ⟨ret_bool HE.out, al_new w _⟩
      · have f_i0 : (i == 0) = false := beq_eq_false_iff_ne.2 h_i0
        by_cases h_i1 : i = 1
        · have f_i1 : (i == 1) = true := beq_iff_eq.2 h_i1
          by_cases h_se : s.size = 0
          · have f_se := isEmpty_of h_se
            by_cases h_n0 : n = 0
            · have f_n0 : (n == 0) = true := beq_iff_eq.2 h_n0
              have HE := Lib.hid (show true = plI 2 i s n by first | (unfold plI ebS; simp_all; done) | (unfold plI; simp_all; done))
              clear h_n0
              clear h_se
              clear h_i1
              clear h_i0
              go_wp2_with fail
              go_ret
              exact ⟨ret_bool HE.out, al_new w _⟩
            · have f_n0 : (n == 0) = false := beq_eq_false_iff_ne.2 h_n0
              have HE := Lib.hid (show false = plI 2 i s n by first | (unfold plI ebS; simp_all; done) | (unfold plI; simp_all; done))
              clear h_n0
              clear h_se
              clear h_i1
              clear h_i0
              go_wp2_with fail
              go_ret
              exact ⟨ret_bool HE.out, al_new w _⟩
          · have f_se := isEmpty_not (s := s) (by omega)
            have HE := Lib.hid (show false = plI 2 i s n by first | (unfold plI ebS; simp_all; done) | (unfold plI; simp_all; done))
            clear h_se
            clear h_i1
            clear h_i0
            go_wp2_with fail
            go_ret
            exact ⟨ret_bool HE.out, al_new w _⟩
        · have f_i1 : (i == 1) = false := beq_eq_false_iff_ne.2 h_i1
          have HE := Lib.hid (show false = plI 2 i s n by first | (unfold plI ebS; simp_all; done) | (unfold plI; simp_all; done))
          clear h_i1
          clear h_i0
          go_wp2_with fail
          go_ret
          exact ⟨ret_bool HE.out, al_new w _⟩
    · have b2 : (k == 2) = false := beq_eq_false_iff_ne.2 h2
      by_cases h3 : k = 3
      · subst h3
        by_cases h_se : s.size = 0
        · have f_se := isEmpty_of h_se
          by_cases h_n0 : n = 0
          · have f_n0 : (n == 0) = true := beq_iff_eq.2 h_n0
            have HE := Lib.hid (show true = plI 3 i s n by first | (unfold plI ebS; simp_all; done) | (unfold plI; simp_all; done))
            clear h_n0
            clear h_se
            go_wp2_with fail
            go_ret
            exact ⟨ret_bool HE.out, al_new w _⟩
          · have f_n0 : (n == 0) = false := beq_eq_false_iff_ne.2 h_n0
            have HE := Lib.hid (show false = plI 3 i s n by first | (unfold plI ebS; simp_all; done) | (unfold plI; simp_all; done))
            clear h_n0
            clear h_se
            go_wp2_with fail
            go_ret
            exact ⟨ret_bool HE.out, al_new w _⟩
        · have f_se := isEmpty_not (s := s) (by omega)
          have HE := Lib.hid (show false = plI 3 i s n by first | (unfold plI ebS; simp_all; done) | (unfold plI; simp_all; done))
          clear h_se
          go_wp2_with fail
          go_ret
          exact ⟨ret_bool HE.out, al_new w _⟩
      · have b3 : (k == 3) = false := beq_eq_false_iff_ne.2 h3
        by_cases h4 : k = 4
        · subst h4
          by_cases h_i0 : i = 0
          · have f_i0 : (i == 0) = true := beq_iff_eq.2 h_i0
            by_cases h_n0 : n = 0
            · have f_n0 : (n == 0) = true := beq_iff_eq.2 h_n0
              cases hx : txL s.data.toList with
              | false =>
                have HE := Lib.hid (show false = plI 4 i s n by unfold plI; simp_all)
                go_wp2_with fail
                refine (text_any s _ hs).mono ?_
                rintro e wq ⟨rfl, hq⟩
                obtain rfl := hq.symm
                rw [hx]
                clear hx
                go_wp2_with fail
                go_ret
                exact ⟨ret_bool HE.out, al_new w _⟩
              | true =>
                have HE := Lib.hid (show true = plI 4 i s n by unfold plI; simp_all)
                go_wp2_with fail
                refine (text_any s _ hs).mono ?_
                rintro e wq ⟨rfl, hq⟩
                obtain rfl := hq.symm
                rw [hx]
                clear hx
                go_wp2_with fail
                go_ret
                exact ⟨ret_bool HE.out, al_new w _⟩
            · have f_n0 : (n == 0) = false := beq_eq_false_iff_ne.2 h_n0
              have HE := Lib.hid (show false = plI 4 i s n by first | (unfold plI ebS; simp_all; done) | (unfold plI; simp_all; done))
              clear h_n0
              clear h_i0
              go_wp2_with fail
              go_ret
              exact ⟨ret_bool HE.out, al_new w _⟩
          · have f_i0 : (i == 0) = false := beq_eq_false_iff_ne.2 h_i0
            have HE := Lib.hid (show false = plI 4 i s n by first | (unfold plI ebS; simp_all; done) | (unfold plI; simp_all; done))
            clear h_i0
            go_wp2_with fail
            go_ret
            exact ⟨ret_bool HE.out, al_new w _⟩
        · have b4 : (k == 4) = false := beq_eq_false_iff_ne.2 h4
          by_cases h5 : k = 5
          · subst h5
            by_cases h_i0 : i = 0
            · have f_i0 : (i == 0) = true := beq_iff_eq.2 h_i0
              by_cases h_se : s.size = 0
              · have f_se := isEmpty_of h_se
                by_cases h_ng : 0 ≤ n
                · have f_ng : decide (0 ≤ n) = true := decide_eq_true h_ng
                  have HE := Lib.hid (show true = plI 5 i s n by first | (unfold plI ebS; simp_all; done) | (unfold plI; simp_all; done))
                  clear h_ng
                  clear h_se
                  clear h_i0
                  go_wp2_with fail
                  go_ret
                  exact ⟨ret_bool HE.out, al_new w _⟩
                · have f_ng : decide (0 ≤ n) = false := decide_eq_false h_ng
                  have HE := Lib.hid (show false = plI 5 i s n by first | (unfold plI ebS; simp_all; done) | (unfold plI; simp_all; done))
                  clear h_ng
                  clear h_se
                  clear h_i0
                  go_wp2_with fail
                  go_ret
                  exact ⟨ret_bool HE.out, al_new w _⟩
              · have f_se := isEmpty_not (s := s) (by omega)
                have HE := Lib.hid (show false = plI 5 i s n by first | (unfold plI ebS; simp_all; done) | (unfold plI; simp_all; done))
                clear h_se
                clear h_i0
                go_wp2_with fail
                go_ret
                exact ⟨ret_bool HE.out, al_new w _⟩
            · have f_i0 : (i == 0) = false := beq_eq_false_iff_ne.2 h_i0
              have HE := Lib.hid (show false = plI 5 i s n by first | (unfold plI ebS; simp_all; done) | (unfold plI; simp_all; done))
              clear h_i0
              go_wp2_with fail
              go_ret
              exact ⟨ret_bool HE.out, al_new w _⟩
          · have b5 : (k == 5) = false := beq_eq_false_iff_ne.2 h5
            by_cases h6 : k = 6
            · subst h6
              by_cases h_i0 : i = 0
              · have f_i0 : (i == 0) = true := beq_iff_eq.2 h_i0
                by_cases h_se : s.size = 0
                · have f_se := isEmpty_of h_se
                  by_cases h_ng : 0 ≤ n
                  · have f_ng : decide (0 ≤ n) = true := decide_eq_true h_ng
                    have HE := Lib.hid (show true = plI 6 i s n by first | (unfold plI ebS; simp_all; done) | (unfold plI; simp_all; done))
                    clear h_ng
                    clear h_se
                    clear h_i0
                    go_wp2_with fail
                    go_ret
                    exact ⟨ret_bool HE.out, al_new w _⟩
                  · have f_ng : decide (0 ≤ n) = false := decide_eq_false h_ng
                    have HE := Lib.hid (show false = plI 6 i s n by first | (unfold plI ebS; simp_all; done) | (unfold plI; simp_all; done))
                    clear h_ng
                    clear h_se
                    clear h_i0
                    go_wp2_with fail
                    go_ret
                    exact ⟨ret_bool HE.out, al_new w _⟩
                · have f_se := isEmpty_not (s := s) (by omega)
                  have HE := Lib.hid (show false = plI 6 i s n by first | (unfold plI ebS; simp_all; done) | (unfold plI; simp_all; done))
                  clear h_se
                  clear h_i0
                  go_wp2_with fail
                  go_ret
                  exact ⟨ret_bool HE.out, al_new w _⟩
              · have f_i0 : (i == 0) = false := beq_eq_false_iff_ne.2 h_i0
                have HE := Lib.hid (show false = plI 6 i s n by first | (unfold plI ebS; simp_all; done) | (unfold plI; simp_all; done))
                clear h_i0
                go_wp2_with fail
                go_ret
                exact ⟨ret_bool HE.out, al_new w _⟩
            · have b6 : (k == 6) = false := beq_eq_false_iff_ne.2 h6
              have HE := Lib.hid (show false = plI k i s n by first | (unfold plI ebS; simp_all; done) | (unfold plI; simp_all; done))
              go_wp2_with fail
              go_ret
              exact ⟨ret_bool HE.out, al_new w _⟩

set_option maxHeartbeats 4000000 in
theorem size_any (k i : Int) (s : ByteArray) (n : Int) (w : World) (hX : LaidW w) (hs : s.size ≤ 140737488351232) (hi0 : -9223372036854775808 ≤ i) (hi1 : i ≤ 9223372036854775807) (hi2 : k = 2 → i = 0 ∨ i = 1) (hn0 : -9223372036854775808 < n) (hn : n ≤ 9223372036854775807) :
    Calls Tryz.prog 104 #[.agg #[.int .i64 k, .int .i64 i, .string s, .int .i64 n]] w fun e w' => e = .returned (.int .i64 (IntKind.i64.wrap (szI k i s n))) ∧ Below w.heap.size w w' := by
  have HX := Lib.hid hX
  clear hX
  by_cases h1 : k = 1
  · subst h1
    have HE := Lib.hid (show 4 = IntKind.i64.wrap (szI 1 i s n) by unfold szI; rw [if_pos rfl]; rfl)
    go_enter Tryz.func104, Tryz.ntmps104
    go_wp2_with fail
    go_ret
    exact ⟨ret_int HE.out, al_new w _⟩
  · have b1 : (k == 1) = false := beq_eq_false_iff_ne.2 h1
    by_cases h2 : k = 2
    · subst h2
      have hi3 := hi2 rfl
      have HE := Lib.hid (show 5 - i = IntKind.i64.wrap (szI 2 i s n) by unfold szI; rw [if_neg (by omega), if_pos rfl, IntKind.wrap_i64]; omega)
      go_enter Tryz.func104, Tryz.ntmps104
      go_wp2_with fail
      go_ret
      exact ⟨ret_int HE.out, al_new w _⟩
    · have b2 : (k == 2) = false := beq_eq_false_iff_ne.2 h2
      by_cases h3 : k = 3
      · subst h3
        have hlen := Lib.itoa_length_le i (by omega) (by omega)
        have HE := Lib.hid (show (((⟨(Lib.itoa i).toArray⟩ : ByteArray).size : Nat) : Int) = IntKind.i64.wrap (szI 3 i s n) by unfold szI; rw [if_neg (by omega), if_neg (by omega), if_pos rfl, IntKind.wrap_i64, ← size_len]; simp only []; omega)
        clear hlen
        go_enter Tryz.func104, Tryz.ntmps104
        go_wp2_with fail
        refine (Format_any i hi0 hi1 _ (HX.out.below (al_new w _))).mono ?_
        rintro e w1 ⟨rfl, hb⟩
        have HB := Lib.hid ((al_new w _).trans (hb.mono (by simp)))
        clear hb
        generalize (⟨(Lib.itoa i).toArray⟩ : ByteArray) = t at *
        go_wp2_with fail
        go_ret
        exact ⟨ret_int HE.out, HB.out⟩
      · have b3 : (k == 3) = false := beq_eq_false_iff_ne.2 h3
        by_cases h4 : k = 4
        · subst h4
          have hq := qtN_le s
          have HE := Lib.hid (show ((qtN s : Nat) : Int) = IntKind.i64.wrap (szI 4 i s n) by unfold szI; rw [if_neg (by omega), if_neg (by omega), if_neg (by omega), if_pos rfl, IntKind.wrap_i64]; omega)
          go_enter Tryz.func104, Tryz.ntmps104
          go_wp2_with fail
          refine (quoted_any s _ hs).mono ?_
          rintro e wq ⟨rfl, hq⟩
          obtain rfl := hq.symm
          go_wp2_with fail
          go_ret
          exact ⟨ret_int HE.out, al_new w _⟩
        · have b4 : (k == 4) = false := beq_eq_false_iff_ne.2 h4
          have w1 : IntKind.i64.wrap (n - 1) = n - 1 := by rw [IntKind.wrap_i64]; omega
          have hsz : szI k i s n = 2 + max 0 (n - 1) := by unfold szI; rw [if_neg h1, if_neg h2, if_neg h3, if_neg h4]
          by_cases hm : 0 < n - 1
          · have HE := Lib.hid (show wrap64 (2 + max 0 (n - 1)) = IntKind.i64.wrap (szI k i s n) by rw [hsz, IntWalk.i64_left])
            clear hsz
            go_enter Tryz.func104, Tryz.ntmps104
            go_wp2_with fail
            go_ret
            exact ⟨ret_int HE.out, al_new w _⟩
          · have HE := Lib.hid (show 2 + max 0 (n - 1) = IntKind.i64.wrap (szI k i s n) by rw [hsz, IntKind.wrap_i64]; omega)
            clear hsz
            go_enter Tryz.func104, Tryz.ntmps104
            go_wp2_with fail
            go_ret
            exact ⟨ret_int HE.out, al_new w _⟩
end Go.Proofs.YtbofclohnmojmaaGreatDoor
namespace Go.Proofs.YtbofclohnmojmaaGreatDoor
open Go.RowKit
open Go.Sort (grow)

def lenV : Value → Nat
  | .slice _ n _ => n
  | _ => 0
section
variable {w : World} {base : Nat} {e : TypeId} {sz n c g : Nat} {v : Value} {xs : List Value}
theorem own_at (h : w.ownsRow base e sz v n xs) (hn : 0 < n) : ∃ g c, v = .slice (some ⟨g, 0, none⟩) n c ∧ base ≤ g ∧ n ≤ c ∧ c ≤ maxLen ∧ g < w.heap.size ∧ (∀ j u, xs[j]? = some u → w.cell? ⟨g, j, none⟩ = some u) ∧ ∀ j, w.frozen? ⟨g, j, none⟩ = false := by
  rcases h.2 with ⟨-, h0⟩ | ⟨g, cap, cur, rfl, hb, hc, h1, h2, h3, h4⟩
  · omega
  · have hlt : g < w.heap.size := by
      rcases Nat.lt_or_ge g w.heap.size with hlt | hge
      · exact hlt
      · rw [Array.getElem?_eq_none hge] at hc; cases hc
    refine ⟨g, cap, rfl, hb, h1, h2, hlt, fun j u hu => ?_, fun j => ?_⟩
    · rw [cell_of_row w g j cur e (0, 0) hc]
      rw [← h4, List.getElem?_take] at hu
      split at hu
      · simpa using hu
      · cases hu
    · simp [World.frozen?, hc]
theorem own_store (h : w.ownsRow base e sz (.slice (some ⟨g, 0, none⟩) n c) n xs) (j : Nat) (u : Value) : (w.setCell ⟨g, j, none⟩ u).ownsRow base e sz (.slice (some ⟨g, 0, none⟩) n c) n (xs.set j u) := by
  refine ⟨by rw [List.length_set]; exact h.1, ?_⟩
  rcases h.2 with ⟨h0, -⟩ | ⟨g', cap, cur, e1, hb, hc, h1, h2, h3, h4⟩
  · cases h0
  · injection e1 with e1 e2 e3
    injection e1 with e1
    injection e1 with e1
    subst e1 e3
    refine .inr ⟨g, c, cur.setIfInBounds j u, rfl, hb, ?_, h1, h2, by simpa using h3, ?_⟩
    · have : Blk w g e cur := hc
      exact this.set_ j u
    · rw [Array.toList_setIfInBounds, ← h4, List.take_set]
theorem own_pre (h : w.ownsRow base e sz (.slice (some ⟨g, 0, none⟩) n c) n xs) {m : Nat} (hm : m ≤ n) : w.ownsRow base e sz (.slice (some ⟨g, 0, none⟩) m c) m (xs.take (m * sz)) := by
  have hms : m * sz ≤ n * sz := Nat.mul_le_mul_right sz hm
  refine ⟨by rw [List.length_take, h.1]; omega, ?_⟩
  rcases h.2 with ⟨h0, -⟩ | ⟨g', cap, cur, e1, hb, hc, h1, h2, h3, h4⟩
  · cases h0
  · injection e1 with e1 e2 e3
    injection e1 with e1
    injection e1 with e1
    subst e1 e3
    exact .inr ⟨g, c, cur, rfl, hb, hc, by omega, h2, h3, by rw [← h4, List.take_take, Nat.min_eq_left hms]⟩
theorem own_far (h : w.ownsRow base e sz v n xs) {p : Addr} (hp : ∀ q, v.ownBlock = some q → q ≠ p.block) (u : Value) : (w.setCell p u).ownsRow base e sz v n xs := by
  refine ⟨h.1, ?_⟩
  rcases h.2 with h0 | ⟨g', cap, cur, rfl, hb, hc, h1, h2, h3, h4⟩
  · exact .inl h0
  · exact .inr ⟨g', cap, cur, rfl, hb, (Below.heap_setCell w p u g' (hp g' rfl)).trans hc, h1, h2, h3, h4⟩
theorem own_ge (h : w.ownsRow base e sz v n xs) : ∀ q, v.ownBlock = some q → base ≤ q := by
  intro q hq
  rcases h.2 with ⟨rfl, _⟩ | ⟨g, cap, cur, rfl, hb, _⟩
  · cases hq
  · have hq : g = q := Option.some.inj hq
    omega
end
theorem flat_set {α : Type} {f : α → List Value} {k : Nat} (hf : ∀ x, (f x).length = k) {x' : α} {j : Nat} {u : Value} (hj : j < k) : ∀ (l : List α) (i : Nat) (x : α), l[i]? = some x → f x' = (f x).set j u → (l.flatMap f).set (i * k + j) u = (l.set i x').flatMap f
  | [], i, x, h, _ => by simp at h
  | y :: l, 0, x, h, hx => by
    simp at h
    subst h
    rw [List.set_cons_zero, List.flatMap_cons, List.flatMap_cons, hx, Nat.zero_mul, Nat.zero_add, List.set_append_left _ _ (by rw [hf]; exact hj)]
  | y :: l, i + 1, x, h, hx => by
    rw [List.set_cons_succ, List.flatMap_cons, List.flatMap_cons, List.set_append_right _ _ (by rw [hf, Nat.add_mul]; omega), hf, show (i + 1) * k + j - k = i * k + j by rw [Nat.add_mul]; omega, flat_set hf hj l i x (by simpa using h) hx]
theorem flat_take {α : Type} {f : α → List Value} {k : Nat} (hf : ∀ x, (f x).length = k) : ∀ (l : List α) (m : Nat), (l.flatMap f).take (m * k) = (l.take m).flatMap f
  | [], m => by simp
  | y :: l, 0 => by simp
  | y :: l, m + 1 => by
    rw [List.take_succ_cons, List.flatMap_cons, List.flatMap_cons, List.take_append, hf, List.take_of_length_le (by rw [hf, Nat.add_mul]; omega), show (m + 1) * k - k = m * k by rw [Nat.add_mul]; omega, flat_take hf l m]

/-! ### the stack -/
structure Opn where
  p : Bool
  l : Int
  k : Bool
  la : ByteArray
  st : Bool
def Opn.cells (o : Opn) : List Value := [.bool o.p, .int .i64 o.l, .bool o.k, .string o.la, .bool o.st]
theorem Opn.len (o : Opn) : o.cells.length = 5 := rfl
/-- A stack, its top first. -/
def OwnO (w : World) (base : Nat) (v : Value) (st : List Opn) : Prop := w.ownsRow base 138 5 v st.length (st.reverse.flatMap Opn.cells)
theorem OwnO.nil (w : World) (base : Nat) : OwnO w base (.slice none 0 0) [] := own_nil w base _ _
theorem OwnO.on {w w' : World} {base : Nat} {v : Value} {st : List Opn} (h : OwnO w base v st) (hb : Below w.heap.size w w') : OwnO w' base v st := own_below h hb
theorem OwnO.top {w : World} {base : Nat} {v : Value} {o : Opn} {r : List Opn} (h : OwnO w base v (o :: r)) :
    ∃ g c, v = .slice (some ⟨g, 0, none⟩) (r.length + 1) c ∧ base ≤ g ∧ r.length + 1 ≤ c ∧ c ≤ 9223372036854775807 ∧ g < w.heap.size ∧
      (w.cell? ⟨g, r.length * 5, none⟩ = some (.bool o.p) ∧ w.cell? ⟨g, r.length * 5 + 1, none⟩ = some (.int .i64 o.l) ∧ w.cell? ⟨g, r.length * 5 + 2, none⟩ = some (.bool o.k) ∧ w.cell? ⟨g, r.length * 5 + 3, none⟩ = some (.string o.la) ∧ w.cell? ⟨g, r.length * 5 + 4, none⟩ = some (.bool o.st)) ∧
      ∀ j, w.frozen? ⟨g, j, none⟩ = false := by
  obtain ⟨g, c, e, hb, hc, hm, hg, hcell, hf⟩ := own_at h (Nat.succ_pos _)
  have hat : ∀ j u, o.cells[j]? = some u → w.cell? ⟨g, r.length * 5 + j, none⟩ = some u := fun j u hu => by
    refine hcell _ _ ?_
    have hj : j < 5 := (List.getElem?_eq_some_iff.1 hu).1
    rw [flat_get Opn.len (o :: r).reverse r.length j o (by rw [List.reverse_cons, List.getElem?_append_right (by simp), List.length_reverse, Nat.sub_self]; rfl) hj]
    exact hu
  exact ⟨g, c, e, hb, hc, hm, hg, ⟨hat 0 _ rfl, hat 1 _ rfl, hat 2 _ rfl, hat 3 _ rfl, hat 4 _ rfl⟩, hf⟩
theorem OwnO.set {w : World} {base g c : Nat} {o o' : Opn} {r : List Opn} (h : OwnO w base (.slice (some ⟨g, 0, none⟩) (r.length + 1) c) (o :: r)) {j : Nat} (hj : j < 5) {u : Value} (hu : o'.cells = o.cells.set j u) :
    OwnO (w.setCell ⟨g, r.length * 5 + j, none⟩ u) base (.slice (some ⟨g, 0, none⟩) (r.length + 1) c) (o' :: r) := by
  have h2 := own_store h (r.length * 5 + j) u
  rw [flat_set Opn.len hj (o :: r).reverse r.length o (by rw [List.reverse_cons, List.getElem?_append_right (by simp), List.length_reverse, Nat.sub_self]; rfl) hu] at h2
  unfold OwnO
  have e : (o :: r).reverse.set r.length o' = (o' :: r).reverse := by rw [List.reverse_cons, List.reverse_cons, List.set_append_right _ _ (by simp)]; simp
  rw [e] at h2
  exact h2
theorem OwnO.pop {w : World} {base g c : Nat} {o : Opn} {r : List Opn} (h : OwnO w base (.slice (some ⟨g, 0, none⟩) (r.length + 1) c) (o :: r)) : OwnO w base (.slice (some ⟨g, 0, none⟩) r.length c) r := by
  have h2 := own_pre h (show r.length ≤ r.length + 1 by omega)
  rw [flat_take Opn.len, List.reverse_cons, List.take_append_of_le_length (by simp), List.take_of_length_le (by simp)] at h2
  exact h2
/-- closed. -/
def closeS : List Opn → List Opn
  | [] => []
  | o :: r => if 1 < o.l then { o with l := o.l - 1, k := o.p } :: r else closeS r
def okS (st : List Opn) : Prop := ∀ o ∈ st, 1 ≤ o.l ∧ o.l ≤ 9223372036854775807
theorem closeS_go {o : Opn} {r : List Opn} (h : 1 < o.l) : closeS (o :: r) = { o with l := o.l - 1, k := o.p } :: r := by rw [closeS, if_pos h]
theorem closeS_pop {o : Opn} {r : List Opn} (h : ¬ 1 < o.l) : closeS (o :: r) = closeS r := by rw [closeS, if_neg h]
theorem closeS_ok : ∀ {st : List Opn}, okS st → okS (closeS st)
  | [], h => h
  | o :: r, h => by
    unfold closeS
    split
    · intro x hx
      rcases List.mem_cons.1 hx with rfl | hx
      · have := h o (by simp); simp only []; omega
      · exact h x (by simp [hx])
    · exact closeS_ok fun x hx => h x (by simp [hx])
/-- What closed leaves. -/
def ClPost (w : World) (base : Nat) (st : List Opn) (e : Ending) (w' : World) : Prop := ∃ v', e = .returned v' ∧ OwnO w' base v' (closeS st) ∧ Below base w w'
set_option maxHeartbeats 2000000 in
theorem closed_any (v : Value) (base : Nat) (st : List Opn) (w : World) (h : OwnO w base v st) (hok : okS st) : Calls Tryz.prog 105 #[v] w (ClPost w base st) := by
  have HO := Lib.hid h
  have HK := Lib.hid hok
  clear h hok
  obtain ⟨A0, c0, rfl⟩ := own_slice HO.out
  go_enter Tryz.func105, Tryz.ntmps105
  go_wp2_with fail
  go_loopw [0, 3] (fun v0 _ wr => ∃ s' : List Opn, OwnO wr base v0 s' ∧ okS s' ∧ closeS s' = closeS st ∧ Below base w wr) (fun v0 _ _ => lenV v0)
  case atStart => exact ⟨st, HO.out, HK.out, rfl, Below.refl _ _⟩
  case round =>
    clear HO HK
    obtain ⟨s', hown, hok, hcl, hb⟩ := hrel
    have HB := Lib.hid hb
    have HC := Lib.hid hcl
    have HK := Lib.hid hok
    clear hb hcl hok
    cases s' with
    | nil =>
      have HV := Lib.hid hown
      obtain ⟨A1, c1, rfl⟩ := own_slice hown
      clear hown
      simp only [List.length_nil]
      go_wp2_with fail
      go_ret
      exact ⟨_, rfl, by rw [← HC.out]; exact HV.out, HB.out⟩
    | cons o r =>
      have hbd := HK.out o (by simp)
      obtain ⟨g, c, rfl, hg, hc, hcm, hgl, ⟨q0, q1, q2, q3, q4⟩, hf⟩ := hown.top
      obtain ⟨N, hN⟩ : ∃ N, N = r.length := ⟨_, rfl⟩
      have HV := Lib.hid hown
      have f1 := hf (r.length * 5 + 1)
      have f2 := hf (r.length * 5 + 2)
      rw [← hN] at HV q0 q1 q2 q3 q4 f1 f2 hc ⊢
      have HN := Lib.hid hN
      clear hown hf hN
      have wN : wrap64 (N : Int) = N := by rw [← IntWalk.i64_left, IntKind.wrap_i64]; omega
      have wN2 : IntKind.i64.wrap (N : Int) = N := by rw [IntKind.wrap_i64]; omega
      have wo : wrap64 (o.l - 1) = o.l - 1 := by rw [← IntWalk.i64_left, IntKind.wrap_i64]; omega
      have w1 : IntKind.i64.wrap (o.l - 1) = o.l - 1 := by rw [IntKind.wrap_i64]; omega
      have hNi : (N : Int) < (N : Int) + 1 := by omega
      have hN0 : (0 : Int) ≤ N := by omega
      have t1 : (0 : Int) < (N : Int) + 1 := by omega
      have hcN : N ≤ c := by omega
      by_cases hl : 1 < o.l
      · have t2 : 0 < o.l - 1 := by omega
        have t2b : decide (0 < o.l - 1) = true := decide_eq_true t2
        go_wp2_with fail
        have hN := HN.out
        subst hN
        go_ret
        refine ⟨_, rfl, ?_, (HB.out.setCell (by simpa using hg) _).setCell (by simpa using hg) _⟩
        rw [← HC.out, closeS_go hl]
        exact (HV.out.set (o' := { o with l := o.l - 1 }) (j := 1) (by omega) rfl).set (o' := { o with l := o.l - 1, k := o.p }) (j := 2) (by omega) rfl
      · have t2 : ¬ 0 < o.l - 1 := by omega
        have t2b : decide (0 < o.l - 1) = false := decide_eq_false t2
        have hc0 : c ≠ 0 := by omega
        go_wp2_with fail
        have hN := HN.out
        subst hN
        have h2 := (HV.out.set (o' := { o with l := o.l - 1 }) (j := 1) (by omega) rfl).pop
        go_roundw
        case rel => exact ⟨r, h2, fun x hx => HK.out x (by simp [hx]), by rw [← HC.out, closeS_pop hl], HB.out.setCell (by simpa using hg) _⟩
        case measure => simp only [lenV]; omega
end Go.Proofs.YtbofclohnmojmaaGreatDoor
namespace Go.Proofs.YtbofclohnmojmaaGreatDoor
open Go.RowKit
open Go.Sort (grow)

theorem w64 {x : Int} (h1 : -9223372036854775808 ≤ x) (h2 : x ≤ 9223372036854775807) : IntKind.i64.wrap x = x ∧ wrap64 x = x := by
  have h : IntKind.i64.wrap x = x := by rw [IntKind.wrap_i64]; omega
  exact ⟨h, by rw [← IntWalk.i64_left]; exact h⟩
theorem w64n {m : Nat} (h : m ≤ 9223372036854775807) : IntKind.i64.wrap (m : Int) = m ∧ wrap64 (m : Int) = m := w64 (by omega) (by omega)
theorem bndB_iff (n : Int) : bndB n = true ↔ -1000000000000 ≤ n ∧ n ≤ 1000000000000 := by simp [bndB]
theorem Valid_any (n : Int) (w : World) : Calls Tryz.prog 93 #[.int .i64 n] w fun e w' => e = .returned (.bool (bndB n)) ∧ w' = w := by
  by_cases h1 : -1000000000000 ≤ n
  · by_cases h2 : n ≤ 1000000000000
    · have HE := Lib.hid (show true = bndB n from ((bndB_iff n).2 ⟨h1, h2⟩).symm)
      have d1 : decide (-1000000000000 ≤ n) = true := decide_eq_true h1
      have d2 : decide (n ≤ 1000000000000) = true := decide_eq_true h2
      go_enter Tryz.func93, Tryz.ntmps93
      go_wp2_with fail
      go_ret
      exact ⟨ret_bool HE.out, rfl⟩
    · have HE := Lib.hid (show false = bndB n by cases h : bndB n; · rfl
                                                 · exact absurd ((bndB_iff n).1 h).2 h2)
      have d1 : decide (-1000000000000 ≤ n) = true := decide_eq_true h1
      have d2 : decide (n ≤ 1000000000000) = false := decide_eq_false h2
      go_enter Tryz.func93, Tryz.ntmps93
      go_wp2_with fail
      go_ret
      exact ⟨ret_bool HE.out, rfl⟩
  · have HE := Lib.hid (show false = bndB n by cases h : bndB n; · rfl
                                               · exact absurd ((bndB_iff n).1 h).1 h1)
    have d1 : decide (-1000000000000 ≤ n) = false := decide_eq_false h1
    go_enter Tryz.func93, Tryz.ntmps93
    go_wp2_with fail
    go_ret
    exact ⟨ret_bool HE.out, rfl⟩

/-! ### what look computes -/
structure Shp where
  d : Int
  b : Int
  o : Bool
  l : Bool
def Shp.arr (s : Shp) : Array Value := #[.int .i64 s.d, .int .i64 s.b, .bool s.o, .bool s.l]
def leB (a b : ByteArray) : Bool := Op.bytesLess a.toList b.toList || a.toList == b.toList
def keyS (f : Int → Int) (c : Cel) (s : Shp) : Shp := ⟨s.d, f (s.b + ((qtN c.s : Nat) + 1)), s.o, s.l || decide (200 < c.s.size)⟩
def valS (f : Int → Int) (c : Cel) (h : Nat) (s : Shp) : Shp := ⟨max s.d ((h : Int) + 1), f (s.b + f c.sz), s.o || (decide (c.k = 3) && !bndB c.i), s.l || decide (200 < c.s.size)⟩
def pushO (c : Cel) : Opn := ⟨decide (c.k = 6), c.n, decide (c.k = 6), ⟨#[]⟩, false⟩
/-- What is added is wrapped by f: 'id' reckons exactly, 'IntKind.i64.wrap' as the program does. A complete value or the beginning of a list or map: what follows. -/
def lkV (f : Int → Int) (N : Nat) (F : List Opn → Shp → Option (Nat × Shp)) (i : Nat) (c : Cel) (st : List Opn) (s : Shp) : Option (Nat × Shp) :=
  if 0 < c.n then (if (N : Int) < c.n then none else F (pushO c :: st) (valS f c st.length s))
  else match closeS st with
    | [] => some (i + 1, valS f c st.length s)
    | o :: r => F (o :: r) (valS f c st.length s)
def lkS (f : Int → Int) (N : Nat) : List Cel → Nat → List Opn → Shp → Option (Nat × Shp)
  | [], _, _, _ => none
  | c :: l, i, st, s =>
    if c.pl = false then none else match st with
    | [] => lkV f N (lkS f N l (i + 1)) i c [] s
    | o :: r => if o.k = true then
        (if c.k ≠ 4 ∨ (o.st = true ∧ leB c.s o.la = true) then none else lkS f N l (i + 1) ({ o with la := c.s, st := true, k := false } :: r) (keyS f c s))
      else lkV f N (lkS f N l (i + 1)) i c (o :: r) s
theorem lk_bad {f : Int → Int} {N i : Nat} {c : Cel} {l : List Cel} {st : List Opn} {s : Shp} (h : c.pl = false) : lkS f N (c :: l) i st s = none := by
  unfold lkS; rw [if_pos h]
theorem lk_key0 {f : Int → Int} {N i : Nat} {c : Cel} {l : List Cel} {o : Opn} {r : List Opn} {s : Shp} (h : c.pl = true) (hk : o.k = true) (hb : c.k ≠ 4 ∨ (o.st = true ∧ leB c.s o.la = true)) : lkS f N (c :: l) i (o :: r) s = none := by
  unfold lkS; rw [if_neg (by rw [h]; decide)]; simp only []; rw [if_pos hk, if_pos hb]
theorem lk_key {f : Int → Int} {N i : Nat} {c : Cel} {l : List Cel} {o : Opn} {r : List Opn} {s : Shp} (h : c.pl = true) (hk : o.k = true) (hb : ¬ (c.k ≠ 4 ∨ (o.st = true ∧ leB c.s o.la = true))) : lkS f N (c :: l) i (o :: r) s = lkS f N l (i + 1) ({ o with la := c.s, st := true, k := false } :: r) (keyS f c s) := by
  conv => lhs; unfold lkS
  rw [if_neg (by rw [h]; decide)]; simp only []; rw [if_pos hk, if_neg hb]
/-- No key is awaited. -/
def noKey : List Opn → Prop
  | [] => True
  | o :: _ => o.k = false
theorem lk_val {f : Int → Int} {N i : Nat} {c : Cel} {l : List Cel} {st : List Opn} {s : Shp} (h : c.pl = true) (hk : noKey st) : lkS f N (c :: l) i st s = lkV f N (lkS f N l (i + 1)) i c st s := by
  cases st with
  | nil => conv => lhs; unfold lkS
           rw [if_neg (by rw [h]; decide)]
  | cons o r =>
    conv => lhs; unfold lkS
    rw [if_neg (by rw [h]; decide)]; simp only []; rw [if_neg (by rw [show o.k = false from hk]; decide)]
theorem lkV_far {f : Int → Int} {N i : Nat} {F : List Opn → Shp → Option (Nat × Shp)} {c : Cel} {st : List Opn} {s : Shp} (h : 0 < c.n) (h2 : (N : Int) < c.n) : lkV f N F i c st s = none := by
  unfold lkV; rw [if_pos h, if_pos h2]
theorem lkV_push {f : Int → Int} {N i : Nat} {F : List Opn → Shp → Option (Nat × Shp)} {c : Cel} {st : List Opn} {s : Shp} (h : 0 < c.n) (h2 : ¬ (N : Int) < c.n) : lkV f N F i c st s = F (pushO c :: st) (valS f c st.length s) := by
  unfold lkV; rw [if_pos h, if_neg h2]
theorem lkV_end {f : Int → Int} {N i : Nat} {F : List Opn → Shp → Option (Nat × Shp)} {c : Cel} {st : List Opn} {s : Shp} (h : ¬ 0 < c.n) (h2 : closeS st = []) : lkV f N F i c st s = some (i + 1, valS f c st.length s) := by
  unfold lkV; rw [if_neg h, h2]
theorem lkV_more {f : Int → Int} {N i : Nat} {F : List Opn → Shp → Option (Nat × Shp)} {c : Cel} {st : List Opn} {s : Shp} (h : ¬ 0 < c.n) (h2 : closeS st ≠ []) : lkV f N F i c st s = F (closeS st) (valS f c st.length s) := by
  unfold lkV; rw [if_neg h]
  cases hc : closeS st with
  | nil => exact absurd hc h2
  | cons o r => rfl

/-! ### cells in memory -/
theorem Cel.len (c : Cel) : c.cells.length = 4 := rfl
/-- A list of cells in memory. -/
def CelL (w : World) (B : Nat) (A : Option Addr) (l : List Cel) : Prop := Reads w B 4 A l.length (l.flatMap Cel.cells)
theorem CelL.cell {w : World} {B : Nat} {A : Option Addr} {l : List Cel} (h : CelL w B A l) {k : Nat} {c : Cel} (hk : l[k]? = some c) :
    ∃ b o, A = some ⟨b, o, none⟩ ∧ b < B ∧ (w.cell? ⟨b, o + k * 4, none⟩ = some (.int .i64 c.k) ∧ w.cell? ⟨b, o + k * 4 + 1, none⟩ = some (.int .i64 c.i) ∧ w.cell? ⟨b, o + k * 4 + 2, none⟩ = some (.string c.s) ∧ w.cell? ⟨b, o + k * 4 + 3, none⟩ = some (.int .i64 c.n)) := by
  obtain ⟨b, o, e, hb, hc⟩ := Reads.elem Cel.len h hk
  exact ⟨b, o, e, hb, hc 0 _ rfl, hc 1 _ rfl, hc 2 _ rfl, hc 3 _ rfl⟩
theorem CelL.on {w w' : World} {A : Option Addr} {l : List Cel} (h : CelL w w.heap.size A l) (hb : Below w.heap.size w w') : CelL w' w'.heap.size A l := (Reads.below h hb).more hb.size
theorem CelL.keep {w w' : World} {B : Nat} {A : Option Addr} {l : List Cel} (h : CelL w B A l) (hb : Below B w w') : CelL w' B A l := Reads.below h hb
/-- Numbers and strings within their bounds. -/
def okC (c : Cel) : Prop := (-9223372036854775808 ≤ c.i ∧ c.i ≤ 9223372036854775807) ∧ (-9223372036854775808 ≤ c.n ∧ c.n ≤ 9223372036854775807) ∧ c.s.size ≤ 140737488351232
theorem pl_kind {c : Cel} (h : c.pl = true) : (c.k = 2 → c.i = 0 ∨ c.i = 1) ∧ (0 ≤ c.n) := by
  unfold Cel.pl plI at h
  by_cases h1 : c.k = 1
  · rw [if_pos h1] at h; simp at h; omega
  by_cases h2 : c.k = 2
  · rw [if_neg h1, if_pos h2] at h; simp at h; omega
  by_cases h3 : c.k = 3
  · rw [if_neg h1, if_neg h2, if_pos h3] at h; simp at h; omega
  by_cases h4 : c.k = 4
  · rw [if_neg h1, if_neg h2, if_neg h3, if_pos h4] at h; simp at h; omega
  by_cases h5 : c.k = 5 ∨ c.k = 6
  · rw [if_neg h1, if_neg h2, if_neg h3, if_neg h4, if_pos h5] at h; simp at h; omega
  · rw [if_neg h1, if_neg h2, if_neg h3, if_neg h4, if_neg h5] at h; cases h
theorem sz_bd {c : Cel} (hok : okC c) (h : c.pl = true) : 0 ≤ c.sz ∧ c.sz ≤ 562949953421312 + c.n := by
  obtain ⟨h1, h2⟩ := pl_kind h
  have hq := qtN_le c.s
  have hs := hok.2.2
  have hl := Lib.itoa_length_le c.i hok.1.1 hok.1.2
  unfold Cel.sz szI
  split
  · omega
  · split
    · rename_i hk; have := h1 hk; omega
    · split
      · omega
      · split <;> omega
def keyB : List Opn → Bool
  | [] => false
  | o :: _ => o.k
theorem noKey_of {st : List Opn} (h : keyB st = false) : noKey st := by
  cases st with
  | nil => trivial
  | cons o r => exact h
theorem key_cons {st : List Opn} (h : keyB st = true) : ∃ o r, st = o :: r ∧ o.k = true := by
  cases st with
  | nil => cases h
  | cons o r => exact ⟨o, r, rfl, h⟩
def badK (c : Cel) (o : Opn) : Bool := decide (c.k ≠ 4) || (o.st && leB c.s o.la)
theorem badK_iff (c : Cel) (o : Opn) : badK c o = true ↔ (c.k ≠ 4 ∨ (o.st = true ∧ leB c.s o.la = true)) := by simp [badK]
theorem below_set4 {B : Nat} {a w : World} (h : Below B a w) {g : Nat} (hg : B ≤ g) (x0 x1 x2 x3 : Value) : Below B a ((((w.setCell ⟨g, 0, none⟩ x0).setCell ⟨g, 1, none⟩ x1).setCell ⟨g, 2, none⟩ x2).setCell ⟨g, 3, none⟩ x3) :=
  (((h.setCell hg x0).setCell hg x1).setCell hg x2).setCell hg x3
def okO (o : Opn) : Prop := 1 ≤ o.l ∧ o.l ≤ 9223372036854775807
theorem infoO : (Tryz.prog.info? 138).map (fun i => (i.zero, i.size, i.bytes)) = some (some (.agg #[.bool false, .int .i64 0, .bool false, .string ⟨#[]⟩, .bool false]), 5, 48) := by kernel_rfl
theorem info_partsO {t : TypeId} {z : Option Value} {a b : Nat} (h : (Tryz.prog.info? t).map (fun i => (i.zero, i.size, i.bytes)) = some (z, a, b)) : ∃ i, Tryz.prog.info? t = some i ∧ i.zero = z ∧ i.size = a ∧ i.bytes = b := by
  cases hi : Tryz.prog.info? t with
  | none => rw [hi] at h; cases h
  | some i => rw [hi] at h; injection h with h; injection h with h1 h; injection h with h2 h3; exact ⟨i, rfl, h1, h2, h3⟩
theorem oneO (a : Bool) (b : Int) (c : Bool) (d : ByteArray) (e : Bool) : ∀ u ∈ ([.bool a, .int .i64 b, .bool c, .string d, .bool e] : List Value), u.oneCell' = true := by
  intro u hu
  simp at hu
  rcases hu with rfl | rfl | rfl | rfl | rfl <;> rfl
theorem bdO {m : Nat} (h : m ≤ 3518437208780) : m + 1 ≤ maxLen ∧ ((m + 1) + (m + 1) / 4 + 192) * 48 ≤ 281474976710656 := by simp only [maxLen]; omega
theorem bd_d {d x : Int} {k m : Nat} (h : 0 ≤ d ∧ d ≤ (k : Int) + 1) (h2 : max d ((m : Int) + 1) = x) (hm : m ≤ k) : 0 ≤ x ∧ x ≤ ((k + 1 : Nat) : Int) + 1 := by omega
theorem closeS_len : ∀ st : List Opn, (closeS st).length ≤ st.length
  | [] => Nat.le_refl _
  | o :: r => by
    unfold closeS
    split
    · exact Nat.le_refl _
    · exact Nat.le_trans (closeS_len r) (by simp)
theorem meas_lt {N k : Nat} (h : k < N) : N - (intOf (Value.int .i64 ((k : Int) + 1))).toNat < N - (intOf (Value.int .i64 (k : Int))).toNat := by
  simp [intOf]; omega
theorem run_buildO (a : Bool) (b : Int) (c : Bool) (W : World) : (Instr.build 138 #[(0, .bool a), (1, .int .i64 b), (2, .bool c)]).run Tryz.prog W = .ok (.agg #[.bool a, .int .i64 b, .bool c, .string ⟨#[]⟩, .bool false]) W := run_build W _ _ _ (by kernel_rfl)
/-- What look leaves. -/
def LkPost (w : World) (R : Option (Nat × Shp)) (e : Ending) (w' : World) : Prop := Below w.heap.size w w' ∧ match R with
  | none => ∃ s : Shp, e = .returned (.tuple #[.int .i64 0, .agg #[.int .i64 s.d, .int .i64 s.b, .bool s.o, .bool s.l], .bool false])
  | some (n, s) => e = .returned (.tuple #[.int .i64 (n : Nat), .agg #[.int .i64 s.d, .int .i64 s.b, .bool s.o, .bool s.l], .bool true])
theorem drop_cons {α : Type} {l : List α} {k : Nat} {c : α} (h : l[k]? = some c) : l.drop k = c :: l.drop (k + 1) := by
  obtain ⟨hk, e⟩ := List.getElem?_eq_some_iff.1 h
  rw [List.drop_eq_getElem_cons hk, e]
end Go.Proofs.YtbofclohnmojmaaGreatDoor
namespace Go.Proofs.YtbofclohnmojmaaGreatDoor
open Go.RowKit
open Go.Sort (grow)

/-- An event; where its body lies. -/
structure Ev where
  id : ByteArray
  tn : ByteArray
  src : ByteArray
  key : ByteArray
  at_ : Int
  cause : ByteArray
  A : Option Addr
  cp : Nat
  body : List Cel
def Ev.cells (e : Ev) : List Value := [.string e.id, .string e.tn, .string e.src, .string e.key, .int .i64 e.at_, .string e.cause, .slice e.A e.body.length e.cp]
theorem Ev.len (e : Ev) : e.cells.length = 7 := rfl
theorem Ev.one (e : Ev) : ∀ u ∈ e.cells, u.oneCell' = true := by intro u hu; simp [Ev.cells] at hu; rcases hu with rfl | rfl | rfl | rfl | rfl | rfl | rfl <;> rfl
/-- A waiting event. -/
structure En where
  ev : Ev
  vis : Int
  rcv : Int
  held : Bool
  arr : Int
def En.cells (x : En) : List Value := [.string x.ev.id, .string x.ev.tn, .string x.ev.src, .string x.ev.key, .int .i64 x.ev.at_, .string x.ev.cause, .slice x.ev.A x.ev.body.length x.ev.cp, .int .i64 x.vis, .int .i64 x.rcv, .bool x.held, .int .i64 x.arr]
theorem En.len (x : En) : x.cells.length = 11 := rfl
theorem En.one (x : En) : ∀ u ∈ x.cells, u.oneCell' = true := by intro u hu; simp [En.cells] at hu; rcases hu with rfl | rfl | rfl | rfl | rfl | rfl | rfl | rfl | rfl | rfl | rfl <;> rfl
theorem Cel.one (c : Cel) : ∀ u ∈ c.cells, u.oneCell' = true := by intro u hu; simp [Cel.cells] at hu; rcases hu with rfl | rfl | rfl | rfl <;> rfl
/-- The reference's waiting event. -/
def En.rcells (x : En) : List Value := [.string x.ev.id, .string x.ev.tn, .string x.ev.src, .string x.ev.key, .int .i64 x.ev.at_, .string x.ev.cause, .slice x.ev.A x.ev.body.length x.ev.cp, .int .i64 x.vis, .int .i64 x.rcv, .bool x.held]
theorem En.rlen (x : En) : x.rcells.length = 10 := rfl
theorem En.rone (x : En) : ∀ u ∈ x.rcells, u.oneCell' = true := by intro u hu; simp [En.rcells] at hu; rcases hu with rfl | rfl | rfl | rfl | rfl | rfl | rfl | rfl | rfl | rfl <;> rfl
def zeroEv : Ev := ⟨⟨#[]⟩, ⟨#[]⟩, ⟨#[]⟩, ⟨#[]⟩, 0, ⟨#[]⟩, none, 0, []⟩
def zeroEn : En := ⟨zeroEv, 0, 0, false, 0⟩
theorem flat_one {α : Type} {f : α → List Value} (h : ∀ x, ∀ u ∈ f x, u.oneCell' = true) (l : List α) : ∀ u ∈ l.flatMap f, u.oneCell' = true := by
  intro u hu
  obtain ⟨x, _, hx⟩ := List.mem_flatMap.1 hu
  exact h x u hx
theorem flat_len {α : Type} {f : α → List Value} {k : Nat} (hf : ∀ x, (f x).length = k) : ∀ l : List α, (l.flatMap f).length = l.length * k
  | [] => by simp
  | x :: l => by rw [List.flatMap_cons, List.length_append, hf, flat_len hf l, List.length_cons, Nat.add_mul]; omega
/-- A body that lies below block B. -/
def EvIn (w : World) (B : Nat) (e : Ev) : Prop := CelL w B e.A e.body
theorem EvIn.keep {w w' : World} {B : Nat} {e : Ev} (h : EvIn w B e) (hb : Below B w w') : EvIn w' B e := CelL.keep h hb
theorem EvIn.on {w w' : World} {e : Ev} (h : EvIn w w.heap.size e) (hb : Below w.heap.size w w') : EvIn w' w'.heap.size e := CelL.on h hb
/-- A body of the call's own. -/
def EvQ (w : World) (B : Nat) (e : Ev) : Prop := w.ownsRow B 94 4 (.slice e.A e.body.length e.cp) e.body.length (e.body.flatMap Cel.cells)
theorem EvQ.inn {w : World} {B : Nat} {e : Ev} (h : EvQ w B e) : EvIn w w.heap.size e := Reads.of_own h
/-- None of the blocks of S holds cells of values. -/
def OffC (w : World) (S : Nat → Prop) : Prop := ∀ k, S k → ∀ cs m, w.heap[k]? ≠ some (.cells cs 94 m)
theorem EvQ.chg {S : Nat → Prop} {w w' : World} {B : Nat} {e : Ev} (h : EvQ w B e) (hc : Chg S w w') (hS : OffC w S) : EvQ w' B e :=
  hc.own h fun k hk hs => by
    obtain ⟨cs, hb⟩ := own_blk h hk
    exact hS k hs cs _ hb
theorem EvQ.below {w w' : World} {B : Nat} {e : Ev} (h : EvQ w B e) (hb : Below w.heap.size w w') : EvQ w' B e := h.chg (S := fun _ => False) (Chg.of_below hb) (fun _ h => h.elim)
theorem EvQ.base {w : World} {B B' : Nat} {e : Ev} (h : EvQ w B e) (hB : B' ≤ B) : EvQ w B' e := own_base h hB

/-! ### rows written in many cells -/
def layL (xs vs : List Value) (j : Nat) : List Value := xs.take j ++ vs ++ xs.drop (j + vs.length)
theorem layL_nil (xs : List Value) (j : Nat) : layL xs [] j = xs := by unfold layL; simp
theorem layL_cons (xs : List Value) (v : Value) (r : List Value) (j : Nat) (h : j < xs.length) : layL (xs.set j v) r (j + 1) = layL xs (v :: r) j := by
  unfold layL
  rw [List.take_set, List.drop_set, if_pos (by omega), List.take_add_one, List.getElem?_eq_getElem h, List.set_append_right _ _ (by simp; omega)]
  simp only [List.length_take, Nat.min_eq_left (Nat.le_of_lt h), Nat.sub_self, Option.toList, List.set_cons_zero, List.length_cons]
  rw [show j + 1 + r.length = j + (r.length + 1) by omega]
  simp
section
variable {w : World} {base : Nat} {e : TypeId} {sz n c g : Nat}
theorem own_lay : ∀ (vs xs : List Value) (w : World) (j : Nat), w.ownsRow base e sz (.slice (some ⟨g, 0, none⟩) n c) n xs → j + vs.length ≤ xs.length → (w.setCells g j vs).ownsRow base e sz (.slice (some ⟨g, 0, none⟩) n c) n (layL xs vs j)
  | [], xs, w, j, h, _ => by rw [layL_nil]; exact h
  | v :: r, xs, w, j, h, hj => by
    simp at hj
    rw [World.setCells, ← layL_cons xs v r j (by omega)]
    exact own_lay r (xs.set j v) _ (j + 1) (own_store h j v) (by simp; omega)
theorem flat_lay {α : Type} {f : α → List Value} {k : Nat} (hf : ∀ x, (f x).length = k) : ∀ (l : List α) (i : Nat) (x' : α), i < l.length → layL (l.flatMap f) (f x') (i * k) = (l.set i x').flatMap f
  | [], i, x', h => by simp at h
  | y :: l, 0, x', _ => by
    unfold layL
    rw [List.set_cons_zero, List.flatMap_cons, List.flatMap_cons, Nat.zero_mul, Nat.zero_add, hf, List.take_zero, List.drop_append, hf, Nat.sub_self, List.drop_of_length_le (by rw [hf]; exact Nat.le_refl _)]
    simp
  | y :: l, i + 1, x', h => by
    have ih := flat_lay hf l i x' (by simpa using h)
    unfold layL at ih ⊢
    rw [List.set_cons_succ, List.flatMap_cons, List.flatMap_cons, ← ih, hf, Nat.add_mul, Nat.one_mul, List.take_append, hf, List.take_of_length_le (by rw [hf]; omega), show i * k + k - k = i * k by omega, List.drop_append, hf, List.drop_of_length_le (by rw [hf]; omega), show i * k + k + k - k = i * k + k by omega]
    simp
theorem chg_setCells {S : Nat → Prop} {a : World} : ∀ (vs : List Value) (w : World) (j : Nat), Chg S a w → (g < a.heap.size → S g) → Chg S a (w.setCells g j vs)
  | [], w, j, h, _ => h
  | v :: r, w, j, h, hg => by
    rw [World.setCells]
    exact chg_setCells r _ (j + 1) (h.setCell (p := ⟨g, j, none⟩) hg v) hg
theorem size_setCells : ∀ (vs : List Value) (w : World) (j : Nat), (w.setCells g j vs).heap.size = w.heap.size
  | [], _, _ => rfl
  | v :: r, w, j => by rw [World.setCells, size_setCells r]; simp
/-- The cells of an element of an owned row, loaded whole. -/
theorem own_load {α : Type} {f : α → List Value} {k : Nat} (hf : ∀ x, (f x).length = k) {l : List α} (h : w.ownsRow base e k (.slice (some ⟨g, 0, none⟩) n c) n (l.flatMap f)) {i : Nat} {x : α} (hi : l[i]? = some x) (P : Program) :
    Sem.run P (loadCellsFrom ⟨g, i * k, none⟩ 0 k #[]) w = .ok (f x).toArray w := by
  refine run_loadCellsFrom_list P _ _ _ k (hf x) (fun j u hj => ?_)
  have hjk : j < k := by rw [← hf x]; exact (List.getElem?_eq_some_iff.1 hj).1
  have := World.ownsRow.cells h (g := g) rfl (i * k + j) u (by rw [flat_get hf l i j x hi hjk]; exact hj)
  rw [Addr.add_lit, Nat.zero_add] at this
  rw [Addr.add_lit]
  exact this
theorem own_st {α : Type} {f : α → List Value} {k : Nat} (hf : ∀ x, (f x).length = k) (h1 : ∀ x, ∀ u ∈ f x, u.oneCell' = true) {l : List α} (h : w.ownsRow base e k (.slice (some ⟨g, 0, none⟩) n c) n (l.flatMap f)) (hn : 0 < n) {i : Nat} (hi : i < l.length) (x' : α) (P : Program) :
    Sem.run P (storeCells ⟨g, i * k, none⟩ (f x') 0) w = .ok () (w.setCells g (i * k) (f x')) := by
  obtain ⟨g', c', e1, -, -, -, -, hc, hf'⟩ := own_at h hn
  injection e1 with e1 _ _
  injection e1 with e1
  injection e1 with e1
  subst e1
  have hb : i * k + k ≤ (l.flatMap f).length := by
    rw [flat_len hf]
    have := Nat.mul_le_mul_right k (show i + 1 ≤ l.length from hi)
    rwa [Nat.add_mul, Nat.one_mul] at this
  have := run_storeCells_cells (P := P) g (i * k) (f x') 0 w (fun j hj => by
    rw [hf] at hj
    rw [Nat.add_zero, hc (i * k + j) _ (List.getElem?_eq_getElem (by omega))]; rfl) (fun j _ => hf' _) (h1 x')
  rwa [Nat.add_zero] at this
end
end Go.Proofs.YtbofclohnmojmaaGreatDoor
namespace Go.Proofs.YtbofclohnmojmaaGreatDoor
open Go.RowKit
open Go.Sort (grow)

theorem info_cell : (Tryz.prog.info? 94).map (fun i => (i.zero, i.size, i.bytes)) = some (some (.agg #[.int .i64 0, .int .i64 0, .string ⟨#[]⟩, .int .i64 0]), 4, 40) := by kernel_rfl
set_option maxHeartbeats 1000000 in
theorem Clone_cell (A : Option Addr) (c : Nat) (l : List Cel) (w : World) (hl : Reads w w.heap.size 4 A l.length (l.flatMap Cel.cells)) (hn : l.length ≤ 3518437208780) :
    Calls Tryz.prog 71 #[.slice A l.length c] w fun e w' => ∃ A' c', e = .returned (.slice A' l.length c') ∧ w'.ownsRow w.heap.size 94 4 (.slice A' l.length c') l.length (l.flatMap Cel.cells) ∧ Below w.heap.size w w' := by
  have heq := fun n' c' wx => Lib.run_eql_slice_nil (P := Tryz.prog) wx 38 94 A l.length c n' c' Tryz.underlying38
  have H1 := Lib.hid (flat_one Cel.one l)
  cases A with
  | none =>
    have hl0 : l.length = 0 := by
      rcases Nat.eq_zero_or_pos l.length with h | h
      · exact h
      · obtain ⟨b, o, h, _⟩ := hl.2 h
        cases h
    have HL := Lib.hid hl0
    clear hl0
    go_enter Tryz.func71, Tryz.ntmps71
    go_wp2
    go_ret
    refine ⟨none, 0, ?_, ?_, Below.refl _ _⟩
    · rw [HL.out]; rfl
    · rw [HL.out, List.eq_nil_of_length_eq_zero HL.out]; exact own_nil _ _ _ _
  | some ad =>
    obtain ⟨i0, hi0, hz0, hz1, hz2⟩ := info_partsO info_cell
    go_enter Tryz.func71, Tryz.ntmps71
    go_wp2_with (at_builtin; refine wpList_append_any _ rfl (.tmp 5) (.tmp 6) 38 rfl w.heap.size 94 i0 _ 4 40 Tryz.underlying38 hi0 hz0 hz1 hz2 rfl (by omega) (.slice (some ⟨w.heap.size, 0, none⟩) 0 0) 0 [] rfl (World.ownsRow_made _ _ 0 (Nat.le_refl _) (Nat.zero_le _) rfl) w.heap.size (some ad) l.length c (l.flatMap Cel.cells) rfl (hl.below ((Below.refl _ _).alloc (Nat.le_refl _) _)) H1.out (by simp only [maxLen]; omega) (by omega) (by simp) ?_; intro v' w1 hown hgr hat)
    go_ret
    simp only [Nat.zero_add, List.nil_append] at hown
    have hb1 : Below w.heap.size w w1 := ((Below.refl _ _).alloc (Nat.le_refl _) _).grown hgr (by simp) (fun k hk => by simp [Value.ownBlock] at hk; omega)
    obtain ⟨A', c', rfl⟩ := own_slice hown
    exact ⟨A', c', rfl, hown, hb1⟩
theorem info_event : (Tryz.prog.info? 40).map (fun i => (i.zero, i.size, i.bytes)) = some (some (.agg #[.string ⟨#[]⟩, .string ⟨#[]⟩, .string ⟨#[]⟩, .string ⟨#[]⟩, .int .i64 0, .string ⟨#[]⟩, .slice none 0 0]), 7, 112) := by kernel_rfl
set_option maxHeartbeats 1000000 in
theorem Clone_event (A : Option Addr) (c : Nat) (l : List Ev) (w : World) (hl : Reads w w.heap.size 7 A l.length (l.flatMap Ev.cells)) (hn : l.length ≤ 1048576) :
    Calls Tryz.prog 42 #[.slice A l.length c] w fun e w' => ∃ A' c', e = .returned (.slice A' l.length c') ∧ w'.ownsRow w.heap.size 40 7 (.slice A' l.length c') l.length (l.flatMap Ev.cells) ∧ Below w.heap.size w w' := by
  have heq := fun n' c' wx => Lib.run_eql_slice_nil (P := Tryz.prog) wx 52 40 A l.length c n' c' Tryz.underlying52
  have H1 := Lib.hid (flat_one Ev.one l)
  cases A with
  | none =>
    have hl0 : l.length = 0 := by
      rcases Nat.eq_zero_or_pos l.length with h | h
      · exact h
      · obtain ⟨b, o, h, _⟩ := hl.2 h
        cases h
    have HL := Lib.hid hl0
    clear hl0
    go_enter Tryz.func42, Tryz.ntmps42
    go_wp2
    go_ret
    refine ⟨none, 0, ?_, ?_, Below.refl _ _⟩
    · rw [HL.out]; rfl
    · rw [HL.out, List.eq_nil_of_length_eq_zero HL.out]; exact own_nil _ _ _ _
  | some ad =>
    obtain ⟨i0, hi0, hz0, hz1, hz2⟩ := info_partsO info_event
    go_enter Tryz.func42, Tryz.ntmps42
    go_wp2_with (at_builtin; refine wpList_append_any _ rfl (.tmp 5) (.tmp 6) 52 rfl w.heap.size 40 i0 _ 7 112 Tryz.underlying52 hi0 hz0 hz1 hz2 rfl (by omega) (.slice (some ⟨w.heap.size, 0, none⟩) 0 0) 0 [] rfl (World.ownsRow_made _ _ 0 (Nat.le_refl _) (Nat.zero_le _) rfl) w.heap.size (some ad) l.length c (l.flatMap Ev.cells) rfl (hl.below ((Below.refl _ _).alloc (Nat.le_refl _) _)) H1.out (by simp only [maxLen]; omega) (by omega) (by simp) ?_; intro v' w1 hown hgr hat)
    go_ret
    simp only [Nat.zero_add, List.nil_append] at hown
    have hb1 : Below w.heap.size w w1 := ((Below.refl _ _).alloc (Nat.le_refl _) _).grown hgr (by simp) (fun k hk => by simp [Value.ownBlock] at hk; omega)
    obtain ⟨A', c', rfl⟩ := own_slice hown
    exact ⟨A', c', rfl, hown, hb1⟩
theorem info_entry : (Tryz.prog.info? 76).map (fun i => (i.zero, i.size, i.bytes)) = some (some (.agg #[.string ⟨#[]⟩, .string ⟨#[]⟩, .string ⟨#[]⟩, .string ⟨#[]⟩, .int .i64 0, .string ⟨#[]⟩, .slice none 0 0, .int .i64 0, .int .i64 0, .bool false, .int .i64 0]), 11, 144) := by kernel_rfl
set_option maxHeartbeats 1000000 in
theorem Clone_entry (A : Option Addr) (c : Nat) (l : List En) (w : World) (hl : Reads w w.heap.size 11 A l.length (l.flatMap En.cells)) (hn : l.length ≤ 1048576) :
    Calls Tryz.prog 41 #[.slice A l.length c] w fun e w' => ∃ A' c', e = .returned (.slice A' l.length c') ∧ w'.ownsRow w.heap.size 76 11 (.slice A' l.length c') l.length (l.flatMap En.cells) ∧ Below w.heap.size w w' := by
  have heq := fun n' c' wx => Lib.run_eql_slice_nil (P := Tryz.prog) wx 55 76 A l.length c n' c' Tryz.underlying55
  have H1 := Lib.hid (flat_one En.one l)
  cases A with
  | none =>
    have hl0 : l.length = 0 := by
      rcases Nat.eq_zero_or_pos l.length with h | h
      · exact h
      · obtain ⟨b, o, h, _⟩ := hl.2 h
        cases h
    have HL := Lib.hid hl0
    clear hl0
    go_enter Tryz.func41, Tryz.ntmps41
    go_wp2
    go_ret
    refine ⟨none, 0, ?_, ?_, Below.refl _ _⟩
    · rw [HL.out]; rfl
    · rw [HL.out, List.eq_nil_of_length_eq_zero HL.out]; exact own_nil _ _ _ _
  | some ad =>
    obtain ⟨i0, hi0, hz0, hz1, hz2⟩ := info_partsO info_entry
    go_enter Tryz.func41, Tryz.ntmps41
    go_wp2_with (at_builtin; refine wpList_append_any _ rfl (.tmp 5) (.tmp 6) 55 rfl w.heap.size 76 i0 _ 11 144 Tryz.underlying55 hi0 hz0 hz1 hz2 rfl (by omega) (.slice (some ⟨w.heap.size, 0, none⟩) 0 0) 0 [] rfl (World.ownsRow_made _ _ 0 (Nat.le_refl _) (Nat.zero_le _) rfl) w.heap.size (some ad) l.length c (l.flatMap En.cells) rfl (hl.below ((Below.refl _ _).alloc (Nat.le_refl _) _)) H1.out (by simp only [maxLen]; omega) (by omega) (by simp) ?_; intro v' w1 hown hgr hat)
    go_ret
    simp only [Nat.zero_add, List.nil_append] at hown
    have hb1 : Below w.heap.size w w1 := ((Below.refl _ _).alloc (Nat.le_refl _) _).grown hgr (by simp) (fun k hk => by simp [Value.ownBlock] at hk; omega)
    obtain ⟨A', c', rfl⟩ := own_slice hown
    exact ⟨A', c', rfl, hown, hb1⟩
def Ev.val (x : Ev) : Value := .agg #[.string x.id, .string x.tn, .string x.src, .string x.key, .int .i64 x.at_, .string x.cause, .slice x.A x.body.length x.cp]
/-- What own leaves: the same event with a body of its own. -/
def OwPost (w : World) (x : Ev) (e : Ending) (w' : World) : Prop := ∃ A' c', e = .returned ({ x with A := A', cp := c' } : Ev).val ∧ EvQ w' w.heap.size { x with A := A', cp := c' } ∧ Below w.heap.size w w'
theorem below_set7 {B : Nat} {w w1 : World} (h : Below B w w1) {H : Nat} (hH : B ≤ H) (x0 x1 x2 x3 x4 x5 x6 : Value) : Below B w (((((((w1.setCell ⟨H, 0, none⟩ x0).setCell ⟨H, 1, none⟩ x1).setCell ⟨H, 2, none⟩ x2).setCell ⟨H, 3, none⟩ x3).setCell ⟨H, 4, none⟩ x4).setCell ⟨H, 5, none⟩ x5).setCell ⟨H, 6, none⟩ x6) :=
  ((((((h.setCell (p := ⟨H, 0, none⟩) hH x0).setCell (p := ⟨H, 1, none⟩) hH x1).setCell (p := ⟨H, 2, none⟩) hH x2).setCell (p := ⟨H, 3, none⟩) hH x3).setCell (p := ⟨H, 4, none⟩) hH x4).setCell (p := ⟨H, 5, none⟩) hH x5).setCell (p := ⟨H, 6, none⟩) hH x6
theorem own_setCells7 {w w1 : World} {e : TypeId} {sz n : Nat} {v : Value} {xs : List Value} (h : w1.ownsRow (w.heap.size + 2) e sz v n xs) {x0 x1 x2 x3 x4 x5 x6 : Value} : (((((((w1.setCell ⟨w.heap.size + 1, 0, none⟩ x0).setCell ⟨w.heap.size + 1, 1, none⟩ x1).setCell ⟨w.heap.size + 1, 2, none⟩ x2).setCell ⟨w.heap.size + 1, 3, none⟩ x3).setCell ⟨w.heap.size + 1, 4, none⟩ x4).setCell ⟨w.heap.size + 1, 5, none⟩ x5).setCell ⟨w.heap.size + 1, 6, none⟩ x6).ownsRow w.heap.size e sz v n xs := by
  have hk : ∀ q, v.ownBlock = some q → q ≠ w.heap.size + 1 := fun q hq => by have := own_ge h q hq; omega
  exact own_base (own_far (own_far (own_far (own_far (own_far (own_far (own_far h hk _) hk _) hk _) hk _) hk _) hk _) hk _) (by omega)
set_option maxHeartbeats 2000000 in
theorem own_any (x : Ev) (w : World) (hx : EvIn w w.heap.size x) (hn : x.body.length ≤ 3518437208780) :
    Calls Tryz.prog 45 #[.agg #[.string x.id, .string x.tn, .string x.src, .string x.key, .int .i64 x.at_, .string x.cause, .slice x.A x.body.length x.cp]] w (OwPost w x) := by
  have HX := Lib.hid hx
  clear hx
  go_enter Tryz.func45, Tryz.ntmps45
  go_wp2_with fail
  refine (Clone_cell x.A x.cp x.body _ ((HX.out.keep (((Below.refl w.heap.size w).alloc (Nat.le_refl _) _).alloc (by simp) _)).more (by simp; omega)) hn).mono ?_
  rintro e w1 ⟨A', c', rfl, hown, hb⟩
  have b0 : Blk w1 w.heap.size 40 #[.string x.id, .string x.tn, .string x.src, .string x.key, .int .i64 x.at_, .string x.cause, .slice x.A x.body.length x.cp] := ((Blk.new w _ _).alloc _).on hb
  have b1 : Blk w1 (w.heap.size + 1) 40 #[.string ⟨#[]⟩, .string ⟨#[]⟩, .string ⟨#[]⟩, .string ⟨#[]⟩, .int .i64 0, .string ⟨#[]⟩, .slice none 0 0] := (Blk.new1 w _ _ _).on hb
  have HB := Lib.hid ((((Below.refl w.heap.size w).alloc (Nat.le_refl _) _).alloc (by simp) _).trans (hb.mono (by simp; omega)))
  have HO := Lib.hid hown
  have hz1 : w.heap.size + 2 ≤ w1.heap.size := by have := b1.lt; omega
  have hz2 : (((w.alloc (.cells #[.string x.id, .string x.tn, .string x.src, .string x.key, .int .i64 x.at_, .string x.cause, .slice x.A x.body.length x.cp] 40)).alloc (.cells #[.string ⟨#[]⟩, .string ⟨#[]⟩, .string ⟨#[]⟩, .string ⟨#[]⟩, .int .i64 0, .string ⟨#[]⟩, .slice none 0 0] 40)).heap.size) = w.heap.size + 2 := by simp
  rw [hz2] at HO
  clear hb hown hz2
  have q_b00 : w1.cell? ⟨w.heap.size, 0, none⟩ = some (.string x.id) := b0.cell 0
  have f_b00 : w1.frozen? ⟨w.heap.size, 0, none⟩ = false := b0.frozen 0
  have q_b01 : w1.cell? ⟨w.heap.size, 1, none⟩ = some (.string x.tn) := b0.cell 1
  have f_b01 : w1.frozen? ⟨w.heap.size, 1, none⟩ = false := b0.frozen 1
  have q_b02 : w1.cell? ⟨w.heap.size, 2, none⟩ = some (.string x.src) := b0.cell 2
  have f_b02 : w1.frozen? ⟨w.heap.size, 2, none⟩ = false := b0.frozen 2
  have q_b03 : w1.cell? ⟨w.heap.size, 3, none⟩ = some (.string x.key) := b0.cell 3
  have f_b03 : w1.frozen? ⟨w.heap.size, 3, none⟩ = false := b0.frozen 3
  have q_b04 : w1.cell? ⟨w.heap.size, 4, none⟩ = some (.int .i64 x.at_) := b0.cell 4
  have f_b04 : w1.frozen? ⟨w.heap.size, 4, none⟩ = false := b0.frozen 4
  have q_b05 : w1.cell? ⟨w.heap.size, 5, none⟩ = some (.string x.cause) := b0.cell 5
  have f_b05 : w1.frozen? ⟨w.heap.size, 5, none⟩ = false := b0.frozen 5
  have q_b06 : w1.cell? ⟨w.heap.size, 6, none⟩ = some (.slice x.A x.body.length x.cp) := b0.cell 6
  have f_b06 : w1.frozen? ⟨w.heap.size, 6, none⟩ = false := b0.frozen 6
  have q_b10 : w1.cell? ⟨w.heap.size + 1, 0, none⟩ = some (.string ⟨#[]⟩) := b1.cell 0
  have f_b10 : w1.frozen? ⟨w.heap.size + 1, 0, none⟩ = false := b1.frozen 0
  have q_b11 : w1.cell? ⟨w.heap.size + 1, 1, none⟩ = some (.string ⟨#[]⟩) := b1.cell 1
  have f_b11 : w1.frozen? ⟨w.heap.size + 1, 1, none⟩ = false := b1.frozen 1
  have q_b12 : w1.cell? ⟨w.heap.size + 1, 2, none⟩ = some (.string ⟨#[]⟩) := b1.cell 2
  have f_b12 : w1.frozen? ⟨w.heap.size + 1, 2, none⟩ = false := b1.frozen 2
  have q_b13 : w1.cell? ⟨w.heap.size + 1, 3, none⟩ = some (.string ⟨#[]⟩) := b1.cell 3
  have f_b13 : w1.frozen? ⟨w.heap.size + 1, 3, none⟩ = false := b1.frozen 3
  have q_b14 : w1.cell? ⟨w.heap.size + 1, 4, none⟩ = some (.int .i64 0) := b1.cell 4
  have f_b14 : w1.frozen? ⟨w.heap.size + 1, 4, none⟩ = false := b1.frozen 4
  have q_b15 : w1.cell? ⟨w.heap.size + 1, 5, none⟩ = some (.string ⟨#[]⟩) := b1.cell 5
  have f_b15 : w1.frozen? ⟨w.heap.size + 1, 5, none⟩ = false := b1.frozen 5
  have q_b16 : w1.cell? ⟨w.heap.size + 1, 6, none⟩ = some (.slice none 0 0) := b1.cell 6
  have f_b16 : w1.frozen? ⟨w.heap.size + 1, 6, none⟩ = false := b1.frozen 6
  go_wp2_with fail
  refine bodyPost_ret (v := .agg #[.string x.id, .string x.tn, .string x.src, .string x.key, .int .i64 x.at_, .string x.cause, .slice A' x.body.length c']) (by simp [results, Tryz.results45, go_sem, q_b10, q_b11, q_b12, q_b13, q_b14, q_b15, q_b16]) rfl ?_
  exact ⟨A', c', rfl, own_setCells7 (own_far HO.out (p := ⟨w.heap.size, 6, none⟩) (fun q hq => by have := own_ge HO.out q hq; simp; omega) _), below_set7 (HB.out.setCell (p := ⟨w.heap.size, 6, none⟩) (Nat.le_refl _) _) (by omega) _ _ _ _ _ _ _⟩
end Go.Proofs.YtbofclohnmojmaaGreatDoor
