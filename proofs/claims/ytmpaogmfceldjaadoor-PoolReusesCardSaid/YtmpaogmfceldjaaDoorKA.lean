/- Identifiers and decimal forms: the walks of both sides. -/
import Derived.Test.YtmpaogmfceldjaaDoorUS
import Derived.Test.YtmpaogmfceldjaaDoorShelf
import Derived.Laws.RangeAny
import Derived.Laws.RangeString
import Derived.Lib.ItoaLen
import Derived.Lib.SmallJoins
import Derived.Lib.AppendIntMem
namespace Go.Proofs.YtmpaogmfceldjaaDoor
open Go.RowKit
open Go.Sort (grow)

def letP (c : Int) : Prop := (97 ≤ c ∧ c ≤ 122) ∨ (48 ≤ c ∧ c ≤ 57) ∨ (65 ≤ c ∧ c ≤ 90) ∨ c = 45 ∨ c = 95 ∨ c = 46 ∨ c = 58 ∨ c = 47
instance (c : Int) : Decidable (letP c) := by unfold letP; infer_instance
def letB (c : Int) : Bool := decide (letP c)
def allL (l : List UInt8) : Bool := l.all fun c => letB c.toNat
theorem isEmpty_of {s : ByteArray} (h : s.size = 0) : s.toList.isEmpty = true := by
  rw [Lib.toList_data, List.isEmpty_iff_length_eq_zero, size_len, h]
theorem isEmpty_not {s : ByteArray} (h : 0 < s.size) : s.toList.isEmpty = false := by
  rw [Lib.toList_data]
  cases e : s.data.toList with
  | nil => have := size_len s; rw [e] at this; simp at this; omega
  | cons a b => rfl



theorem letB_yes {c : Int} (h : letP c) : letB c = true := decide_eq_true h
theorem letB_no {c : Int} (h : ¬ letP c) : letB c = false := decide_eq_false h
theorem beqs (c k : Int) : ((c == k) = true ∧ c = k) ∨ ((c == k) = false ∧ c ≠ k) := by
  by_cases h : c = k
  · exact .inl ⟨beq_iff_eq.2 h, h⟩
  · exact .inr ⟨beq_eq_false_iff_ne.2 h, h⟩
set_option maxHeartbeats 1000000 in
theorem letter_any (c : Int) (w : World) : Calls Tryd.prog 48 #[.int .i32 c] w fun e w' => e = .returned (.bool (letB c)) ∧ w = w' := by
  have HY := Lib.hid (@letB_yes c)
  have HN := Lib.hid (@letB_no c)
  rcases beqs c 47 with ⟨e47, h47⟩ | ⟨e47, h47⟩
  · have HD := Lib.hid (HY.out (by unfold letP; omega))
    subst h47
    clear e47
    go_enter Tryd.func48, Tryd.ntmps48
    go_wp2
    go_ret
    exact ⟨ret_bool HD.out.symm, rfl⟩
  · have H47 := Lib.hid h47
    clear h47
    go_enter Tryd.func48, Tryd.ntmps48
    go_wp2
    all_goals try (exfalso; omega)
    all_goals
      go_ret
      refine ⟨ret_bool ?_, rfl⟩
      have h47 := H47.out
      first
        | decide
        | exact (HY.out (by unfold letP; omega)).symm
        | exact (HN.out (by unfold letP; omega)).symm
set_option maxHeartbeats 1000000 in
theorem part_any (c : Int) (w : World) : Calls Tryd.prog 49 #[.int .u8 c] w fun e w' => e = .returned (.bool (letB c)) ∧ w = w' := by
  have HY := Lib.hid (@letB_yes c)
  have HN := Lib.hid (@letB_no c)
  rcases beqs c 47 with ⟨e47, h47⟩ | ⟨e47, h47⟩
  · have HD := Lib.hid (HY.out (by unfold letP; omega))
    subst h47
    clear e47
    go_enter Tryd.func49, Tryd.ntmps49
    go_wp2
    go_ret
    exact ⟨ret_bool HD.out.symm, rfl⟩
  · have H47 := Lib.hid h47
    clear h47
    go_enter Tryd.func49, Tryd.ntmps49
    go_wp2
    all_goals try (exfalso; omega)
    all_goals
      go_ret
      refine ⟨ret_bool ?_, rfl⟩
      have h47 := H47.out
      first
        | decide
        | exact (HY.out (by unfold letP; omega)).symm
        | exact (HN.out (by unfold letP; omega)).symm
def idL (s : ByteArray) : Bool := decide (1 ≤ s.size ∧ s.size ≤ 64) && allL s.data.toList
theorem allL_step (s : ByteArray) (k : Nat) (h : k < s.size) : allL (s.data.toList.take (k + 1)) = (allL (s.data.toList.take k) && letB s[k].toNat) := by
  unfold allL
  rw [List.take_add_one, byte_at s k h, List.all_append]
  simp
theorem allL_no (s : ByteArray) (k : Nat) (h : k < s.size) (hd : letB s[k].toNat = false) : allL s.data.toList = false := by
  unfold allL
  rw [List.all_eq_false]
  exact ⟨s[k], List.mem_of_getElem? (byte_at s k h), by simp [hd]⟩
theorem idL_no {s : ByteArray} (h : allL s.data.toList = false) : idL s = false := by unfold idL; rw [h, Bool.and_false]
theorem idL_len {s : ByteArray} (h : ¬ (1 ≤ s.size ∧ s.size ≤ 64)) : idL s = false := by unfold idL; rw [decide_eq_false h, Bool.false_and]
theorem idL_yes {s : ByteArray} (h : allL s.data.toList = true) (h2 : 1 ≤ s.size ∧ s.size ≤ 64) : idL s = true := by unfold idL; rw [decide_eq_true h2, h]; rfl
theorem letB_high {c : Int} (h : 128 ≤ c) : letB c = false := letB_no (by unfold letP; omega)
theorem letB_low {c : Int} (h : letB c = true) : c < 128 := by
  have := of_decide_eq_true h
  unfold letP at this
  omega

theorem below_iter (w : World) (s : ByteArray) (p : Nat) : Below w.heap.size w (w.iter s p) := (Below.refl _ _).alloc (Nat.le_refl _) _
set_option maxHeartbeats 1000000 in
set_option maxRecDepth 100000 in
theorem ID_any (s : ByteArray) (w : World) (hs : s.size ≤ 9223372036854775807) : Calls Tryd.prog 29 #[.string s] w fun e w' => e = .returned (.bool (idL s)) ∧ Below w.heap.size w w' := by
  go_enter Tryd.func29, Tryd.ntmps29
  go_wp2_with fail
  go_loopw [2] (fun _ w' => ∃ pos : Nat, w' = w.iter s pos ∧ pos ≤ s.size ∧ allL (s.data.toList.take pos) = true) (fun _ w' => s.size - w'.iterPos w.heap.size)
  case atStart => exact ⟨0, rfl, Nat.zero_le _, rfl⟩
  case round =>
    obtain ⟨pos, rfl, hp1, hall⟩ := hrel
    have HL := Lib.hid hall
    clear hall
    by_cases hp : pos < s.size
    · have hnx : ∀ ty, (Instr.next (.pointer (some ⟨w.heap.size, 0, none⟩)) true ty).run Tryd.prog (w.iter s pos) = _ := fun ty => run_next_any w s pos ty hp
      have hno := allL_no s pos hp
      have hst := allL_step s pos hp
      by_cases ha : s[pos].toNat < 128
      · have hda := decode_ascii s pos hp ha
        rw [hda] at hnx
        have HX := Lib.hid (And.intro hno hst)
        clear hno hst hda
        have HB := Lib.hid (below_iter w s (pos + 1))
        go_wp2_with fail
        refine (letter_any _ _).mono ?_
        rintro e w1 ⟨rfl, rfl⟩
        cases hlb : letB (s[pos].toNat : Int)
        · have HD := Lib.hid (idL_no (HX.out.1 hlb))
          clear hlb
          go_wp2_with fail
          go_ret
          exact ⟨ret_bool HD.out.symm, HB.out⟩
        · have HD := Lib.hid (HX.out.2.trans (by rw [HL.out, hlb, Bool.true_and]))
          clear hlb
          go_wp2_with fail
          go_roundw
          case rel => exact ⟨pos + 1, rfl, by omega, HD.out⟩
          case measure => simp; omega
      · obtain ⟨hd1, hd2⟩ := decode_high s pos hp (by omega)
        have HX := Lib.hid (idL_no (hno (letB_high (by omega))))
        have HH := Lib.hid (letB_high (c := ((Utf8.decode s pos).1 : Int)) (by omega))
        clear hno hst
        have HB := Lib.hid (below_iter w s (pos + (Utf8.decode s pos).2))
        go_wp2_with fail
        refine (letter_any _ _).mono ?_
        rintro e w1 ⟨rfl, rfl⟩
        rw [HH.out]
        go_wp2_with fail
        go_ret
        exact ⟨ret_bool HX.out.symm, HB.out⟩
    · have hnx : ∀ ty, (Instr.next (.pointer (some ⟨w.heap.size, 0, none⟩)) true ty).run Tryd.prog (w.iter s pos) = _ := fun ty => run_next_end w s pos ty hp
      obtain rfl : pos = s.size := by omega
      have hl := below_iter w s s.size
      have HB := Lib.hid hl
      clear hl
      by_cases h2 : 1 ≤ s.size ∧ s.size ≤ 64
      · have HD := Lib.hid (idL_yes (by rw [← take_size]; exact HL.out) h2)
        obtain ⟨h3, h4⟩ := h2
        have h5 : decide ((s.size : Int) ≤ 64) = true := decide_eq_true (by omega)
        go_wp2_with fail
        all_goals try (exfalso; omega)
        go_ret
        exact ⟨ret_bool HD.out.symm, HB.out⟩
      · have HD := Lib.hid (idL_len h2)
        rcases Nat.lt_or_ge s.size 1 with h3 | h3
        · go_wp2_with fail
          all_goals try (exfalso; omega)
          go_ret
          exact ⟨ret_bool HD.out.symm, HB.out⟩
        · have h4 : decide (s.size ≤ 64) = false := decide_eq_false (by omega)
          have h5 : decide ((s.size : Int) ≤ 64) = false := decide_eq_false (by omega)
          clear h2
          go_wp2_with fail
          all_goals try (exfalso; omega)
          go_ret
          exact ⟨ret_bool HD.out.symm, HB.out⟩
set_option maxHeartbeats 1000000 in
set_option maxRecDepth 100000 in
theorem rID_any (s : ByteArray) (w : World) (hs : s.size ≤ 9223372036854775807) : Calls Tryd.prog 31 #[.string s] w fun e w' => e = .returned (.bool (idL s)) ∧ Below w.heap.size w w' := by
  by_cases h2 : 1 ≤ s.size ∧ s.size ≤ 64
  · obtain ⟨h3, h4⟩ := h2
    have h5 : decide (64 < (s.size : Int)) = false := decide_eq_false (by omega)
    go_enter Tryd.func31, Tryd.ntmps31
    go_wp2_with fail
    all_goals try (exfalso; omega)
    go_loop [3] (fun i => ∃ k : Nat, k ≤ s.size ∧ i = .int .i64 k ∧ allL (s.data.toList.take k) = true) (fun i => s.size - (intOf i).toNat)
    case atStart => exact ⟨0, Nat.zero_le _, rfl, rfl⟩
    case round =>
      obtain ⟨k, hk, rfl, hall⟩ := hrel
      have HL := Lib.hid hall
      clear hall
      by_cases hp : k < s.size
      · have HX := Lib.hid (And.intro (allL_no s k hp) (allL_step s k hp))
        go_wp2_with fail
        refine (part_any _ _).mono ?_
        rintro e w1 ⟨rfl, rfl⟩
        cases hlb : letB (s[k].toNat : Int)
        · have HD := Lib.hid (idL_no (HX.out.1 hlb))
          clear hlb
          go_wp2_with fail
          go_ret
          exact ⟨ret_bool HD.out.symm, Below.refl _ _⟩
        · have HD := Lib.hid (HX.out.2.trans (by rw [HL.out, hlb, Bool.true_and]))
          clear hlb
          go_wp2_with fail
          go_round
          case rel => exact ⟨k + 1, by omega, by go_num, HD.out⟩
          case measure => simp [intOf]; omega
      · obtain rfl : k = s.size := by omega
        have HD := Lib.hid (idL_yes (by rw [← take_size]; exact HL.out) ⟨h3, h4⟩)
        go_wp2_with fail
        go_ret
        exact ⟨ret_bool HD.out.symm, Below.refl _ _⟩
  · have HD := Lib.hid (idL_len h2)
    rcases Nat.lt_or_ge s.size 1 with h3 | h3
    · go_enter Tryd.func31, Tryd.ntmps31
      go_wp2_with fail
      all_goals try (exfalso; omega)
      go_ret
      exact ⟨ret_bool HD.out.symm, Below.refl _ _⟩
    · have h5 : decide (64 < (s.size : Int)) = true := decide_eq_true (by omega)
      clear h2
      go_enter Tryd.func31, Tryd.ntmps31
      go_wp2_with fail
      all_goals try (exfalso; omega)
      go_ret
      exact ⟨ret_bool HD.out.symm, Below.refl _ _⟩

def emptyV : Value → Nat
  | .string t => if t.size = 0 then 1 else 0
  | _ => 0
theorem emptyV_yes {t : ByteArray} (h : t.size = 0) : emptyV (.string t) = 1 := by show (if t.size = 0 then 1 else 0) = 1; rw [if_pos h]
theorem emptyV_no {t : ByteArray} (h : 0 < t.size) : emptyV (.string t) = 0 := by show (if t.size = 0 then 1 else 0) = 0; rw [if_neg (by omega)]
/-- The loop of the reference: what is still to be written (m) stands ahead of what is written (t). -/
def FmtR (n m : Int) (t : ByteArray) : Prop :=
  (t.size = 0 ∧ m = n) ∨ (0 < t.size ∧ Lib.decDigits n.natAbs = (if m = 0 then [] else Lib.decDigits m.natAbs) ++ t.data.toList)
abbrev tenDig : ByteArray := ⟨#[48, 49, 50, 51, 52, 53, 54, 55, 56, 57]⟩
theorem ten_fin : ∀ i : Fin 10, (tenDig.data.toList.drop i.val).take 1 = [UInt8.ofNat (48 + i.val)] := by decide +kernel
theorem ten_at (d : Nat) (h : d < 10) : (tenDig.extract d (d + 1)).data.toList = [UInt8.ofNat (48 + d)] := by
  rw [Lib.extract_data, show d + 1 - d = 1 by omega]
  exact ten_fin ⟨d, h⟩
theorem fmt_step {n m m' : Int} {t : ByteArray} {d : Nat} (h : FmtR n m t) (hgo : m ≠ 0 ∨ t.size = 0) (hd : d = m.natAbs % 10) (hm : m'.natAbs = m.natAbs / 10) :
    FmtR n m' (tenDig.extract d (d + 1) ++ t) ∧ 0 < (tenDig.extract d (d + 1) ++ t).size := by
  have hl : (tenDig.extract d (d + 1) ++ t).data.toList = UInt8.ofNat (48 + d) :: t.data.toList := by
    rw [Joins.data_append, ten_at d (by omega)]; rfl
  have hs : 0 < (tenDig.extract d (d + 1) ++ t).size := by rw [← size_len, hl]; simp
  refine ⟨.inr ⟨hs, ?_⟩, hs⟩
  rw [hl]
  have hk : ∀ u : Nat, d = u % 10 → m'.natAbs = u / 10 → Lib.decDigits u = (if m' = 0 then [] else Lib.decDigits m'.natAbs) ++ [UInt8.ofNat (48 + d)] := by
    intro u h1 h2
    rw [Lib.decDigits]
    split
    · rename_i h10
      rw [if_pos (by omega), List.nil_append, h1, Nat.mod_eq_of_lt h10]
    · rw [if_neg (by omega), h2, h1]
  rcases h with ⟨ht, rfl⟩ | ⟨ht, he⟩
  · have : t.data.toList = [] := List.eq_nil_of_length_eq_zero (by rw [size_len, ht])
    rw [this]
    exact hk _ hd hm
  · have hm0 : m ≠ 0 := by rcases hgo with h | h; exact h; omega
    rw [he, if_neg hm0, hk _ hd hm, List.append_assoc]
    rfl
theorem fmt_end {n : Int} {t : ByteArray} (h : FmtR n 0 t) (ht : 0 < t.size) : t.data.toList = Lib.decDigits n.natAbs := by
  rcases h with ⟨h, _⟩ | ⟨_, he⟩
  · omega
  · rw [he, if_pos rfl, List.nil_append]
theorem itoa_abs (n : Int) : Lib.itoa n = if n < 0 then 45 :: Lib.decDigits n.natAbs else Lib.decDigits n.natAbs := by
  unfold Lib.itoa
  split
  · rfl
  · rw [show n.toNat = n.natAbs by omega]
theorem bytes_of {t : ByteArray} {l : List UInt8} (h : t.data.toList = l) : t = ⟨l.toArray⟩ := by subst h; cases t; simp
theorem fmt_len {n m : Int} {t : ByteArray} (h : FmtR n m t) (h0 : -9223372036854775808 ≤ n) (h1 : n ≤ 9223372036854775807) : t.size ≤ 21 := by
  rcases h with ⟨h, _⟩ | ⟨_, he⟩
  · omega
  · have := congrArg List.length he
    rw [List.length_append, size_len] at this
    have hl := Lib.itoa_length_le n h0 h1
    rw [itoa_abs] at hl
    split at hl <;> (try rw [List.length_cons] at hl) <;> omega

theorem tmod10 (m : Int) (h : m < 0) : m.tmod 10 = -((m.natAbs % 10 : Nat) : Int) := by
  obtain ⟨k, rfl⟩ : ∃ k : Nat, m = -(k : Int) := ⟨m.natAbs, by omega⟩
  rw [Int.neg_tmod, Int.natAbs_neg, Int.natAbs_natCast]; rfl
theorem tdiv10 (m : Int) (h : m < 0) : m.tdiv 10 = -((m.natAbs / 10 : Nat) : Int) := by
  obtain ⟨k, rfl⟩ : ∃ k : Nat, m = -(k : Int) := ⟨m.natAbs, by omega⟩
  rw [Int.neg_tdiv, Int.natAbs_neg, Int.natAbs_natCast]; rfl
set_option maxHeartbeats 1000000 in
theorem rFormat_any (n : Int) (w : World) (h0 : -9223372036854775808 ≤ n) (h1 : n ≤ 9223372036854775807) :
    Calls Tryd.prog 51 #[.int .i64 n] w fun e w' => e = .returned (.string ⟨(Lib.itoa n).toArray⟩) ∧ Below w.heap.size w w' := by
  have hfin : ∀ t : ByteArray, FmtR n 0 t → 0 < t.size → (n < 0 → (⟨#[45]⟩ ++ t : ByteArray) = ⟨(Lib.itoa n).toArray⟩) ∧ (¬ n < 0 → t = ⟨(Lib.itoa n).toArray⟩) := by
    intro t ht hs
    have he := fmt_end ht hs
    refine ⟨fun hn => bytes_of ?_, fun hn => bytes_of ?_⟩
    · rw [Joins.data_append, he, itoa_abs, if_pos hn]; rfl
    · rw [he, itoa_abs, if_neg hn]
  have HF := Lib.hid hfin
  clear hfin
  go_enter Tryd.func51, Tryd.ntmps51
  go_wp2_with fail
  go_loop [4, 5] (fun s m => ∃ (k : Int) (t : ByteArray), m = .int .i64 k ∧ s = .string t ∧ FmtR n k t ∧ -9223372036854775808 ≤ k ∧ k ≤ 9223372036854775807) (fun s m => (intOf m).natAbs + emptyV s)
  case atStart => exact ⟨n, ⟨#[]⟩, rfl, rfl, .inl ⟨rfl, rfl⟩, h0, h1⟩
  case round =>
    obtain ⟨m, t, rfl, rfl, hR, b1, b2⟩ := hrel
    have hlen := fmt_len hR h0 h1
    have HR := Lib.hid hR
    clear hR
    by_cases hgo : m ≠ 0 ∨ t.size = 0
    · have hstep := fun (m' : Int) (d : Nat) => fmt_step (m' := m') (d := d) HR.out hgo
      have HS := Lib.hid hstep
      clear hstep
      obtain ⟨d, hd⟩ : ∃ d : Nat, d = m.natAbs % 10 := ⟨_, rfl⟩
      obtain ⟨q, hq⟩ : ∃ q : Nat, q = m.natAbs / 10 := ⟨_, rfl⟩
      have hd10 : d < 10 := by omega
      have HM : Hid (d = m.natAbs % 10 ∧ q = m.natAbs / 10) := ⟨hd, hq⟩
      have hemp : emptyV (.string t) = 1 ∨ m ≠ 0 := by
        rcases hgo with h | h
        · exact .inr h
        · exact .inl (emptyV_yes h)
      have HE := Lib.hid hemp
      clear hemp
      have hgoW : ((m != 0) = true) ∨ ((m != 0) = false ∧ t.toList.isEmpty = true) := by
        by_cases h : m = 0
        · refine .inr ⟨by simpa using h, isEmpty_of ?_⟩
          rcases hgo with h' | h'
          · exact absurd h h'
          · exact h'
        · exact .inl (by simpa using h)
      clear hgo
      rcases hgoW with hne | ⟨hne, hte⟩
      all_goals
        rcases Int.lt_or_le m 0 with hm | hm
        · have e1 := tmod10 m hm
          have e2 := tdiv10 m hm
          rw [← hd] at e1
          rw [← hq] at e2
          have hqb : q ≤ 922337203685477581 := by omega
          clear hd hq
          by_cases hd0 : d = 0
          · subst hd0
            rw [show -((0 : Nat) : Int) = 0 from rfl] at e1
            go_wp2
            go_round
            case rel => exact ⟨_, _, rfl, rfl, (HS.out (-(q : Int)) 0 HM.out.1 (by have := HM.out.2; omega)).1, by have := HM.out.2; omega, by omega⟩
            case measure => rw [show emptyV _ = 0 from emptyV_no (HS.out (-(q : Int)) 0 HM.out.1 (by have := HM.out.2; omega)).2]; have := HM.out.2; rcases HE.out with h | h <;> simp [intOf] <;> omega
          · go_wp2
            go_round
            case rel => exact ⟨_, _, rfl, rfl, (HS.out (-(q : Int)) d HM.out.1 (by have := HM.out.2; omega)).1, by have := HM.out.2; omega, by omega⟩
            case measure => rw [show emptyV _ = 0 from emptyV_no (HS.out (-(q : Int)) d HM.out.1 (by have := HM.out.2; omega)).2]; have := HM.out.2; rcases HE.out with h | h <;> simp [intOf] <;> omega
        · have e1 : m % 10 = (d : Int) := by omega
          clear hd hq
          go_wp2
          go_round
          case rel => exact ⟨_, _, rfl, rfl, (HS.out (m / 10) d HM.out.1 (by omega)).1, by omega, by omega⟩
          case measure => rw [show emptyV _ = 0 from emptyV_no (HS.out (m / 10) d HM.out.1 (by omega)).2]; rcases HE.out with h | h <;> simp [intOf, h] <;> omega
    · have hne : (m != 0) = false := by
        by_cases h : m = 0
        · simpa using h
        · exact absurd (Or.inl h) hgo
      have hm0 : m = 0 := by simpa using hne
      have hts : 0 < t.size := by
        rcases Nat.eq_zero_or_pos t.size with h | h
        · exact absurd (Or.inr h) hgo
        · exact h
      have hte := isEmpty_not hts
      subst hm0
      have HG := Lib.hid (HF.out t HR.out hts)
      clear hgo
      by_cases hn : n < 0
      · go_wp2
        go_ret
        exact ⟨ret_str (HG.out.1 hn), Below.refl _ _⟩
      · go_wp2
        go_ret
        exact ⟨ret_str (HG.out.2 hn), Below.refl _ _⟩
/-- What the walks ask of the listed variables. -/
structure LaidW (w : World) : Prop where
  tab : Lib.TabIs Tryd.prog w "internal/strconv.uint64pow10" .u64 Lib.pow10Tab
theorem LaidW.below {W W' : World} (h : LaidW W) (hb : Below W.heap.size W W') : LaidW W' := ⟨(Lib.tabBelow_of_tabIs h.tab) _ hb⟩
theorem Format_any (n : Int) (h0 : -9223372036854775808 ≤ n) (h1 : n ≤ 9223372036854775807) (w : World) (htab : LaidW w) :
    Calls Tryd.prog 50 #[.int .i64 n] w fun e w' => e = .returned (.string ⟨(Lib.itoa n).toArray⟩) ∧ Below w.heap.size w w' := by
  have HT := Lib.hid htab
  clear htab
  go_enter Tryd.func50, Tryd.ntmps50
  go_wp2_with fail
  refine (Tryd.strconv_Itoa n h0 h1 w HT.out.tab).mono ?_
  rintro e w1 ⟨rfl, k, os, rfl⟩
  go_wp2
  go_ret
  exact ⟨rfl, Lib.below_grow _ w (Nat.le_refl _) k os⟩
end Go.Proofs.YtmpaogmfceldjaaDoor
