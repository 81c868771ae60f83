/- The walks of the tests for identifiers. -/
import Derived.Test.YtcmlgiilifdnfaaDoorUS
import Derived.Test.YtcmlgiilifdnfaaDoorPQ
import Derived.Laws.RangeAny
import Derived.Laws.RangeString
namespace Go.Proofs.YtcmlgiilifdnfaaDoor
open Go.RowKit



theorem letB_yes {c : Int} (h : letP c) : letB c = true := decide_eq_true h
theorem letB_no {c : Int} (h : ¬ letP c) : letB c = false := decide_eq_false h
theorem beqs (c k : Int) : ((c == k) = true ∧ c = k) ∨ ((c == k) = false ∧ c ≠ k) := by
  by_cases h : c = k
  · exact .inl ⟨beq_iff_eq.2 h, h⟩
  · exact .inr ⟨beq_eq_false_iff_ne.2 h, h⟩
set_option maxHeartbeats 1000000 in
theorem letter_any (c : Int) (w : World) : Calls Tryd.prog 67 #[.int .i32 c] w fun e w' => e = .returned (.bool (letB c)) ∧ w = w' := by
  have HY := Lib.hid (@letB_yes c)
  have HN := Lib.hid (@letB_no c)
  rcases beqs c 47 with ⟨e47, h47⟩ | ⟨e47, h47⟩
  · have HD := Lib.hid (HY.out (by unfold letP; omega))
    subst h47
    clear e47
    go_enter Tryd.func67, Tryd.ntmps67
    go_wp2
    go_ret
    exact ⟨ret_bool HD.out.symm, rfl⟩
  · have H47 := Lib.hid h47
    clear h47
    go_enter Tryd.func67, Tryd.ntmps67
    go_wp2
    all_goals try (exfalso; omega)
    all_goals
      go_ret
      refine ⟨ret_bool ?_, rfl⟩
      have h47 := H47.out
      first
        | decide
        | exact (HY.out (by unfold letP; omega)).symm
        | exact (HN.out (by unfold letP; omega)).symm
set_option maxHeartbeats 1000000 in
theorem part_any (c : Int) (w : World) : Calls Tryd.prog 70 #[.int .u8 c] w fun e w' => e = .returned (.bool (letB c)) ∧ w = w' := by
  have HY := Lib.hid (@letB_yes c)
  have HN := Lib.hid (@letB_no c)
  rcases beqs c 47 with ⟨e47, h47⟩ | ⟨e47, h47⟩
  · have HD := Lib.hid (HY.out (by unfold letP; omega))
    subst h47
    clear e47
    go_enter Tryd.func70, Tryd.ntmps70
    go_wp2
    go_ret
    exact ⟨ret_bool HD.out.symm, rfl⟩
  · have H47 := Lib.hid h47
    clear h47
    go_enter Tryd.func70, Tryd.ntmps70
    go_wp2
    all_goals try (exfalso; omega)
    all_goals
      go_ret
      refine ⟨ret_bool ?_, rfl⟩
      have h47 := H47.out
      first
        | decide
        | exact (HY.out (by unfold letP; omega)).symm
        | exact (HN.out (by unfold letP; omega)).symm
def idL (s : ByteArray) : Bool := decide (1 ≤ s.size ∧ s.size ≤ 64) && allL s.data.toList
theorem allL_step (s : ByteArray) (k : Nat) (h : k < s.size) : allL (s.data.toList.take (k + 1)) = (allL (s.data.toList.take k) && letB s[k].toNat) := by
  unfold allL
  rw [List.take_add_one, byte_at s k h, List.all_append]
  simp
theorem allL_no (s : ByteArray) (k : Nat) (h : k < s.size) (hd : letB s[k].toNat = false) : allL s.data.toList = false := by
  unfold allL
  rw [List.all_eq_false]
  exact ⟨s[k], List.mem_of_getElem? (byte_at s k h), by simp [hd]⟩
theorem idL_no {s : ByteArray} (h : allL s.data.toList = false) : idL s = false := by unfold idL; rw [h, Bool.and_false]
theorem idL_len {s : ByteArray} (h : ¬ (1 ≤ s.size ∧ s.size ≤ 64)) : idL s = false := by unfold idL; rw [decide_eq_false h, Bool.false_and]
theorem idL_yes {s : ByteArray} (h : allL s.data.toList = true) (h2 : 1 ≤ s.size ∧ s.size ≤ 64) : idL s = true := by unfold idL; rw [decide_eq_true h2, h]; rfl
theorem letB_high {c : Int} (h : 128 ≤ c) : letB c = false := letB_no (by unfold letP; omega)
theorem letB_low {c : Int} (h : letB c = true) : c < 128 := by
  have := of_decide_eq_true h
  unfold letP at this
  omega

theorem below_iter (w : World) (s : ByteArray) (p : Nat) : Below w.heap.size w (w.iter s p) := (Below.refl _ _).alloc (Nat.le_refl _) _
set_option maxHeartbeats 1000000 in
set_option maxRecDepth 100000 in
theorem ID_any (s : ByteArray) (w : World) (hs : s.size ≤ 9223372036854775807) : Calls Tryd.prog 52 #[.string s] w fun e w' => e = .returned (.bool (idL s)) ∧ Below w.heap.size w w' := by
  go_enter Tryd.func52, Tryd.ntmps52
  go_wp2_with fail
  go_loopw [2] (fun _ w' => ∃ pos : Nat, w' = w.iter s pos ∧ pos ≤ s.size ∧ allL (s.data.toList.take pos) = true) (fun _ w' => s.size - w'.iterPos w.heap.size)
  case atStart => exact ⟨0, rfl, Nat.zero_le _, rfl⟩
  case round =>
    obtain ⟨pos, rfl, hp1, hall⟩ := hrel
    have HL := Lib.hid hall
    clear hall
    by_cases hp : pos < s.size
    · have hnx : ∀ ty, (Instr.next (.pointer (some ⟨w.heap.size, 0, none⟩)) true ty).run Tryd.prog (w.iter s pos) = _ := fun ty => run_next_any w s pos ty hp
      have hno := allL_no s pos hp
      have hst := allL_step s pos hp
      by_cases ha : s[pos].toNat < 128
      · have hda := decode_ascii s pos hp ha
        rw [hda] at hnx
        have HX := Lib.hid (And.intro hno hst)
        clear hno hst hda
        have HB := Lib.hid (below_iter w s (pos + 1))
        go_wp2_with fail
        refine (letter_any _ _).mono ?_
        rintro e w1 ⟨rfl, rfl⟩
        cases hlb : letB (s[pos].toNat : Int)
        · have HD := Lib.hid (idL_no (HX.out.1 hlb))
          clear hlb
          go_wp2_with fail
          go_ret
          exact ⟨ret_bool HD.out.symm, HB.out⟩
        · have HD := Lib.hid (HX.out.2.trans (by rw [HL.out, hlb, Bool.true_and]))
          clear hlb
          go_wp2_with fail
          go_roundw
          case rel => exact ⟨pos + 1, rfl, by omega, HD.out⟩
          case measure => simp; omega
      · obtain ⟨hd1, hd2⟩ := decode_high s pos hp (by omega)
        have HX := Lib.hid (idL_no (hno (letB_high (by omega))))
        have HH := Lib.hid (letB_high (c := ((Utf8.decode s pos).1 : Int)) (by omega))
        clear hno hst
        have HB := Lib.hid (below_iter w s (pos + (Utf8.decode s pos).2))
        go_wp2_with fail
        refine (letter_any _ _).mono ?_
        rintro e w1 ⟨rfl, rfl⟩
        rw [HH.out]
        go_wp2_with fail
        go_ret
        exact ⟨ret_bool HX.out.symm, HB.out⟩
    · have hnx : ∀ ty, (Instr.next (.pointer (some ⟨w.heap.size, 0, none⟩)) true ty).run Tryd.prog (w.iter s pos) = _ := fun ty => run_next_end w s pos ty hp
      obtain rfl : pos = s.size := by omega
      have hl := below_iter w s s.size
      have HB := Lib.hid hl
      clear hl
      by_cases h2 : 1 ≤ s.size ∧ s.size ≤ 64
      · have HD := Lib.hid (idL_yes (by rw [← take_size]; exact HL.out) h2)
        obtain ⟨h3, h4⟩ := h2
        have h5 : decide ((s.size : Int) ≤ 64) = true := decide_eq_true (by omega)
        go_wp2_with fail
        all_goals try (exfalso; omega)
        go_ret
        exact ⟨ret_bool HD.out.symm, HB.out⟩
      · have HD := Lib.hid (idL_len h2)
        rcases Nat.lt_or_ge s.size 1 with h3 | h3
        · go_wp2_with fail
          all_goals try (exfalso; omega)
          go_ret
          exact ⟨ret_bool HD.out.symm, HB.out⟩
        · have h4 : decide (s.size ≤ 64) = false := decide_eq_false (by omega)
          have h5 : decide ((s.size : Int) ≤ 64) = false := decide_eq_false (by omega)
          clear h2
          go_wp2_with fail
          all_goals try (exfalso; omega)
          go_ret
          exact ⟨ret_bool HD.out.symm, HB.out⟩
theorem idL_W (s : ByteArray) : idL s = idW s.data.toList := by unfold idL idW; rw [size_len]
end Go.Proofs.YtcmlgiilifdnfaaDoor
