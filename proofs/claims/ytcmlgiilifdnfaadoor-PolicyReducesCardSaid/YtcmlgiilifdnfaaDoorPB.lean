/- The walks of the tests for patterns, and of what they match and cover. -/
import Derived.Test.YtcmlgiilifdnfaaDoorPA
import Derived.Test.YtcmlgiilifdnfaaDoorShelf
namespace Go.Proofs.YtcmlgiilifdnfaaDoor
open Go.RowKit
open Go.Sort (grow)

theorem suf_star (l : List UInt8) : Lib.hasSuffix l [42] = opn l := by
  unfold Lib.hasSuffix
  rcases snoc_cases l with rfl | ⟨i, c, rfl⟩
  · rfl
  · rw [opn_snoc, Bool.eq_iff_iff, List.isSuffixOf_iff_suffix, beq_iff_eq]
    constructor
    · rintro ⟨t, ht⟩
      have := congrArg List.getLast? ht
      simp at this
      exact this.symm
    · rintro rfl; exact ⟨i, rfl⟩
theorem trim_star (l : List UInt8) : Lib.trimSuffix l [42] = pre l := by
  unfold Lib.trimSuffix pre
  rw [suf_star]
  cases opn l
  · rfl
  · simp only [if_true]; rw [List.dropLast_eq_take]; rfl
def preS (s : ByteArray) : ByteArray := ⟨(pre s.data.toList).toArray⟩
theorem preS_data (s : ByteArray) : (preS s).data.toList = pre s.data.toList := rfl
theorem pre_len (l : List UInt8) : (pre l).length ≤ l.length := by unfold pre; split <;> simp
theorem preS_size (s : ByteArray) : (preS s).size ≤ s.size := by have := pre_len s.data.toList; rw [← size_len, ← size_len s]; exact this
theorem open_any (s : ByteArray) (w : World) (hs : s.size ≤ 9223372036854775807) : Calls Tryd.prog 54 #[.string s] w fun e w' => e = .returned (.bool (opn s.data.toList)) ∧ w = w' := by
  have HE := Lib.hid (suf_star s.data.toList)
  go_enter Tryd.func54, Tryd.ntmps54
  go_wp2_with fail
  refine (Tryd.strings_HasSuffix s ⟨#[42]⟩ w hs).mono ?_
  rintro e wq ⟨rfl, hq⟩
  obtain rfl := hq.symm
  rw [HE.out]
  go_wp2_with fail
  go_ret
  exact ⟨rfl, rfl⟩
theorem prefix_any (s : ByteArray) (w : World) (hs : s.size ≤ 9223372036854775807) : Calls Tryd.prog 53 #[.string s] w fun e w' => e = .returned (.string (preS s)) ∧ w = w' := by
  have HE := Lib.hid (show (⟨(Lib.trimSuffix s.data.toList [42]).toArray⟩ : ByteArray) = preS s by rw [trim_star]; rfl)
  go_enter Tryd.func53, Tryd.ntmps53
  go_wp2_with fail
  refine (Tryd.strings_TrimSuffix s ⟨#[42]⟩ w hs).mono ?_
  rintro e wq ⟨rfl, hq⟩
  obtain rfl := hq.symm
  go_wp2_with fail
  go_ret
  exact ⟨ret_str HE.out, rfl⟩
theorem pat_1 {l : List UInt8} (h : idW l = true) : true = patW l := by unfold patW; rw [h]; rfl
theorem pat_2 {l : List UInt8} (h : idW l = false) (h2 : (l == [42]) = true) : true = patW l := by unfold patW; rw [h, h2]; rfl
theorem pat_3 {l : List UInt8} (h : idW l = false) (h2 : (l == [42]) = false) (h3 : idW (pre l) = false) : false = patW l := by unfold patW; rw [h, h2, h3]; rfl
theorem pat_4 {l : List UInt8} (h : idW l = false) (h2 : (l == [42]) = false) (h3 : opn l = false) : false = patW l := by unfold patW; rw [h, h2, h3]; simp
theorem pat_5 {l : List UInt8} {b : Bool} (h : idW l = false) (h2 : (l == [42]) = false) (h3 : idW (pre l) = true) (h4 : opn l = true) (h5 : decide (l.length ≤ 64) = b) : b = patW l := by unfold patW; rw [h, h2, h3, h4, h5]; simp
set_option maxHeartbeats 1000000 in
theorem Pattern_any (s : ByteArray) (w : World) (hs : s.size ≤ 9223372036854775807) : Calls Tryd.prog 38 #[.string s] w fun e w' => e = .returned (.bool (patW s.data.toList)) ∧ Below w.heap.size w w' := by
  have HS := Lib.hid hs
  have hst : (s.toList == [42]) = (s.data.toList == [42]) := by rw [Lib.toList_data]
  clear hs
  go_enter Tryd.func38, Tryd.ntmps38
  go_wp2_with fail
  refine (ID_any s w HS.out).mono ?_
  rintro e w1 ⟨rfl, hb⟩
  have HB := Lib.hid hb
  clear hb
  rw [idL_W]
  cases h1 : idW s.data.toList
  · have H1 := Lib.hid h1
    clear h1
    cases h2 : (s.data.toList == [42])
    · rw [h2] at hst
      have H2 := Lib.hid h2
      clear h2
      go_wp2_with fail
      refine (prefix_any s w1 HS.out).mono ?_
      rintro e wq ⟨rfl, rfl⟩
      go_wp2_with fail
      refine (ID_any (preS s) w1 (by have := preS_size s; have := HS.out; omega)).mono ?_
      rintro e w2 ⟨rfl, hb⟩
      have HB2 := Lib.hid (HB.out.trans (hb.mono HB.out.size))
      clear hb
      rw [idL_W, preS_data]
      cases h3 : idW (pre s.data.toList)
      · have HD := Lib.hid (pat_3 H1.out H2.out h3)
        clear h3
        go_wp2_with fail
        go_ret
        exact ⟨ret_bool HD.out, HB2.out⟩
      · have H3 := Lib.hid h3
        clear h3
        go_wp2_with fail
        refine (open_any s w2 HS.out).mono ?_
        rintro e wq ⟨rfl, rfl⟩
        cases h4 : opn s.data.toList
        · have HD := Lib.hid (pat_4 H1.out H2.out h4)
          clear h4
          go_wp2_with fail
          go_ret
          exact ⟨ret_bool HD.out, HB2.out⟩
        · have HD := Lib.hid (fun (b : Bool) (hb : decide (s.data.toList.length ≤ 64) = b) => pat_5 H1.out H2.out H3.out h4 hb)
          clear h4
          by_cases h5 : s.size ≤ 64
          · have h6 : decide ((s.size : Int) ≤ 64) = true := decide_eq_true (by omega)
            have HQ := Lib.hid (HD.out true (decide_eq_true (by rw [size_len]; exact h5)))
            go_wp2_with fail
            go_ret
            exact ⟨ret_bool HQ.out, HB2.out⟩
          · have h6 : decide ((s.size : Int) ≤ 64) = false := decide_eq_false (by omega)
            have HQ := Lib.hid (HD.out false (decide_eq_false (by rw [size_len]; exact h5)))
            go_wp2_with fail
            go_ret
            exact ⟨ret_bool HQ.out, HB2.out⟩
    · rw [h2] at hst
      have HD := Lib.hid (pat_2 H1.out h2)
      clear h2
      go_wp2_with fail
      go_ret
      exact ⟨ret_bool HD.out, HB.out⟩
  · have HD := Lib.hid (pat_1 h1)
    clear h1
    go_wp2_with fail
    go_ret
    exact ⟨ret_bool HD.out, HB.out⟩
end Go.Proofs.YtcmlgiilifdnfaaDoor
