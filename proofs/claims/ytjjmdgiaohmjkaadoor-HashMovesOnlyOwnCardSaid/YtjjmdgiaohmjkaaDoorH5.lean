/- The walks of ParseUint as it is called, and of Unhex. -/
import Derived.Test.YtjjmdgiaohmjkaaDoorH4
namespace Go.Proofs.YtjjmdgiaohmjkaaDoor
open Go.RowKit
open Go.Sort (grow)

theorem puE_yes {l : List UInt8} (h : allX hxv l = true) : puE l = .tuple #[.int .u64 (valX hxv l : Nat), .nilIface] := if_pos h
theorem puE_no {l : List UInt8} (h : allX hxv l = false) : puE l = .tuple #[.int .u64 0, .iface 86 (.int .i64 2)] := if_neg (by rw [h]; simp)
theorem ParseUint_yes (t : ByteArray) (h16 : t.size = 16) (h : allX hxv t.data.toList = true) (w : World) :
    Calls Tryd.prog 30 #[.string t, .int .i64 16, .int .i64 64] w fun e w' => e = .returned (.tuple #[.int .u64 (valX hxv t.data.toList : Nat), .nilIface]) ∧ Below w.heap.size w w' := by
  have HP := Lib.hid (PU_any t h16 w)
  rw [puE_yes h] at HP
  clear h16 h
  go_enter Tryd.func30, Tryd.ntmps30
  go_wp2_with fail
  refine HP.out.mono ?_
  rintro e w1 ⟨rfl, hb⟩
  go_wp2_with fail
  go_ret2
  exact ⟨rfl, hb⟩
def IsErr (v : Value) (w w' : World) : Prop := ∃ N, v = .iface 89 (.pointer (some ⟨N, 0, none⟩)) ∧ Below w.heap.size w w'
theorem ParseUint_no (t : ByteArray) (h16 : t.size = 16) (h : allX hxv t.data.toList = false) (w : World) (hX : LaidH w) :
    Calls Tryd.prog 30 #[.string t, .int .i64 16, .int .i64 64] w fun e w' => ∃ v, e = .returned (.tuple #[.int .u64 0, v]) ∧ IsErr v w w' := by
  have HP := Lib.hid (PU_any t h16 w)
  rw [puE_no h] at HP
  have HX := Lib.hid hX
  have HZ := Lib.hid h16
  clear h16 h hX
  go_enter Tryd.func30, Tryd.ntmps30
  go_wp2_with fail
  refine HP.out.mono ?_
  rintro e w1 ⟨rfl, hb⟩
  have HB := Lib.hid hb
  clear hb
  obtain ⟨tp, p, hs⟩ := (HX.out.below HB.out).syn
  have HS := Lib.hid hs
  clear hs
  go_wp2_with fail
  refine (Tryd.strconv_toError_syntax _ t 16 64 _ w1 (by have := HZ.out; omega) HS.out (.inr ⟨tp, p, rfl⟩)).mono ?_
  rintro e w2 ⟨N, rfl, -, -, hb⟩
  have HB2 := Lib.hid (HB.out.trans (hb.mono HB.out.size))
  clear hb
  go_wp2_with fail
  go_ret2
  exact ⟨_, rfl, N, rfl, HB2.out⟩
theorem un_yes {l : List UInt8} (h16 : l.length = 16) (h : allX hxv l = true) (he : hexL (valX hxv l) 16 = l) : unhI l = (((valX hxv l : Nat) : Int), 0) := by rw [unh_code h16, if_pos ⟨h, he⟩]
theorem un_no {l : List UInt8} (h16 : l.length = 16) (h : allX hxv l = false ∨ hexL (valX hxv l) 16 ≠ l) : unhI l = (0, 1) := by
  rw [unh_code h16, if_neg]
  rintro ⟨h1, h2⟩
  rcases h with h | h
  · rw [h] at h1; cases h1
  · exact h h2
set_option maxHeartbeats 2000000 in
theorem Unhex_any (s : ByteArray) (w : World) (hX : LaidH w) :
    Calls Tryd.prog 10 #[.string s] w fun e w' => e = .returned (tup2u (unhI s.data.toList)) ∧ Below w.heap.size w w' := by
  have HX := Lib.hid hX
  clear hX
  by_cases h16 : s.size = 16
  · have hb : ((s.size : Int) != 16) = false := by simp [h16]
    have hl : s.data.toList.length = 16 := by rw [size_len, h16]
    cases ha : allX hxv s.data.toList
    · have HD := Lib.hid (un_no hl (.inl ha))
      have HP := Lib.hid (fun w' hw => ParseUint_no s h16 ha w' hw)
      clear ha hl h16
      go_enter Tryd.func10, Tryd.ntmps10
      go_wp2_with fail
      refine (HP.out w HX.out).mono ?_
      rintro e w1 ⟨v, rfl, N, rfl, hb⟩
      have HB := Lib.hid hb
      clear hb
      go_wp2_with fail
      go_ret2
      exact ⟨ret_tup2u HD.out, HB.out⟩
    · have HP := Lib.hid (ParseUint_yes s h16 ha w)
      have hvl := valX_lt s.data.toList ha
      rw [hl] at hvl
      have hv : valX hxv s.data.toList < 18446744073709551616 := by simpa using hvl
      have HY := Lib.hid (fun he => un_yes hl ha he)
      have HN := Lib.hid (fun he => un_no hl (.inr he))
      clear hvl ha hl h16
      generalize valX hxv s.data.toList = n at *
      have HV := Lib.hid hv
      clear hv
      go_enter Tryd.func10, Tryd.ntmps10
      go_wp2_with fail
      refine HP.out.mono ?_
      rintro e w1 ⟨rfl, hb⟩
      have HB := Lib.hid hb
      clear hb
      go_wp2_with fail
      refine (Hex_any n HV.out w1 (HX.out.below HB.out)).mono ?_
      rintro e w2 ⟨rfl, hb⟩
      have HB2 := Lib.hid (HB.out.trans (hb.mono HB.out.size))
      clear hb
      have hbs : (hexS16 n).toList = hexL n 16 := by rw [Lib.toList_data]; rfl
      by_cases he : hexL n 16 = s.data.toList
      · have HD := Lib.hid (HY.out he)
        have hq : ((hexS16 n).toList == s.toList) = true := by rw [hbs, he, Lib.toList_data]; simp
        clear he hbs
        generalize hexS16 n = h at *
        go_wp2_with fail
        go_ret2
        exact ⟨ret_tup2u HD.out, HB2.out⟩
      · have HD := Lib.hid (HN.out he)
        have hq : ((hexS16 n).toList == s.toList) = false := by rw [hbs, Lib.toList_data]; simpa using he
        clear he hbs
        generalize hexS16 n = h at *
        go_wp2_with fail
        go_ret2
        exact ⟨ret_tup2u HD.out, HB2.out⟩
  · have HE := Lib.hid (unh_short (l := s.data.toList) (by rw [size_len]; exact h16))
    have hb : ((s.size : Int) != 16) = true := by simp; omega
    clear h16
    go_enter Tryd.func10, Tryd.ntmps10
    go_wp2_with fail
    go_ret2
    exact ⟨ret_tup2u HE.out, Below.refl _ _⟩
end Go.Proofs.YtjjmdgiaohmjkaaDoor
