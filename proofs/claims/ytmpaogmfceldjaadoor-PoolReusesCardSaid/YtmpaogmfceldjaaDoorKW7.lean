/- Child of both sides. -/
import Derived.Test.YtmpaogmfceldjaaDoorKW6
namespace Go.Proofs.YtmpaogmfceldjaaDoor
open Go.RowKit
open Go.Sort (grow)

def chE (nm : ByteArray) (n : Int) : ByteArray × Int := if 64 < (chB nm n).size then (⟨#[]⟩, 3) else (chB nm n, 0)
def tupS (x : ByteArray × Int) : Value := .tuple #[.string x.1, .int .i64 x.2]
theorem ret_tupS {x : ByteArray × Int} {a : ByteArray} {b : Int} (h : x = (a, b)) : Ending.returned (.tuple #[.string a, .int .i64 b]) = .returned (tupS x) := by subst h; rfl
theorem chB_size {nm : ByteArray} (h : idL nm = true) {n : Int} (h0 : 0 ≤ n) (h1 : n ≤ 1000000) : nm.size ≤ 64 ∧ (Lib.itoa n).length ≤ 21 ∧ (chB nm n).size = nm.size + 1 + (Lib.itoa n).length := by
  unfold idL at h
  rw [Bool.and_eq_true] at h
  refine ⟨(of_decide_eq_true h.1).2, Lib.itoa_length_le n (by omega) (by omega), ?_⟩
  rw [← size_len, chB_data, List.length_append, List.length_append, size_len]
  rfl
theorem mk_size (l : List UInt8) : (⟨l.toArray⟩ : ByteArray).size = l.length := by rw [← size_len]
set_option maxHeartbeats 2000000 in
set_option maxRecDepth 20000 in
theorem Child_any (nm : ByteArray) (hnm : idL nm = true) (n : Int) (h0 : 0 ≤ n) (h1 : n ≤ 1000000) (w : World) (hX : LaidW w) :
    Calls Tryd.prog 36 #[.string nm, .int .i64 n] w fun e w' => e = .returned (tupS (chE nm n)) ∧ Below w.heap.size w w' := by
  obtain ⟨s1, s2, s3⟩ := chB_size hnm h0 h1
  have HN := Lib.hid hnm
  have HE1 : 64 < (chB nm n).size → chE nm n = (⟨#[]⟩, 3) := fun h => if_pos h
  have HE2 : ¬ 64 < (chB nm n).size → chE nm n = (chB nm n, 0) := fun h => if_neg h
  have HE := Lib.hid (And.intro HE1 HE2)
  have HS := Lib.hid s3
  have hsz := mk_size (Lib.itoa n)
  clear hnm HE1 HE2 s3
  have hn1 : decide (n < 0) = false := decide_eq_false (by omega)
  have hn2 : decide (1000000000000 < n) = false := decide_eq_false (by omega)
  have HX0 := Lib.hid hX
  clear hX
  go_enter Tryd.func36, Tryd.ntmps36
  go_wp2_with fail
  refine (ID_any nm _ (by omega)).mono ?_
  rintro e w1 ⟨rfl, hb1⟩
  rw [HN.out]
  have HB1 := Lib.hid hb1
  have HX := Lib.hid (HX0.out.below hb1)
  clear hb1
  go_wp2_with fail
  all_goals try (exfalso; omega)
  refine (Format_any n (by omega) (by omega) _ HX.out).mono ?_
  rintro e w2 ⟨rfl, hb2⟩
  have HB2 := Lib.hid (HB1.out.trans (hb2.mono HB1.out.size))
  clear hb2
  have hcd : (nm ++ ⟨#[46]⟩ ++ ⟨(Lib.itoa n).toArray⟩ : ByteArray).size = nm.size + 1 + (Lib.itoa n).length := HS.out
  by_cases hc : 64 < (chB nm n).size
  · have HD := Lib.hid (HE.out.1 hc)
    have hc' : 64 < nm.size + 1 + (Lib.itoa n).length := by rw [← HS.out]; exact hc
    clear hc
    go_wp2_with fail
    all_goals try (exfalso; omega)
    go_ret2
    exact ⟨ret_tupS HD.out, HB2.out⟩
  · have HD := Lib.hid (HE.out.2 hc)
    have hc' : ¬ 64 < nm.size + 1 + (Lib.itoa n).length := by rw [← HS.out]; exact hc
    clear hc
    go_wp2_with fail
    all_goals try (exfalso; omega)
    go_ret2
    exact ⟨ret_tupS HD.out, HB2.out⟩
set_option maxHeartbeats 2000000 in
set_option maxRecDepth 20000 in
theorem rChild_any (nm : ByteArray) (hnm : idL nm = true) (n : Int) (h0 : 0 ≤ n) (h1 : n ≤ 1000000) (w : World) :
    Calls Tryd.prog 39 #[.string nm, .int .i64 n] w fun e w' => e = .returned (tupS (chE nm n)) ∧ Below w.heap.size w w' := by
  obtain ⟨s1, s2, s3⟩ := chB_size hnm h0 h1
  have HN := Lib.hid hnm
  have HE1 : 64 < (chB nm n).size → chE nm n = (⟨#[]⟩, 3) := fun h => if_pos h
  have HE2 : ¬ 64 < (chB nm n).size → chE nm n = (chB nm n, 0) := fun h => if_neg h
  have HE := Lib.hid (And.intro HE1 HE2)
  have HS := Lib.hid s3
  have hsz := mk_size (Lib.itoa n)
  clear hnm HE1 HE2 s3
  have hn1 : decide (n < 0) = false := decide_eq_false (by omega)
  have hn2 : decide (1000000000000 < n) = false := decide_eq_false (by omega)
  go_enter Tryd.func39, Tryd.ntmps39
  go_wp2_with fail
  refine (rID_any nm _ (by omega)).mono ?_
  rintro e w1 ⟨rfl, hb1⟩
  rw [HN.out]
  have HB1 := Lib.hid hb1
  clear hb1
  go_wp2_with fail
  all_goals try (exfalso; omega)
  refine (rFormat_any n _ (by omega) (by omega)).mono ?_
  rintro e w2 ⟨rfl, hb2⟩
  have HB2 := Lib.hid (HB1.out.trans (hb2.mono HB1.out.size))
  clear hb2
  have hcd : (nm ++ ⟨#[46]⟩ ++ ⟨(Lib.itoa n).toArray⟩ : ByteArray).size = nm.size + 1 + (Lib.itoa n).length := HS.out
  by_cases hc : 64 < (chB nm n).size
  · have HD := Lib.hid (HE.out.1 hc)
    have hc' : 64 < nm.size + 1 + (Lib.itoa n).length := by rw [← HS.out]; exact hc
    clear hc
    go_wp2_with fail
    all_goals try (exfalso; omega)
    go_ret2
    exact ⟨ret_tupS HD.out, HB2.out⟩
  · have HD := Lib.hid (HE.out.2 hc)
    have hc' : ¬ 64 < nm.size + 1 + (Lib.itoa n).length := by rw [← HS.out]; exact hc
    clear hc
    go_wp2_with fail
    all_goals try (exfalso; omega)
    go_ret2
    exact ⟨ret_tupS HD.out, HB2.out⟩
end Go.Proofs.YtmpaogmfceldjaaDoor
