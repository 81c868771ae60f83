/- slices.swapRangeCmpFunc, rotateCmpFunc at []int. -/
import Derived.Test.YtjjmdgiaohmjkaaDoorU4
import Derived.Test.YtjjmdgiaohmjkaaDoorSM2
import Derived.Shelf.SlSortCmp.Kit1
import Derived.BigRegion
namespace Go.Proofs.YtjjmdgiaohmjkaaDoor
open Go.RowKit Go.Sort

section
variable {α : Type} [Inhabited α] {enc : α → Value} {w0 w : World} {blk off cap : Nat} {d0 d : Array α}
theorem SW.of_eq {d d' : Array α} (h : SW enc w0 blk off d w) (e : d = d') : SW enc w0 blk off d' w := e ▸ h
set_option maxHeartbeats 4000000 in
set_option maxRecDepth 100000 in
theorem swapRange_s (R : Row1 enc w0 blk off d0) (hs : d0.size = d.size) (S : SW enc w0 blk off d w) (lo hi a b n : Nat) (f : Value) (hab : a + n ≤ b) (hlo : lo ≤ a) (hhi : b + n ≤ hi) (hhs : hi ≤ d.size) (hsz : d.size < 4611686018427387904) :
    Calls Tryd.prog 81 #[.slice (some ⟨blk, off, none⟩) d.size cap, .int .i64 a, .int .i64 b, .int .i64 n, f] w fun e w' => e = .returned (.tuple #[]) ∧ ∃ d', SW enc w0 blk off d' w' ∧ SwR lo hi a b n d d' := by
  have hcl0 := R.hO.cells
  simp only [Value.cells] at hcl0
  have hst := R.hO.store Tryd.prog
  have S0 := Lib.hid S
  have HR := Lib.hid R
  clear S R
  go_enter Tryd.func81, Tryd.ntmps81
  go_wp2_with fail
  go_loopw [10] (fun vi wr => ∃ (i : Nat) (dk : Array α), vi = .int .i64 i ∧ i ≤ n ∧ dk.size = d.size ∧ SW enc w0 blk off dk wr ∧ SwR lo hi a b i d dk) (fun vi _ => n - (intOf vi).toNat)
  case atStart => exact ⟨0, d, rfl, Nat.zero_le _, rfl, S0.out, SwR.zero _ _ _ _ _⟩
  case round =>
    clear S0
    obtain ⟨i, dk, rfl, hin, hsk, hS, hW⟩ := hrel
    have S := Lib.hid hS
    have HW := Lib.hid hW
    clear hS hW
    by_cases hlt : i < n
    · have hltz : (i : Int) < (n : Int) := by omega
      obtain ⟨iN, hiN⟩ : ∃ q, q = a + i := ⟨_, rfl⟩
      obtain ⟨jN, hjN⟩ : ∃ q, q = b + i := ⟨_, rfl⟩
      have ea : ((a : Int) + (i : Int)).toNat = iN := by omega
      have pa : (0 : Int) ≤ (a : Int) + (i : Int) := by omega
      have ba : (a : Int) + (i : Int) < (d.size : Int) := by omega
      have ra : IntKind.i64.wrap ((a : Int) + (i : Int)) = (a : Int) + (i : Int) := by rw [IntKind.wrap_i64]; omega
      have ec : ((b : Int) + (i : Int)).toNat = jN := by omega
      have pc : (0 : Int) ≤ (b : Int) + (i : Int) := by omega
      have bc : (b : Int) + (i : Int) < (d.size : Int) := by omega
      have rc : IntKind.i64.wrap ((b : Int) + (i : Int)) = (b : Int) + (i : Int) := by rw [IntKind.wrap_i64]; omega
      obtain ⟨x, hx⟩ : ∃ x, x = dk[a + i]! := ⟨_, rfl⟩
      obtain ⟨y, hy⟩ : ∃ x, x = dk[b + i]! := ⟨_, rfl⟩
      have S3 := Lib.hid (show SW enc w0 blk off (swp dk (a + i) (b + i)) ((wr.setCell ⟨blk, off + iN, none⟩ (enc y)).setCell ⟨blk, off + jN, none⟩ (enc x)).drew by rw [hiN, hjN, hx, hy]; exact S.out.swapped HR.out (a + i) (b + i) (by omega) (by omega))
      have ca := S.out.c1 HR.out (by omega) (a + i) (by omega)
      have cb := S.out.c1 HR.out (by omega) (b + i) (by omega)
      have fa := S.out.f1 HR.out (by omega) (a + i) (by omega)
      have fb := S.out.f1 HR.out (by omega) (b + i) (by omega)
      obtain ⟨u, cc⟩ := S.out.c2 HR.out (by omega) (a + i) (b + i) (by omega) (by omega) (enc y)
      have HW2 := Lib.hid (HW.out.step (by omega) hlo (by omega) hhs)
      rw [← hjN, ← hiN] at cc
      rw [← hx, ← hiN] at ca
      rw [← hy, ← hjN] at cb
      rw [← hiN] at fa
      rw [← hjN] at fb
      clear S hx hy hiN hjN
      go_wp2_with fail
      go_region
      clear ca cb cc fa fb
      generalize ((wr.setCell ⟨blk, off + iN, none⟩ (enc y)).setCell ⟨blk, off + jN, none⟩ (enc x)).drew = w3 at S3 ⊢
      clear ea ec
      go_wp2_with fail
      go_roundw
      case rel => exact ⟨i + 1, swp dk (a + i) (b + i), by go_num, by omega, by rw [size_swp]; exact hsk, S3.out, HW2.out⟩
      case measure => simp [intOf]; omega
    · obtain rfl : i = n := by omega
      go_wp2_with fail
      go_end0
      exact ⟨rfl, dk, S.out, HW.out⟩
set_option maxHeartbeats 4000000 in
set_option maxRecDepth 100000 in
theorem rotate_s (R : Row1 enc w0 blk off d0) (hs : d0.size = d.size) (S : SW enc w0 blk off d w) (lo hi a m b : Nat) (f : Value) (ham : a < m) (hmb : m < b) (hlo : lo ≤ a) (hhi : b ≤ hi) (hhs : hi ≤ d.size) (hsz : d.size < 4611686018427387904) :
    Calls Tryd.prog 80 #[.slice (some ⟨blk, off, none⟩) d.size cap, .int .i64 a, .int .i64 m, .int .i64 b, f] w fun e w' => e = .returned (.tuple #[]) ∧ ∃ d', SW enc w0 blk off d' w' ∧ Rot lo hi a m b d d' := by
  have S0 := Lib.hid S
  have HR := Lib.hid R
  obtain ⟨i0, hi0⟩ : ∃ q, a + q = m := ⟨m - a, by omega⟩
  obtain ⟨j0, hj0⟩ : ∃ q, m + q = b := ⟨b - m, by omega⟩
  have r0 : IntKind.i64.wrap ((m : Int) - (a : Int)) = (i0 : Int) := by rw [IntKind.wrap_i64]; omega
  have r1 : IntKind.i64.wrap ((b : Int) - (m : Int)) = (j0 : Int) := by rw [IntKind.wrap_i64]; omega
  clear S R
  go_enter Tryd.func80, Tryd.ntmps80
  go_wp2_with fail
  go_loopw [10, 11] (fun vi vj wr => ∃ (i j : Nat) (dk : Array α), vi = .int .i64 i ∧ vj = .int .i64 j ∧ 0 < i ∧ 0 < j ∧ i ≤ i0 ∧ j ≤ j0 ∧ dk.size = d.size ∧ SW enc w0 blk off dk wr ∧ ∀ d', Rot lo hi (m - i) m (m + j) dk d' → Rot lo hi a m b d d') (fun vi vj _ => (intOf vi).toNat + (intOf vj).toNat)
  case atStart => exact ⟨i0, j0, d, by first | rfl | go_num | (congr 1; omega), by first | rfl | go_num | (congr 1; omega), by omega, by omega, Nat.le_refl _, Nat.le_refl _, rfl, S0.out, fun d' h => by rw [show m - i0 = a by omega, hj0] at h; exact h⟩
  case round =>
    clear S0
    obtain ⟨i, j, dk, rfl, rfl, hi1, hj1, hii, hjj, hsk, hS, hW⟩ := hrel
    have S := Lib.hid hS
    have HW := Lib.hid hW
    clear hS hW
    obtain ⟨mi, hmi⟩ : ∃ q, q + i = m := ⟨m - i, by omega⟩
    have rmi : IntKind.i64.wrap ((m : Int) - (i : Int)) = (mi : Int) := by rw [IntKind.wrap_i64]; omega
    have emi : (m : Int) - (i : Int) = (mi : Int) := by omega
    rcases Nat.lt_trichotomy j i with h | h | h
    · have h1 : (j : Int) < (i : Int) := by omega
      have h2 : ((i : Int) != (j : Int)) = true := by simp; omega
      obtain ⟨i2, hi2⟩ : ∃ q, q + j = i := ⟨i - j, by omega⟩
      have ri2 : IntKind.i64.wrap ((i : Int) - (j : Int)) = (i2 : Int) := by rw [IntKind.wrap_i64]; omega
      go_wp2_with fail
      try rw [emi]
      rw [← hsk]
      refine (swapRange_s HR.out (by omega) S.out lo hi mi m j f (by omega) (by omega) (by omega) (by omega) (by omega)).mono ?_
      rintro e w3 ⟨rfl, d3, hS3, hW3⟩
      have S3 := Lib.hid hS3
      have HW3 := Lib.hid (fun d' h => HW.out d' (Rot.left (i := i) (j := j) (by omega) (by omega) (by rw [show m - i = mi by omega]; exact hW3) h))
      have hs3 := hW3.perm.1
      clear hS3 hW3 S HW
      go_wp2_with fail
      go_roundw
      case rel => exact ⟨i2, j, d3, by first | rfl | go_num | (congr 1; omega), rfl, by omega, hj1, by omega, hjj, by omega, S3.out, fun d' h => HW3.out d' (by rw [show i - j = i2 by omega]; exact h)⟩
      case measure => simp [intOf]; omega
    · subst h
      have h2 : ((j : Int) != (j : Int)) = false := by simp
      go_wp2_with fail
      try rw [emi]
      rw [← hsk]
      refine (swapRange_s HR.out (by omega) S.out lo hi mi m j f (by omega) (by omega) (by omega) (by omega) (by omega)).mono ?_
      rintro e w3 ⟨rfl, d3, hS3, hW3⟩
      have hF := HW.out d3 (by rw [show m - j = mi by omega]; exact Rot.of_swr hW3 (by omega))
      go_wp2_with fail
      go_end0
      exact ⟨rfl, d3, hS3, hF⟩
    · have h1 : ¬ (j : Int) < (i : Int) := by omega
      have h2 : ((i : Int) != (j : Int)) = true := by simp; omega
      obtain ⟨j2, hj2⟩ : ∃ q, q + i = j := ⟨j - i, by omega⟩
      have rj2 : IntKind.i64.wrap ((j : Int) - (i : Int)) = (j2 : Int) := by rw [IntKind.wrap_i64]; omega
      have rs : IntKind.i64.wrap ((m : Int) + (j : Int)) = ((m + j : Nat) : Int) := by rw [IntKind.wrap_i64]; omega
      have rs2 : IntKind.i64.wrap (((m + j : Nat) : Int) - (i : Int)) = ((m + j2 : Nat) : Int) := by rw [IntKind.wrap_i64]; omega
      have es : (m : Int) + (j : Int) - (i : Int) = ((m + j2 : Nat) : Int) := by omega
      go_wp2_with fail
      try rw [emi]
      try rw [es]
      rw [← hsk]
      refine (swapRange_s HR.out (by omega) S.out lo hi mi (m + j2) i f (by omega) (by omega) (by omega) (by omega) (by omega)).mono ?_
      rintro e w3 ⟨rfl, d3, hS3, hW3⟩
      have S3 := Lib.hid hS3
      have HW3 := Lib.hid (fun d' h => HW.out d' (Rot.right (i := i) (j := j) (by omega) (by omega) (by rw [show m - i = mi by omega, show m + j - i = m + j2 by omega]; exact hW3) h))
      have hs3 := hW3.perm.1
      clear hS3 hW3 S HW
      go_wp2_with fail
      go_roundw
      case rel => exact ⟨i, j2, d3, rfl, by first | rfl | go_num | (congr 1; omega), hi1, by omega, hii, by omega, by omega, S3.out, fun d' h => HW3.out d' (by rw [show j - i = j2 by omega]; exact h)⟩
      case measure => simp [intOf]; omega
end
end Go.Proofs.YtjjmdgiaohmjkaaDoor
