/- slices.symMergeCmpFunc at []int: a run of one element. -/
import Derived.Test.YtjjmdgiaohmjkaaDoorSA
import Derived.Shelf.SlSortCmp.Insertion1
namespace Go.Proofs.YtjjmdgiaohmjkaaDoor
open Go.RowKit Go.Sort

section
variable {α : Type} [Inhabited α] {enc : α → Value} {cf : α → α → Int} {R : α → α → Prop} {w0 w : World} {blk off cap g : Nat} {cb : Array Value} {d0 d : Array α}
set_option maxHeartbeats 8000000 in
set_option maxRecDepth 100000 in
theorem sym_left (eg : ∀ args w, (callFunc g args).run Tryd.prog w = .ok (.enter g args) w) (hcmp : CmpLays1 Tryd.prog g cb enc cf blk off d0.size w0) (R1 : Row1 enc w0 blk off d0) (hR : Before R)
    (hs : d0.size = d.size) (S : SW enc w0 blk off d w) (a b : Nat) (hab : a + 1 < b) (hb : b ≤ d.size) (hsz : d.size < 4611686018427387904) (hm : MergePre R (ltOf cf) a (a + 1) b d) :
    Calls Tryd.prog 77 #[.slice (some ⟨blk, off, none⟩) d.size cap, .int .i64 a, .int .i64 (a + 1 : Nat), .int .i64 (b : Nat), .func (.func g) #[] cb] w fun e w' => e = .returned (.tuple #[]) ∧ ∃ d', SW enc w0 blk off d' w' ∧ MergePost R a (b) d d' := by
  have hcl0 := R1.hO.cells
  simp only [Value.cells] at hcl0
  have hst := R1.hO.store Tryd.prog
  have mixed : Tryd.prog.follows .mixedOrders = true := by kernel_rfl
  have HC := Lib.hid hcmp
  have S0 := Lib.hid S
  have HR := Lib.hid R1
  have HM := Lib.hid hm
  have t1 : (((a : Int) + 1 - (a : Int)) == 1) = true := by simp; omega
  have q1 : IntKind.i64.wrap ((a : Int) + 1 - (a : Int)) = (a : Int) + 1 - (a : Int) := by rw [IntKind.wrap_i64]; omega
  clear S R1 hcmp hm
  go_enter Tryd.func77, Tryd.ntmps77
  go_wp2_with fail
  go_loopw [10, 11, 12] (fun vi vj _ wr => ∃ (i j : Nat), vi = .int .i64 i ∧ vj = .int .i64 j ∧ a + 1 ≤ i ∧ i ≤ j ∧ j ≤ b ∧ SW enc w0 blk off d wr ∧ (i = a + 1 ∨ ltOf cf d[i - 1]! d[a]! = true) ∧ (j = b ∨ ltOf cf d[j]! d[a]! = false)) (fun vi vj _ _ => (intOf vj).toNat - (intOf vi).toNat)
  case atStart => exact ⟨a + 1, b, rfl, rfl, Nat.le_refl _, by omega, Nat.le_refl _, S0.out, .inl rfl, .inl rfl⟩
  case round =>
    clear S0
    obtain ⟨i, j, rfl, rfl, hai, hij, hjb, hS, hlo, hhi⟩ := hrel
    have S := Lib.hid hS
    have HB := Lib.hid (And.intro hlo hhi)
    clear hS hlo hhi
    by_cases hlt : i < j
    · have hltz : (i : Int) < (j : Int) := by omega
      obtain ⟨h, hh⟩ : ∃ q, q = (i + j) / 2 := ⟨_, rfl⟩
      obtain ⟨N1, hN1⟩ : ∃ q, q = h := ⟨_, rfl⟩
      have e1 : ((((i : Int) + (j : Int)) / 2)).toNat = N1 := by omega
      have p1 : (0 : Int) ≤ (((i : Int) + (j : Int)) / 2) := by omega
      have b1 : (((i : Int) + (j : Int)) / 2) < (d.size : Int) := by omega
      have b2 : (a : Int) < (d.size : Int) := by omega
      have bn2 : a < d.size := by omega
      obtain ⟨x, hx⟩ : ∃ x, x = d[h]! := ⟨_, rfl⟩
      obtain ⟨y, hy⟩ : ∃ x, x = d[a]! := ⟨_, rfl⟩
      have l1 := S.out.cl HR.out (by omega) (h) (by omega)
      have l2 := S.out.cl HR.out (by omega) (a) (by omega)
      rw [← hx, ← hN1] at l1
      rw [← hy] at l2
      have hc := S.out.cmp HC.out (by omega) x y
      cases hlv : ltOf cf d[h]! d[a]! with
      | true =>
        have hv :  cf x y < 0 := by rw [hx, hy]; exact of_decide_eq_true hlv
        have hd : decide (cf x y < 0) = true := decide_eq_true hv
        clear hx hy hN1
        go_wp2_with fail
        go_quiet_grown (first | (go_at_fn g; refine Calls.grown_of (hc _ _)))
        have S2 := Lib.hid (show SW enc w0 blk off d (grow (wr.drewN nq) osq) from S.out.grown nq osq)
        clear l1 l2 hc S
        generalize grow (wr.drewN nq) osq = w2 at S2 ⊢
        clear nq osq
        clear e1
        go_wp2_with fail
        go_roundw
        case rel => first | exact ⟨h + 1, j, by first | rfl | go_num | (congr 1; omega), rfl, by omega, by omega, hjb, S2.out, .inr (by rw [Nat.add_sub_cancel]; exact hlv), HB.out.2⟩ | ((repeat apply Exists.intro); exact ⟨⟨h + 1, j, by first | rfl | go_num | (congr 1; omega), rfl, by omega, by omega, hjb, S2.out, .inr (by rw [Nat.add_sub_cancel]; exact hlv), HB.out.2⟩, rfl⟩)
        case measure => simp [intOf]; omega
      | false =>
        have hv : ¬ cf x y < 0 := by rw [hx, hy]; exact of_decide_eq_false hlv
        have hd : decide (cf x y < 0) = false := decide_eq_false hv
        clear hx hy hN1
        go_wp2_with fail
        go_quiet_grown (first | (go_at_fn g; refine Calls.grown_of (hc _ _)))
        have S2 := Lib.hid (show SW enc w0 blk off d (grow (wr.drewN nq) osq) from S.out.grown nq osq)
        clear l1 l2 hc S
        generalize grow (wr.drewN nq) osq = w2 at S2 ⊢
        clear nq osq
        clear e1
        go_wp2_with fail
        go_roundw
        case rel => first | exact ⟨i, h, rfl, by first | rfl | go_num | (congr 1; omega), hai, by omega, by omega, S2.out, HB.out.1, .inr hlv⟩ | ((repeat apply Exists.intro); exact ⟨⟨i, h, rfl, by first | rfl | go_num | (congr 1; omega), hai, by omega, by omega, S2.out, HB.out.1, .inr hlv⟩, rfl⟩)
        case measure => simp [intOf]; omega
    · obtain rfl : i = j := by omega
      have hd1 : ¬ (i : Int) < (i : Int) := by omega
      have q2 : IntKind.i64.wrap ((i : Int) - 1) = (i : Int) - 1 := by rw [IntKind.wrap_i64]; omega
      go_wp2_with fail
      go_loopw [13] (fun vk wk => ∃ (k : Nat) (dk : Array α), vk = .int .i64 k ∧ a ≤ k ∧ k + 1 ≤ i ∧ dk.size = d.size ∧ SW enc w0 blk off dk wk ∧ Rot a b a (a + 1) (k + 1) d dk) (fun vk _ => i - (intOf vk).toNat)
      case atStart => exact ⟨a, d, rfl, Nat.le_refl _, by omega, rfl, S.out, Rot.none _ _ _ _ _ _ (.inr (by omega))⟩
      case round =>
        clear S
        obtain ⟨k, dk, rfl, hak, hki, hsk, hS, hrot⟩ := hrel
        have S := Lib.hid hS
        have HW := Lib.hid hrot
        clear hS hrot
        by_cases hlt2 : k + 1 < i
        · have hltz2 : (k : Int) < (i : Int) - 1 := by omega
          have HW2 := Lib.hid (show Rot a b a (a + 1) (k + 1 + 1) d (swp dk k (k + 1)) from HW.out.snoc (by omega) (by omega) (by omega) (by omega))
          have b1 : (k : Int) < (d.size : Int) := by omega
          have bn1 : k < d.size := by omega
          obtain ⟨N2, hN2⟩ : ∃ q, q = k + 1 := ⟨_, rfl⟩
          have e2 : (((k : Int) + 1)).toNat = N2 := by omega
          have p2 : (0 : Int) ≤ ((k : Int) + 1) := by omega
          have b2 : ((k : Int) + 1) < (d.size : Int) := by omega
          have r2 : IntKind.i64.wrap ((k : Int) + 1) = (k : Int) + 1 := by rw [IntKind.wrap_i64]; omega
          obtain ⟨x, hx⟩ : ∃ x, x = dk[k]! := ⟨_, rfl⟩
          obtain ⟨y, hy⟩ : ∃ x, x = dk[k + 1]! := ⟨_, rfl⟩
          have S3 := Lib.hid (show SW enc w0 blk off (swp dk (k) (k + 1)) ((wr.setCell ⟨blk, off + (k), none⟩ (enc y)).setCell ⟨blk, off + N2, none⟩ (enc x)).drew by rw [hN2, hx, hy]; exact S.out.swapped HR.out (k) (k + 1) (by omega) (by omega))
          have ca := S.out.c1 HR.out (by omega) (k) (by omega)
          have cb := S.out.c1 HR.out (by omega) (k + 1) (by omega)
          have fa := S.out.f1 HR.out (by omega) (k) (by omega)
          have fb := S.out.f1 HR.out (by omega) (k + 1) (by omega)
          obtain ⟨u, cc⟩ := S.out.c2 HR.out (by omega) (k) (k + 1) (by omega) (by omega) (enc y)
          rw [← hN2] at cc
          rw [← hx] at ca
          rw [← hy, ← hN2] at cb
          rw [← hN2] at fb
          clear S hx hy hN2
          go_wp2_with fail
          go_region
          clear ca cb cc fa fb
          generalize ((wr.setCell ⟨blk, off + (k), none⟩ (enc y)).setCell ⟨blk, off + N2, none⟩ (enc x)).drew = w3 at S3 ⊢
          clear e2
          go_wp2_with fail
          go_roundw
          case rel => first | exact ⟨k + 1, swp dk k (k + 1), by go_num, by omega, by omega, by rw [size_swp]; exact hsk, S3.out, HW2.out⟩ | ((repeat apply Exists.intro); exact ⟨⟨k + 1, swp dk k (k + 1), by go_num, by omega, by omega, by rw [size_swp]; exact hsk, S3.out, HW2.out⟩, rfl⟩)
          case measure => simp [intOf]; omega
        · have hltz2 : ¬ (k : Int) < (i : Int) - 1 := by omega
          obtain rfl : i = k + 1 := by omega
          go_wp2_with fail
          refine bodyPost_ret (results_none rfl _ _ _) rfl ?_
          exact ⟨rfl, dk, S.out, MergePre.one_left hR HM.out hai hjb HB.out.1 HB.out.2 HW.out⟩
set_option maxHeartbeats 8000000 in
set_option maxRecDepth 100000 in
theorem sym_right (eg : ∀ args w, (callFunc g args).run Tryd.prog w = .ok (.enter g args) w) (hcmp : CmpLays1 Tryd.prog g cb enc cf blk off d0.size w0) (R1 : Row1 enc w0 blk off d0) (hR : Before R)
    (hs : d0.size = d.size) (S : SW enc w0 blk off d w) (a m : Nat) (hab : a + 1 < m) (hb : m + 1 ≤ d.size) (hsz : d.size < 4611686018427387904) (hm : MergePre R (ltOf cf) a m (m + 1) d) :
    Calls Tryd.prog 77 #[.slice (some ⟨blk, off, none⟩) d.size cap, .int .i64 a, .int .i64 (m : Nat), .int .i64 (m + 1 : Nat), .func (.func g) #[] cb] w fun e w' => e = .returned (.tuple #[]) ∧ ∃ d', SW enc w0 blk off d' w' ∧ MergePost R a (m + 1) d d' := by
  have hcl0 := R1.hO.cells
  simp only [Value.cells] at hcl0
  have hst := R1.hO.store Tryd.prog
  have mixed : Tryd.prog.follows .mixedOrders = true := by kernel_rfl
  have HC := Lib.hid hcmp
  have S0 := Lib.hid S
  have HR := Lib.hid R1
  have HM := Lib.hid hm
  have t1 : (((m : Int) - (a : Int)) == 1) = false := by simp; omega
  have q1 : IntKind.i64.wrap ((m : Int) - (a : Int)) = (m : Int) - (a : Int) := by rw [IntKind.wrap_i64]; omega
  have t3 : (((m : Int) + 1 - (m : Int)) == 1) = true := by simp; omega
  have q3 : IntKind.i64.wrap ((m : Int) + 1 - (m : Int)) = (m : Int) + 1 - (m : Int) := by rw [IntKind.wrap_i64]; omega
  clear S R1 hcmp hm
  go_enter Tryd.func77, Tryd.ntmps77
  go_wp2_with fail
  go_loopw [14, 15, 16] (fun vi vj _ wr => ∃ (i j : Nat), vi = .int .i64 i ∧ vj = .int .i64 j ∧ a ≤ i ∧ i ≤ j ∧ j ≤ m ∧ SW enc w0 blk off d wr ∧ (i = a ∨ ltOf cf d[m]! d[i - 1]! = false) ∧ (j = m ∨ ltOf cf d[m]! d[j]! = true)) (fun vi vj _ _ => (intOf vj).toNat - (intOf vi).toNat)
  case atStart => exact ⟨a, m, rfl, rfl, Nat.le_refl _, by omega, Nat.le_refl _, S0.out, .inl rfl, .inl rfl⟩
  case round =>
    clear S0
    obtain ⟨i, j, rfl, rfl, hai, hij, hjb, hS, hlo, hhi⟩ := hrel
    have S := Lib.hid hS
    have HB := Lib.hid (And.intro hlo hhi)
    clear hS hlo hhi
    by_cases hlt : i < j
    · have hltz : (i : Int) < (j : Int) := by omega
      obtain ⟨h, hh⟩ : ∃ q, q = (i + j) / 2 := ⟨_, rfl⟩
      have b1 : (m : Int) < (d.size : Int) := by omega
      have bn1 : m < d.size := by omega
      obtain ⟨N2, hN2⟩ : ∃ q, q = h := ⟨_, rfl⟩
      have e2 : ((((i : Int) + (j : Int)) / 2)).toNat = N2 := by omega
      have p2 : (0 : Int) ≤ (((i : Int) + (j : Int)) / 2) := by omega
      have b2 : (((i : Int) + (j : Int)) / 2) < (d.size : Int) := by omega
      obtain ⟨x, hx⟩ : ∃ x, x = d[m]! := ⟨_, rfl⟩
      obtain ⟨y, hy⟩ : ∃ x, x = d[h]! := ⟨_, rfl⟩
      have l1 := S.out.cl HR.out (by omega) (m) (by omega)
      have l2 := S.out.cl HR.out (by omega) (h) (by omega)
      rw [← hx] at l1
      rw [← hy, ← hN2] at l2
      have hc := S.out.cmp HC.out (by omega) x y
      cases hlv : ltOf cf d[m]! d[h]! with
      | true =>
        have hv :  cf x y < 0 := by rw [hx, hy]; exact of_decide_eq_true hlv
        have hd : decide (cf x y < 0) = true := decide_eq_true hv
        clear hx hy hN2
        go_wp2_with fail
        go_quiet_grown (first | (go_at_fn g; refine Calls.grown_of (hc _ _)))
        have S2 := Lib.hid (show SW enc w0 blk off d (grow (wr.drewN nq) osq) from S.out.grown nq osq)
        clear l1 l2 hc S
        generalize grow (wr.drewN nq) osq = w2 at S2 ⊢
        clear nq osq
        clear e2
        go_wp2_with fail
        go_roundw
        case rel => first | exact ⟨i, h, rfl, by first | rfl | go_num | (congr 1; omega), hai, by omega, by omega, S2.out, HB.out.1, .inr hlv⟩ | ((repeat apply Exists.intro); exact ⟨⟨i, h, rfl, by first | rfl | go_num | (congr 1; omega), hai, by omega, by omega, S2.out, HB.out.1, .inr hlv⟩, rfl⟩)
        case measure => simp [intOf]; omega
      | false =>
        have hv : ¬ cf x y < 0 := by rw [hx, hy]; exact of_decide_eq_false hlv
        have hd : decide (cf x y < 0) = false := decide_eq_false hv
        clear hx hy hN2
        go_wp2_with fail
        go_quiet_grown (first | (go_at_fn g; refine Calls.grown_of (hc _ _)))
        have S2 := Lib.hid (show SW enc w0 blk off d (grow (wr.drewN nq) osq) from S.out.grown nq osq)
        clear l1 l2 hc S
        generalize grow (wr.drewN nq) osq = w2 at S2 ⊢
        clear nq osq
        clear e2
        go_wp2_with fail
        go_roundw
        case rel => first | exact ⟨h + 1, j, by first | rfl | go_num | (congr 1; omega), rfl, by omega, by omega, hjb, S2.out, .inr (by rw [Nat.add_sub_cancel]; exact hlv), HB.out.2⟩ | ((repeat apply Exists.intro); exact ⟨⟨h + 1, j, by first | rfl | go_num | (congr 1; omega), rfl, by omega, by omega, hjb, S2.out, .inr (by rw [Nat.add_sub_cancel]; exact hlv), HB.out.2⟩, rfl⟩)
        case measure => simp [intOf]; omega
    · obtain rfl : i = j := by omega
      have hd1 : ¬ (i : Int) < (i : Int) := by omega
      go_wp2_with fail
      go_loopw [17] (fun vk wk => ∃ (k : Nat) (dk : Array α), vk = .int .i64 k ∧ i ≤ k ∧ k ≤ m ∧ dk.size = d.size ∧ SW enc w0 blk off dk wk ∧ Rot a (m + 1) k m (m + 1) d dk) (fun vk _ => (intOf vk).toNat)
      case atStart => exact ⟨m, d, rfl, hjb, Nat.le_refl _, rfl, S.out, Rot.none _ _ _ _ _ _ (.inl rfl)⟩
      case round =>
        clear S
        obtain ⟨k, dk, rfl, hak, hki, hsk, hS, hrot⟩ := hrel
        have S := Lib.hid hS
        have HW := Lib.hid hrot
        clear hS hrot
        by_cases hlt2 : i < k
        · have hltz2 : (i : Int) < (k : Int) := by omega
          have HW2 := Lib.hid (HW.out.cons (by omega) (by omega) (by omega) (by omega) (by omega))
          have b1 : (k : Int) < (d.size : Int) := by omega
          have bn1 : k < d.size := by omega
          obtain ⟨N2, hN2⟩ : ∃ q, q = k - 1 := ⟨_, rfl⟩
          have e2 : (((k : Int) - 1)).toNat = N2 := by omega
          have p2 : (0 : Int) ≤ ((k : Int) - 1) := by omega
          have b2 : ((k : Int) - 1) < (d.size : Int) := by omega
          have r2 : IntKind.i64.wrap ((k : Int) - 1) = (k : Int) - 1 := by rw [IntKind.wrap_i64]; omega
          obtain ⟨x, hx⟩ : ∃ x, x = dk[k]! := ⟨_, rfl⟩
          obtain ⟨y, hy⟩ : ∃ x, x = dk[k - 1]! := ⟨_, rfl⟩
          have S3 := Lib.hid (show SW enc w0 blk off (swp dk (k) (k - 1)) ((wr.setCell ⟨blk, off + (k), none⟩ (enc y)).setCell ⟨blk, off + N2, none⟩ (enc x)).drew by rw [hN2, hx, hy]; exact S.out.swapped HR.out (k) (k - 1) (by omega) (by omega))
          have ca := S.out.c1 HR.out (by omega) (k) (by omega)
          have cb := S.out.c1 HR.out (by omega) (k - 1) (by omega)
          have fa := S.out.f1 HR.out (by omega) (k) (by omega)
          have fb := S.out.f1 HR.out (by omega) (k - 1) (by omega)
          obtain ⟨u, cc⟩ := S.out.c2 HR.out (by omega) (k) (k - 1) (by omega) (by omega) (enc y)
          rw [← hN2] at cc
          rw [← hx] at ca
          rw [← hy, ← hN2] at cb
          rw [← hN2] at fb
          clear S hx hy hN2
          go_wp2_with fail
          go_region
          clear ca cb cc fa fb
          generalize ((wr.setCell ⟨blk, off + (k), none⟩ (enc y)).setCell ⟨blk, off + N2, none⟩ (enc x)).drew = w3 at S3 ⊢
          clear e2
          go_wp2_with fail
          go_roundw
          case rel => first | exact ⟨k - 1, swp dk k (k - 1), by first | rfl | go_num | (congr 1; omega), by omega, by omega, by rw [size_swp]; exact hsk, S3.out, HW2.out⟩ | ((repeat apply Exists.intro); exact ⟨⟨k - 1, swp dk k (k - 1), by first | rfl | go_num | (congr 1; omega), by omega, by omega, by rw [size_swp]; exact hsk, S3.out, HW2.out⟩, rfl⟩)
          case measure => simp [intOf]; omega
        · have hltz2 : ¬ (i : Int) < (k : Int) := by omega
          obtain rfl : i = k := by omega
          go_wp2_with fail
          refine bodyPost_ret (results_none rfl _ _ _) rfl ?_
          exact ⟨rfl, dk, S.out, MergePre.one_right hR HM.out hai hjb HB.out.1 HB.out.2 HW.out⟩
end
end Go.Proofs.YtjjmdgiaohmjkaaDoor
