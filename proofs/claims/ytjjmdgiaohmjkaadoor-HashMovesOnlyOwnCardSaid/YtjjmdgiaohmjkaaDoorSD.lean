/- slices.insertionSortCmpFunc, stableCmpFunc, SortStableFunc at []int. -/
import Derived.Test.YtjjmdgiaohmjkaaDoorSC
namespace Go.Proofs.YtjjmdgiaohmjkaaDoor
open Go.RowKit Go.Sort

section
variable {α : Type} [Inhabited α] {enc : α → Value} {cf : α → α → Int} {R : α → α → Prop} {w0 w : World} {blk off cap g : Nat} {cb : Array Value} {d0 d : Array α}
set_option maxHeartbeats 16000000 in
set_option maxRecDepth 100000 in
theorem ins_s (eg : ∀ args w, (callFunc g args).run Tryd.prog w = .ok (.enter g args) w) (hcmp : CmpLays1 Tryd.prog g cb enc cf blk off d0.size w0) (R1 : Row1 enc w0 blk off d0) (hs : d0.size = d.size) (S : SW enc w0 blk off d w) (a b : Nat) (hab : a ≤ b) (hb : b ≤ d.size) (hsz : d.size < 4611686018427387904) :
    Calls Tryd.prog 76 #[.slice (some ⟨blk, off, none⟩) d.size cap, .int .i64 a, .int .i64 b, .func (.func g) #[] cb] w fun e w' => e = .returned (.tuple #[]) ∧ SW enc w0 blk off (Go.Sort.insertionSort (ltOf cf) d a b) w' := by
  have hcl0 := R1.hO.cells
  simp only [Value.cells] at hcl0
  have hst := R1.hO.store Tryd.prog
  have mixed : Tryd.prog.follows .mixedOrders = true := by kernel_rfl
  have HC := Lib.hid hcmp
  have S0 := Lib.hid S
  have HR := Lib.hid R1
  clear S R1 hcmp
  go_enter Tryd.func76, Tryd.ntmps76
  go_wp2_with fail
  go_loopw [8] (fun vi wr => ∃ (i : Nat) (dk : Array α), vi = .int .i64 i ∧ a < i ∧ i ≤ b + 1 ∧ dk.size = d.size ∧ SW enc w0 blk off dk wr ∧ insOuter (ltOf cf) a b i dk = insOuter (ltOf cf) a b (a + 1) d) (fun vi _ => b + 1 - (intOf vi).toNat)
  case atStart => exact ⟨a + 1, d, by go_num, by omega, by omega, rfl, S0.out, rfl⟩
  case round =>
    clear S0
    obtain ⟨i, dk, rfl, hai, hib, hsk, hS, hO⟩ := hrel
    have S := Lib.hid hS
    have HO := Lib.hid hO
    clear hS hO
    by_cases hlt : i < b
    · have hltz : (i : Int) < (b : Int) := by omega
      go_wp2_with fail
      go_loopw [9] (fun vj wr2 => ∃ (j : Nat) (dj : Array α), vj = .int .i64 j ∧ a ≤ j ∧ j ≤ i ∧ dj.size = d.size ∧ SW enc w0 blk off dj wr2 ∧ insInner (ltOf cf) a j dj = insInner (ltOf cf) a i dk) (fun vj _ => (intOf vj).toNat)
      case atStart => exact ⟨i, dk, rfl, by omega, Nat.le_refl _, hsk, S.out, rfl⟩
      case round =>
        clear S
        obtain ⟨j, dj, rfl, haj, hji, hsj, hS, hI⟩ := hrel
        have S := Lib.hid hS
        have HI := Lib.hid hI
        clear hS hI
        have OUT := Lib.hid (fun (hs : j ≤ a ∨ (ltOf cf) dj[j]! dj[j - 1]! = false) => show insOuter (ltOf cf) a b (i + 1) dj = insOuter (ltOf cf) a b (a + 1) d by
          rw [← HO.out, insOuter_go _ _ _ _ _ hlt, ← HI.out, insInner_stop _ _ _ _ hs])
        by_cases hja : a < j
        · obtain ⟨jp, rfl⟩ : ∃ q, j = q + 1 := ⟨j - 1, by omega⟩
          have hjad : decide ((jp : Int) + 1 > (a : Int)) = true := decide_eq_true (by omega)
          have hjaz' : (a : Int) < (jp : Int) + 1 := by omega
          have rj : IntKind.i64.wrap ((jp : Int) + 1) = (jp : Int) + 1 := by rw [IntKind.wrap_i64]; omega
          have rj3 : IntKind.i64.wrap (jp : Int) = (jp : Int) := by rw [IntKind.wrap_i64]; omega
          have rj2 : IntKind.i64.wrap ((jp : Int) + 1 - 1) = (jp : Int) := by rw [IntKind.wrap_i64]; omega
          obtain ⟨N1, hN1⟩ : ∃ q, q = jp + 1 := ⟨_, rfl⟩
          have e1 : (((jp : Int) + 1)).toNat = N1 := by omega
          have p1 : (0 : Int) ≤ ((jp : Int) + 1) := by omega
          have b1 : ((jp : Int) + 1) < (d.size : Int) := by omega
          have b2 : (jp : Int) < (d.size : Int) := by omega
          have bn2 : jp < d.size := by omega
          obtain ⟨x, hx⟩ : ∃ x, x = dj[jp + 1]! := ⟨_, rfl⟩
          obtain ⟨y, hy⟩ : ∃ x, x = dj[jp]! := ⟨_, rfl⟩
          have l1 := S.out.cl HR.out (by omega) (jp + 1) (by omega)
          have l2 := S.out.cl HR.out (by omega) (jp) (by omega)
          rw [← hx, ← hN1] at l1
          rw [← hy] at l2
          have hc := S.out.cmp HC.out (by omega) x y
          cases hlv : ltOf cf dj[jp + 1]! dj[jp]! with
          | true =>
            have hv :  cf x y < 0 := by rw [hx, hy]; exact of_decide_eq_true hlv
            have hd : decide (cf x y < 0) = true := decide_eq_true hv
            clear hx hy hN1
            go_wp2_with fail
            go_quiet_grown (first | (go_at_fn g; refine Calls.grown_of (hc _ _)))
            have S2 := Lib.hid (show SW enc w0 blk off dj (grow (wr.drewN nq) osq) from S.out.grown nq osq)
            clear l1 l2 hc S
            generalize grow (wr.drewN nq) osq = w2 at S2 ⊢
            clear nq osq
            clear e1
            go_wp2_with fail
            have S := S2
            clear S2
            obtain ⟨N1, hN1⟩ : ∃ q, q = jp + 1 := ⟨_, rfl⟩
            have e1 : (((jp : Int) + 1)).toNat = N1 := by omega
            have p1 : (0 : Int) ≤ ((jp : Int) + 1) := by omega
            have b1 : ((jp : Int) + 1) < (d.size : Int) := by omega
            have r1 : IntKind.i64.wrap ((jp : Int) + 1) = (jp : Int) + 1 := by rw [IntKind.wrap_i64]; omega
            have b2 : (jp : Int) < (d.size : Int) := by omega
            have bn2 : jp < d.size := by omega
            obtain ⟨x, hx⟩ : ∃ x, x = dj[jp + 1]! := ⟨_, rfl⟩
            obtain ⟨y, hy⟩ : ∃ x, x = dj[jp]! := ⟨_, rfl⟩
            have S3 := Lib.hid (show SW enc w0 blk off (swp dj (jp + 1) (jp)) ((w2.setCell ⟨blk, off + N1, none⟩ (enc y)).setCell ⟨blk, off + (jp), none⟩ (enc x)).drew by rw [hN1, hx, hy]; exact S.out.swapped HR.out (jp + 1) (jp) (by omega) (by omega))
            have ca := S.out.c1 HR.out (by omega) (jp + 1) (by omega)
            have cb := S.out.c1 HR.out (by omega) (jp) (by omega)
            have fa := S.out.f1 HR.out (by omega) (jp + 1) (by omega)
            have fb := S.out.f1 HR.out (by omega) (jp) (by omega)
            obtain ⟨u, cc⟩ := S.out.c2 HR.out (by omega) (jp + 1) (jp) (by omega) (by omega) (enc y)
            rw [← hN1] at cc
            rw [← hx, ← hN1] at ca
            rw [← hy] at cb
            rw [← hN1] at fa
            clear S hx hy hN1
            go_wp2_with fail
            go_region
            clear ca cb cc fa fb
            generalize ((w2.setCell ⟨blk, off + N1, none⟩ (enc y)).setCell ⟨blk, off + (jp), none⟩ (enc x)).drew = w3 at S3 ⊢
            clear e1
            go_wp2_with fail
            go_roundw
            case rel => first | exact ⟨jp, swp dj (jp + 1) jp, (by first | rfl | go_num | (congr 1; omega)), by omega, by omega, by rw [size_swp]; exact hsj, S3.out, by rw [← HI.out, insInner_go (ltOf cf) a (jp + 1) dj hja hlv] <;> rfl⟩ | ((repeat apply Exists.intro); exact ⟨⟨jp, swp dj (jp + 1) jp, (by first | rfl | go_num | (congr 1; omega)), by omega, by omega, by rw [size_swp]; exact hsj, S3.out, by rw [← HI.out, insInner_go (ltOf cf) a (jp + 1) dj hja hlv] <;> rfl⟩, rfl⟩)
            case measure => (simp [intOf] <;> omega)
          | false =>
            have hv : ¬ cf x y < 0 := by rw [hx, hy]; exact of_decide_eq_false hlv
            have hd : decide (cf x y < 0) = false := decide_eq_false hv
            clear hx hy hN1
            go_wp2_with fail
            go_quiet_grown (first | (go_at_fn g; refine Calls.grown_of (hc _ _)))
            have S2 := Lib.hid (show SW enc w0 blk off dj (grow (wr.drewN nq) osq) from S.out.grown nq osq)
            clear l1 l2 hc S
            generalize grow (wr.drewN nq) osq = w2 at S2 ⊢
            clear nq osq
            clear e1
            go_wp2_with fail
            go_roundw
            case rel => first | exact ⟨i + 1, dj, (by first | rfl | go_num | (congr 1; omega)), by omega, by omega, hsj, S2.out, OUT.out (.inr hlv)⟩ | ((repeat apply Exists.intro); exact ⟨⟨i + 1, dj, (by first | rfl | go_num | (congr 1; omega)), by omega, by omega, hsj, S2.out, OUT.out (.inr hlv)⟩, rfl⟩)
            case measure => (simp [intOf] <;> omega)
        · have hjaz : decide ((j : Int) > (a : Int)) = false := decide_eq_false (by omega)
          have hjaz' : ¬ (a : Int) < (j : Int) := by omega
          go_wp2_with fail
          go_big_region_o
          have S2 := Lib.hid (show SW enc w0 blk off dj wr.drew from S.out.drew)
          clear S
          generalize wr.drew = w2 at S2 ⊢
          go_wp2_with fail
          go_roundw
          case rel => first | exact ⟨i + 1, dj, (by first | rfl | go_num | (congr 1; omega)), by omega, by omega, hsj, S2.out, OUT.out (.inl (by omega))⟩ | ((repeat apply Exists.intro); exact ⟨⟨i + 1, dj, (by first | rfl | go_num | (congr 1; omega)), by omega, by omega, hsj, S2.out, OUT.out (.inl (by omega))⟩, rfl⟩)
          case measure => (simp [intOf] <;> omega)
    · have hltz : ¬ (i : Int) < (b : Int) := by omega
      go_wp2_with fail
      go_end0
      exact ⟨rfl, by unfold Go.Sort.insertionSort; rw [← HO.out, insOuter_stop _ _ _ _ _ hlt]; exact S.out⟩
end
end Go.Proofs.YtjjmdgiaohmjkaaDoor
