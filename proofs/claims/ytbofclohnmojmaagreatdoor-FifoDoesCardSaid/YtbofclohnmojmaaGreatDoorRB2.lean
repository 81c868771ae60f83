/- The reference's elements and pairs, over a contract of Next. -/
import Derived.Test.YtbofclohnmojmaaGreatDoorRB1
namespace Go.Proofs.YtbofclohnmojmaaGreatDoor
open Go.RowKit
open Go.Sort (grow)

/-- Where a rest begins. -/
def ixR (N : Nat) : Option (List Cel × Int × Int) → Int
  | none => -1
  | some (l1, _, _) => ((N - l1.length : Nat) : Int)
theorem vx_suf {f : Nat} {l l1 : List Cel} {a b : Int} (hf : l.length < f) (h : vx f l = some (l1, a, b)) : (∃ q, l = q ++ l1) ∧ l1.length < l.length := by
  have h1 := ih_all l.length f l hf (Nat.le_refl _) [] 0 ⟨0, 0, false, false⟩ trivial
  rw [h] at h1
  obtain ⟨s1, -, hA, hlt, -⟩ := h1
  obtain ⟨q, hq, -⟩ := hA.pre
  exact ⟨⟨q, hq⟩, hlt⟩
/-- A rest of v is v from an index on. -/
theorem drop_of {v l1 : List Cel} {i : Nat} (h : ∃ q, v.drop i = q ++ l1) (hi : i ≤ v.length) : l1 = v.drop (v.length - l1.length) ∧ l1.length ≤ v.length := by
  obtain ⟨q, hq⟩ := h
  have hl := congrArg List.length hq
  rw [List.length_drop, List.length_append] at hl
  refine ⟨?_, by omega⟩
  have h2 : (v.drop i).drop q.length = l1 := by rw [hq]; simp
  rw [List.drop_drop] at h2
  rw [show v.length - l1.length = i + q.length by omega]
  exact h2.symm
/-- The contract of Next at a fuel. -/
def NxC (f : Nat) (A : Option Addr) (c : Nat) (v : List Cel) : Prop := ∀ (i : Nat) (w : World), i ≤ v.length + 1 → (v.drop i).length < f → CelL w w.heap.size A v →
  Calls Tryz.prog 111 #[.slice A v.length c, .int .i64 i] w fun e w' => e = .returned (.int .i64 (ixR v.length (vx f (v.drop i)))) ∧ Below w.heap.size w w'
section
variable {f : Nat} {A : Option Addr} {c : Nat} {v : List Cel}
theorem els_step {n : Nat} {l : List Cel} : els (vx f) (n + 1) l = match vx f l with
    | none => none
    | some (l1, a1, b1) => match els (vx f) n l1 with
      | none => none
      | some (l2, a2, b2) => some (l2, max a1 a2, b1 + b2) := rfl
theorem ix_els_none {N n : Nat} {l : List Cel} (h : vx f l = none) : ixR N (els (vx f) (n + 1) l) = -1 := by rw [els_step, h]; rfl
theorem ix_els_some {N n : Nat} {l l1 : List Cel} {a b : Int} (h : vx f l = some (l1, a, b)) : ixR N (els (vx f) (n + 1) l) = ixR N (els (vx f) n l1) := by
  rw [els_step, h]
  cases h2 : els (vx f) n l1 with
  | none => simp only [h2]
  | some R => obtain ⟨l2, a2, b2⟩ := R; simp only [h2]; rfl
theorem elements_any (hN : NxC f A c v) (i : Nat) (n : Int) (w : World) (hi : i ≤ v.length) (hf : (v.drop i).length < f) (hn : n ≤ 9223372036854775807) (hl : CelL w w.heap.size A v) :
    Calls Tryz.prog 124 #[.slice A v.length c, .int .i64 i, .int .i64 n] w fun e w' => e = .returned (.int .i64 (ixR v.length (els (vx f) n.toNat (v.drop i)))) ∧ Below w.heap.size w w' := by
  have HN := Lib.hid hN
  have HL := Lib.hid hl
  have HF := Lib.hid hf
  clear hN hl hf
  go_enter Tryz.func124, Tryz.ntmps124
  go_wp2_with fail
  go_loopw [1, 7] (fun v1 v7 wr => ∃ k j : Nat, k ≤ n.toNat ∧ i ≤ j ∧ j ≤ v.length ∧ v1 = .int .i64 j ∧ v7 = .int .i64 k ∧ ixR v.length (els (vx f) n.toNat (v.drop i)) = ixR v.length (els (vx f) (n.toNat - k) (v.drop j)) ∧ Below w.heap.size w wr) (fun _ k _ => n.toNat - (intOf k).toNat)
  case atStart => exact ⟨0, i, Nat.zero_le _, Nat.le_refl _, hi, rfl, rfl, rfl, Below.refl _ _⟩
  case round =>
    obtain ⟨k, j, hk, hij, hj, rfl, rfl, he, hb⟩ := hrel
    have HE := Lib.hid he
    have HB := Lib.hid hb
    clear he hb
    by_cases hlt : (k : Int) < n
    · have hfj : (v.drop j).length < f := by have := HF.out; rw [List.length_drop] at this ⊢; omega
      have hm : n.toNat - k = (n.toNat - (k + 1)) + 1 := by omega
      have HS := Lib.hid (fun l1 a b (h : vx f (v.drop j) = some (l1, a, b)) => vx_suf hfj h)
      rw [hm] at HE
      have hkn : k + 1 ≤ n.toNat := by omega
      have hk1 : (k : Int) + 1 ≤ 9223372036854775807 := by omega
      clear hm
      go_wp2_with fail
      refine (HN.out j wr (by omega) hfj (HL.out.on HB.out)).mono ?_
      rintro e w2 ⟨rfl, hb2⟩
      have HB2 := Lib.hid (HB.out.trans (hb2.mono HB.out.size))
      clear hb2
      cases hv2 : vx f (v.drop j) with
      | none =>
        have HR := Lib.hid (HE.out.trans (ix_els_none hv2))
        rw [show ixR v.length none = -1 from rfl]
        go_wp2_with fail
        go_ret
        exact ⟨by rw [HR.out]; rfl, HB2.out⟩
      | some R =>
        obtain ⟨l1, a1, b1⟩ := R
        obtain ⟨hsuf, hlt1⟩ := HS.out l1 a1 b1 hv2
        obtain ⟨hdr, hle⟩ := drop_of hsuf hj
        rw [List.length_drop] at hlt1
        obtain ⟨j2, hj2⟩ : ∃ j2 : Nat, v.length - l1.length = j2 := ⟨_, rfl⟩
        have HR := Lib.hid (HE.out.trans (ix_els_some hv2))
        rw [hj2] at hdr
        rw [hdr] at HR
        have hix : ixR v.length (some (l1, a1, b1)) = (j2 : Int) := by show ((v.length - l1.length : Nat) : Int) = _; rw [hj2]
        rw [hix]
        have dj : decide ((j2 : Int) < 0) = false := decide_eq_false (by omega)
        have hjj : i ≤ j2 := by omega
        have hjl : j2 ≤ v.length := by omega
        obtain ⟨wk1, wk2⟩ := w64 (x := (k : Int) + 1) (by omega) hk1
        clear hix hsuf hdr hle hlt1 hj2 hv2
        go_wp2_with fail
        clear wk1 wk2
        go_roundw
        case rel => exact ⟨k + 1, j2, hkn, hjj, hjl, rfl, by first | rfl | go_num, HR.out, HB2.out⟩
        case measure => simp [intOf] <;> omega
    · have hkn : n.toNat - k = 0 := by omega
      have d0 : decide ((k : Int) < n) = false := decide_eq_false hlt
      rw [hkn] at HE
      have HR := Lib.hid (show ((j : Nat) : Int) = ixR v.length (els (vx f) n.toNat (v.drop i)) by
        rw [HE.out]
        show (j : Int) = ((v.length - (v.drop j).length : Nat) : Int)
        rw [List.length_drop]
        omega)
      clear hkn
      go_wp2_with fail
      go_ret
      exact ⟨ret_int HR.out, HB.out⟩
end
end Go.Proofs.YtbofclohnmojmaaGreatDoor
