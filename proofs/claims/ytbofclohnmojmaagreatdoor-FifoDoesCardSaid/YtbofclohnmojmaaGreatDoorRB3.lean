/- The reference's pairs, over a contract of Next. -/
import Derived.Test.YtbofclohnmojmaaGreatDoorRB2
namespace Go.Proofs.YtbofclohnmojmaaGreatDoor
open Go.RowKit
open Go.Sort (grow)

section
variable {f : Nat} {A : Option Addr} {c : Nat} {v : List Cel}
theorem ix_prs_nil {N n : Nat} {st : Bool} {la : ByteArray} : ixR N (prs (vx f) (n + 1) st la []) = -1 := rfl
theorem ix_prs_bad {N n : Nat} {st : Bool} {la : ByteArray} {x : Cel} {l : List Cel} (h : kyB x = false ∨ (st = true ∧ leB x.s la = true)) : ixR N (prs (vx f) (n + 1) st la (x :: l)) = -1 := by rw [prs, if_pos h]; rfl
theorem ix_prs_none {N n : Nat} {st : Bool} {la : ByteArray} {x : Cel} {l : List Cel} (h : vx f l = none) : ixR N (prs (vx f) (n + 1) st la (x :: l)) = -1 := by
  rw [prs]
  split
  · rfl
  · rw [h]; rfl
theorem ix_prs_some {N n : Nat} {st : Bool} {la : ByteArray} {x : Cel} {l l1 : List Cel} {a b : Int} (hb : ¬ (kyB x = false ∨ (st = true ∧ leB x.s la = true))) (h : vx f l = some (l1, a, b)) : ixR N (prs (vx f) (n + 1) st la (x :: l)) = ixR N (prs (vx f) n true x.s l1) := by
  rw [prs, if_neg hb, h]
  cases h2 : prs (vx f) n true x.s l1 with
  | none => simp only [h2]
  | some R => obtain ⟨l2, a2, b2⟩ := R; simp only [h2]; rfl
theorem drop_cons2 {v : List Cel} {j : Nat} {x : Cel} (h : v[j]? = some x) : v.drop j = x :: v.drop (j + 1) := by
  have hlt := (List.getElem?_eq_some_iff.1 h).1
  rw [List.drop_eq_getElem_cons hlt]
  congr 1
  exact (List.getElem?_eq_some_iff.1 h).2
set_option maxHeartbeats 4000000 in
theorem pairs_any (hN : NxC f A c v) (hok : ∀ x ∈ v, okC x) (i : Nat) (n : Int) (w : World) (hi : i ≤ v.length) (hv : v.length ≤ 3518437208780) (hf : (v.drop i).length < f) (hn : n ≤ 9223372036854775807) (hl : CelL w w.heap.size A v) :
    Calls Tryz.prog 125 #[.slice A v.length c, .int .i64 i, .int .i64 n] w fun e w' => e = .returned (.int .i64 (ixR v.length (prs (vx f) n.toNat false ⟨#[]⟩ (v.drop i)))) ∧ Below w.heap.size w w' := by
  have HN := Lib.hid hN
  have HL := Lib.hid hl
  have HF := Lib.hid hf
  have HOK := Lib.hid hok
  clear hN hl hf hok
  go_enter Tryz.func125, Tryz.ntmps125
  go_wp2_with fail
  go_loopw [1, 7, 8] (fun v1 v7 v8 wr => ∃ (k j : Nat) (la : ByteArray), k ≤ n.toNat ∧ i ≤ j ∧ j ≤ v.length ∧ v1 = .int .i64 j ∧ v7 = .string la ∧ v8 = .int .i64 k ∧ ixR v.length (prs (vx f) n.toNat false ⟨#[]⟩ (v.drop i)) = ixR v.length (prs (vx f) (n.toNat - k) (decide (0 < k)) la (v.drop j)) ∧ Below w.heap.size w wr) (fun _ _ k _ => n.toNat - (intOf k).toNat)
  case atStart => exact ⟨0, i, ⟨#[]⟩, Nat.zero_le _, Nat.le_refl _, hi, rfl, rfl, rfl, rfl, Below.refl _ _⟩
  case round =>
    obtain ⟨k, j, la, hk, hij, hj, rfl, rfl, rfl, he, hb⟩ := hrel
    have HE := Lib.hid he
    have HB := Lib.hid hb
    clear he hb
    by_cases hlt : (k : Int) < n
    · have hm : n.toNat - k = (n.toNat - (k + 1)) + 1 := by omega
      rw [hm] at HE
      have hkn : k + 1 ≤ n.toNat := by omega
      have hk1 : (k : Int) + 1 ≤ 9223372036854775807 := by omega
      clear hm
      by_cases hjl : j < v.length
      · have hx := List.getElem?_eq_getElem hjl
        obtain ⟨b, o, rfl, hbB, q0, q1, q2, q3⟩ := (HL.out.on HB.out).cell hx
        have HD := Lib.hid (drop_cons2 hx)
        have hxs := (HOK.out _ (List.getElem_mem hjl)).2.2
        have hky := kyB_eq v[j]
        have HG := Lib.hid (fun (W : World) (hW : Below w.heap.size w W) => (HL.out.on hW).cell hx)
        clear hx
        generalize v[j] = x at *
        rw [HD.out] at HE
        have dj : decide ((v.length : Int) ≤ (j : Int)) = false := decide_eq_false (by omega)
        have dj2 : ((j : Int) < v.length) := by omega
        have hj0 : (0 : Int) ≤ j := by omega
        have djn : decide (v.length ≤ j) = false := decide_eq_false (by omega)
        go_wp2_with fail
        refine (key_any x.k x.i x.s x.n _ (by omega)).mono ?_
        rintro e w2 ⟨rfl, hb2⟩
        rw [← hky]
        have HB2 := Lib.hid (HB.out.trans (hb2.mono HB.out.size))
        have q2 : w2.cell? ⟨b, o + j * 4 + 2, none⟩ = some (.string x.s) := (hb2.cell (p := ⟨b, o + j * 4 + 2, none⟩) hbB).trans q2
        clear hb2 q0 q1 q3
        cases hkb : kyB x with
        | false =>
          have HR := Lib.hid (HE.out.trans (ix_prs_bad (.inl hkb)))
          clear hkb hky
          go_wp2_with fail
          go_ret
          exact ⟨by rw [HR.out]; rfl, HB2.out⟩
        | true =>
          have hfj : (v.drop (j + 1)).length < f := by have := HF.out; rw [List.length_drop] at this ⊢; omega
          have HS := Lib.hid (fun l1 a b (h : vx f (v.drop (j + 1)) = some (l1, a, b)) => vx_suf hfj h)
          have hjI : (((j + 1 : Nat) : Int)) = (j : Int) + 1 := by omega
          by_cases hle : 0 < k ∧ leB x.s la = true
          · have HR := Lib.hid (HE.out.trans (ix_prs_bad (.inr ⟨decide_eq_true hle.1, hle.2⟩)))
            have dk : decide ((0 : Int) < (k : Int)) = true := decide_eq_true (by omega)
            have dkn : decide (0 < k) = true := decide_eq_true hle.1
            have d5 : (Op.bytesLess x.s.toList la.toList || x.s.toList == la.toList) = true := hle.2
            clear hkb hky hle
            go_wp2_with fail
            go_ret
            exact ⟨by rw [HR.out]; rfl, HB2.out⟩
          · have HBAD := Lib.hid (show ¬ (kyB x = false ∨ (decide (0 < k) = true ∧ leB x.s la = true)) from fun h => h.elim (fun h => by rw [hkb] at h; cases h) (fun h => hle ⟨of_decide_eq_true h.1, h.2⟩))
            by_cases hk0 : 0 < k
            · have dk : decide ((0 : Int) < (k : Int)) = true := decide_eq_true (by omega)
              have dkn : decide (0 < k) = true := decide_eq_true hk0
              have d5 : (Op.bytesLess x.s.toList la.toList || x.s.toList == la.toList) = false := by
                cases h2 : leB x.s la with
                | false => exact h2
                | true => exact absurd ⟨hk0, h2⟩ hle
              clear hkb hky hle hk0
              have HC := Lib.hid (HN.out (j + 1) w2 (by omega) hfj (HL.out.on HB2.out))
              have HJ := Lib.hid hjI
              rw [hjI] at HC
              obtain ⟨wj1, wj2⟩ := w64 (x := (j : Int) + 1) (by omega) (by omega)
              clear hjI
              go_wp2_with fail
              clear wj1 wj2
              refine HC.out.mono ?_
              rintro e w3 ⟨rfl, hb3⟩
              have HB3 := Lib.hid (HB2.out.trans (hb3.mono HB2.out.size))
              clear hb3
              cases hv2 : vx f (v.drop (j + 1)) with
              | none =>
                have HR := Lib.hid (HE.out.trans (ix_prs_none hv2))
                rw [show ixR v.length none = -1 from rfl]
                clear hv2
                go_wp2_with fail
                go_ret
                exact ⟨by rw [HR.out]; rfl, HB3.out⟩
              | some R =>
                obtain ⟨l1, a1, b1⟩ := R
                obtain ⟨hsuf, hlt1⟩ := HS.out l1 a1 b1 hv2
                obtain ⟨hdr, hle1⟩ := drop_of hsuf (by omega)
                rw [List.length_drop] at hlt1
                obtain ⟨j2, hj2⟩ : ∃ j2 : Nat, v.length - l1.length = j2 := ⟨_, rfl⟩
                have HR := Lib.hid (HE.out.trans (ix_prs_some HBAD.out hv2))
                rw [hj2] at hdr
                rw [hdr] at HR
                have hix : ixR v.length (some (l1, a1, b1)) = (j2 : Int) := by show ((v.length - l1.length : Nat) : Int) = _; rw [hj2]
                rw [hix]
                have dj3 : decide ((j2 : Int) < 0) = false := decide_eq_false (by omega)
                have hjj : i ≤ j2 := by omega
                have hjl2 : j2 ≤ v.length := by omega
                have hd9 : decide (0 < k + 1) = true := decide_eq_true (by omega)
                obtain ⟨wk1, wk2⟩ := w64 (x := (k : Int) + 1) (by omega) hk1
                clear hix hsuf hdr hle1 hlt1 hj2 hv2
                have HD9 := Lib.hid hd9
                clear hd9
                go_wp2_with fail
                clear wk1 wk2
                go_roundw
                case rel => exact ⟨k + 1, j2, x.s, hkn, hjj, hjl2, rfl, rfl, by first | rfl | go_num, by rw [HD9.out]; exact HR.out, HB3.out⟩
                case measure => simp [intOf] <;> omega
            · have dk : decide ((0 : Int) < (k : Int)) = false := decide_eq_false (by omega)
              have dkn : decide (0 < k) = false := decide_eq_false hk0
              clear hkb hky hle hk0
              have HC := Lib.hid (HN.out (j + 1) w2 (by omega) hfj (HL.out.on HB2.out))
              have HJ := Lib.hid hjI
              rw [hjI] at HC
              obtain ⟨wj1, wj2⟩ := w64 (x := (j : Int) + 1) (by omega) (by omega)
              clear hjI
              go_wp2_with fail
              clear wj1 wj2
              refine HC.out.mono ?_
              rintro e w3 ⟨rfl, hb3⟩
              have HB3 := Lib.hid (HB2.out.trans (hb3.mono HB2.out.size))
              clear hb3
              cases hv2 : vx f (v.drop (j + 1)) with
              | none =>
                have HR := Lib.hid (HE.out.trans (ix_prs_none hv2))
                rw [show ixR v.length none = -1 from rfl]
                clear hv2
                go_wp2_with fail
                go_ret
                exact ⟨by rw [HR.out]; rfl, HB3.out⟩
              | some R =>
                obtain ⟨l1, a1, b1⟩ := R
                obtain ⟨hsuf, hlt1⟩ := HS.out l1 a1 b1 hv2
                obtain ⟨hdr, hle1⟩ := drop_of hsuf (by omega)
                rw [List.length_drop] at hlt1
                obtain ⟨j2, hj2⟩ : ∃ j2 : Nat, v.length - l1.length = j2 := ⟨_, rfl⟩
                have HR := Lib.hid (HE.out.trans (ix_prs_some HBAD.out hv2))
                rw [hj2] at hdr
                rw [hdr] at HR
                have hix : ixR v.length (some (l1, a1, b1)) = (j2 : Int) := by show ((v.length - l1.length : Nat) : Int) = _; rw [hj2]
                rw [hix]
                have dj3 : decide ((j2 : Int) < 0) = false := decide_eq_false (by omega)
                have hjj : i ≤ j2 := by omega
                have hjl2 : j2 ≤ v.length := by omega
                have hd9 : decide (0 < k + 1) = true := decide_eq_true (by omega)
                obtain ⟨wk1, wk2⟩ := w64 (x := (k : Int) + 1) (by omega) hk1
                clear hix hsuf hdr hle1 hlt1 hj2 hv2
                have HD9 := Lib.hid hd9
                clear hd9
                go_wp2_with fail
                clear wk1 wk2
                go_roundw
                case rel => exact ⟨k + 1, j2, x.s, hkn, hjj, hjl2, rfl, rfl, by first | rfl | go_num, by rw [HD9.out]; exact HR.out, HB3.out⟩
                case measure => simp [intOf] <;> omega
      · obtain rfl : j = v.length := by omega
        have HD := Lib.hid (show v.drop v.length = [] from List.drop_length)
        rw [HD.out] at HE
        have HR := Lib.hid (HE.out.trans ix_prs_nil)
        go_wp2_with fail
        go_ret
        exact ⟨by rw [HR.out]; rfl, HB.out⟩
    · have hkn : n.toNat - k = 0 := by omega
      have d0 : decide ((k : Int) < n) = false := decide_eq_false hlt
      rw [hkn] at HE
      have HR := Lib.hid (show ((j : Nat) : Int) = ixR v.length (prs (vx f) n.toNat false ⟨#[]⟩ (v.drop i)) by
        rw [HE.out]
        show (j : Int) = ((v.length - (v.drop j).length : Nat) : Int)
        rw [List.length_drop]
        omega)
      clear hkn
      go_wp2_with fail
      go_ret
      exact ⟨ret_int HR.out, HB.out⟩
end
end Go.Proofs.YtbofclohnmojmaaGreatDoor
