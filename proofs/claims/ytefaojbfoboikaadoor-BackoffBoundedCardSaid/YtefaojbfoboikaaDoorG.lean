/- The walks of the two Jitter. -/
import Derived.Test.YtefaojbfoboikaaDoorF
import Derived.WalkSmall
namespace Go.Proofs.YtefaojbfoboikaaDoor
open Go.RowKit

/-- What the walks ask of the listed variables. -/
structure LaidW (w : World) : Prop where
  tab : Lib.TabIs Tryd.prog w "internal/strconv.uint64pow10" .u64 Lib.pow10Tab
theorem LaidW.below {W W' : World} (h : LaidW W) (hb : Below W.heap.size W W') : LaidW W' := ⟨(Lib.tabBelow_of_tabIs h.tab) _ hb⟩
/-- The key of a jitter. -/
def jkey (id : ByteArray) (t : Int) : ByteArray := id ++ ⟨#[35]⟩ ++ ⟨(Lib.itoa t).toArray⟩
def jitI (a b f c m t : Int) (id : ByteArray) : Int × Int :=
  if (delI a b f c m t).2 = 0 then
    (if idL id = true then ((delI a b f c m t).1 / 2 + fnv (jkey id t).data.toList % ((delI a b f c m t).1 - (delI a b f c m t).1 / 2 + 1), 0) else (0, 4))
  else (0, (delI a b f c m t).2)
theorem delI_cases (a b f c m t : Int) : delI a b f c m t = (0, 2) ∨ ∃ d, delI a b f c m t = (d, 0) ∧ 1 ≤ d ∧ d ≤ 1073741824 ∧ 1 ≤ t ∧ t < a ∧ a ≤ 10 ∧ d = dl b f c (t.toNat - 1) ∧ RP.ok ⟨a, b, f, c, m⟩ = true := by
  unfold delI
  split
  · rename_i h
    split
    · rename_i ht
      have hbd := (RP.ok_iff _).1 h
      simp only at hbd
      obtain ⟨a1, a2, b1, -, f1, -, c1, c2, -, -⟩ := hbd
      obtain ⟨d1, d2, -⟩ := dl_bd b1 f1 c1 (t.toNat - 1)
      exact .inr ⟨_, rfl, d1, by omega, ht.1, ht.2, a2, rfl, h⟩
    · exact .inl rfl
  · exact .inl rfl
theorem key_size (id : ByteArray) (t : Int) (h : idL id = true) (h0 : -9223372036854775808 ≤ t) (h1 : t ≤ 9223372036854775807) : (jkey id t).size ≤ 9223372036854775807 ∧ id.size ≤ 64 := by
  have hi : id.size ≤ 64 := by
    unfold idL at h
    rw [Bool.and_eq_true] at h
    exact (of_decide_eq_true h.1).2
  have hl := Lib.itoa_length_le t h0 h1
  refine ⟨?_, hi⟩
  rw [← size_len]
  unfold jkey
  rw [Joins.data_append, Joins.data_append, List.length_append, List.length_append, size_len]
  simp
  omega
theorem jit_err {a b f c m t : Int} {id : ByteArray} (h : delI a b f c m t = (0, 2)) : jitI a b f c m t id = (0, 2) := by unfold jitI; rw [h]; rfl
theorem jit_name {a b f c m t d : Int} {id : ByteArray} (h : delI a b f c m t = (d, 0)) (hi : idL id = false) : jitI a b f c m t id = (0, 4) := by unfold jitI; rw [h]; simp [hi]
theorem jit_ok {a b f c m t d : Int} {id : ByteArray} (h : delI a b f c m t = (d, 0)) (hi : idL id = true) : jitI a b f c m t id = (d / 2 + fnv (jkey id t).data.toList % (d - d / 2 + 1), 0) := by unfold jitI; rw [h]; simp [hi]
set_option maxHeartbeats 1000000 in
theorem Jitter_any (a b f c m t : Int) (id : ByteArray) (w : World) (hb1 : -9223372036854775808 ≤ a) (hb2 : a ≤ 9223372036854775807) (hs : id.size ≤ 9223372036854775807) (hX : LaidW w) :
    Calls Tryd.prog 12 #[.agg #[.int .i64 a, .int .i64 b, .int .i64 f, .int .i64 c, .int .i64 m], .int .i64 t, .string id] w fun e w' => e = .returned (tup2 (jitI a b f c m t id)) ∧ Below w.heap.size w w' := by
  have HX := Lib.hid hX
  have HC := Lib.hid (delI_cases a b f c m t)
  clear hX
  go_enter Tryd.func12, Tryd.ntmps12
  go_wp2_with fail
  refine (Delay_any a b f c m t _ hb1 hb2).mono ?_
  rintro e w1 ⟨rfl, hb1'⟩
  have k1 : Below w.heap.size w w1 := ((Below.refl _ _).alloc (Nat.le_refl _) _).trans (hb1'.mono (by simp))
  clear hb1'
  simp only [tup2]
  rcases HC.out with h | ⟨d, h, d1, d2, t1, t2, a2, -, -⟩
  · have HD := Lib.hid (jit_err (id := id) h)
    rw [h]
    clear h
    go_wp2_with fail
    go_ret2
    exact ⟨ret_tup2 HD.out, k1⟩
  · have HH := Lib.hid h
    rw [h]
    clear h hb1 hb2
    go_wp2_with fail
    refine (ID_any id _ hs).mono ?_
    rintro e w2 ⟨rfl, hb2⟩
    have k2 := k1.trans (hb2.mono k1.size)
    clear hb2
    cases hi : idL id
    · have HD := Lib.hid (jit_name HH.out hi)
      clear hi
      go_wp2_with fail
      go_ret2
      exact ⟨ret_tup2 HD.out, k2⟩
    · obtain ⟨hk, hi64⟩ := key_size id t hi (by omega) (by omega)
      have hil := Lib.itoa_length_le t (by omega) (by omega)
      have HD := Lib.hid (jit_ok HH.out hi)
      clear hi
      go_wp2_with fail
      refine (Format_any t (by omega) (by omega) _ (HX.out.below k2).tab).mono ?_
      rintro e w3 ⟨rfl, hb3⟩
      have k3 := k2.trans (hb3.mono k2.size)
      clear hb3
      have hbk : bktI (jkey id t).data.toList (d - d / 2 + 1) = (fnv (jkey id t).data.toList % (d - d / 2 + 1), 0) := by unfold bktI; rw [if_pos (by omega)]
      have hm1 := Int.emod_nonneg (fnv (jkey id t).data.toList) (show d - d / 2 + 1 ≠ 0 by omega)
      have hm2 := Int.emod_lt_of_pos (fnv (jkey id t).data.toList) (show 0 < d - d / 2 + 1 by omega)
      have HB := Lib.hid hbk
      have HK := Lib.hid hk
      clear hbk hk
      generalize hr : fnv (jkey id t).data.toList % (d - d / 2 + 1) = r at *
      clear hr
      go_wp2_with fail
      refine (Bucket_any (jkey id t) _ _ HK.out).mono ?_
      rintro e w4 ⟨rfl, rfl⟩
      rw [HB.out]
      simp only [tup2]
      go_wp2_with fail
      go_ret2
      exact ⟨ret_tup2 HD.out, k3⟩
set_option maxHeartbeats 1000000 in
theorem rJitter_any (a b f c m t : Int) (id : ByteArray) (w : World) (hs : id.size ≤ 9223372036854775807) :
    Calls Tryd.prog 13 #[.agg #[.int .i64 a, .int .i64 b, .int .i64 f, .int .i64 c, .int .i64 m], .int .i64 t, .string id] w fun e w' => e = .returned (tup2 (jitI a b f c m t id)) ∧ Below w.heap.size w w' := by
  have HC := Lib.hid (delI_cases a b f c m t)
  go_enter Tryd.func13, Tryd.ntmps13
  go_wp2_with fail
  refine (rDelay_any a b f c m t _).mono ?_
  rintro e w1 ⟨rfl, hb1'⟩
  have k1 : Below w.heap.size w w1 := ((Below.refl _ _).alloc (Nat.le_refl _) _).trans (hb1'.mono (by simp))
  clear hb1'
  simp only [tup2]
  rcases HC.out with h | ⟨d, h, d1, d2, t1, t2, a2, -, -⟩
  · have HD := Lib.hid (jit_err (id := id) h)
    rw [h]
    clear h
    go_wp2_with fail
    go_ret2
    exact ⟨ret_tup2 HD.out, k1⟩
  · have HH := Lib.hid h
    rw [h]
    clear h
    go_wp2_with fail
    refine (rID_any id _ hs).mono ?_
    rintro e w2 ⟨rfl, hb2⟩
    have k2 := k1.trans (hb2.mono k1.size)
    clear hb2
    cases hi : idL id
    · have HD := Lib.hid (jit_name HH.out hi)
      clear hi
      go_wp2_with fail
      go_ret2
      exact ⟨ret_tup2 HD.out, k2⟩
    · obtain ⟨hk, hi64⟩ := key_size id t hi (by omega) (by omega)
      have hil := Lib.itoa_length_le t (by omega) (by omega)
      have HD := Lib.hid (jit_ok HH.out hi)
      clear hi
      go_wp2_with fail
      refine (rFormat_any t _ (by omega) (by omega)).mono ?_
      rintro e w3 ⟨rfl, hb3⟩
      have k3 := k2.trans (hb3.mono k2.size)
      clear hb3
      have hbk : bktI (jkey id t).data.toList (d - d / 2 + 1) = (fnv (jkey id t).data.toList % (d - d / 2 + 1), 0) := by unfold bktI; rw [if_pos (by omega)]
      have hm1 := Int.emod_nonneg (fnv (jkey id t).data.toList) (show d - d / 2 + 1 ≠ 0 by omega)
      have hm2 := Int.emod_lt_of_pos (fnv (jkey id t).data.toList) (show 0 < d - d / 2 + 1 by omega)
      have HB := Lib.hid hbk
      have HK := Lib.hid hk
      clear hbk hk
      generalize hr : fnv (jkey id t).data.toList % (d - d / 2 + 1) = r at *
      clear hr
      go_wp2_with fail
      refine (rBucket_any (jkey id t) _ _ HK.out).mono ?_
      rintro e w4 ⟨rfl, rfl⟩
      rw [HB.out]
      simp only [tup2]
      go_wp2_with fail
      go_ret2
      exact ⟨ret_tup2 HD.out, k3⟩
end Go.Proofs.YtefaojbfoboikaaDoor
