/- The walks of the reference's Text and Chain, and of the table of Crc. -/
import Derived.Test.YtjjmdgiaohmjkaaDoorH6
namespace Go.Proofs.YtjjmdgiaohmjkaaDoor
open Go.RowKit
open Go.Sort (grow)

theorem Itoa_g (n : Nat) (h : n ≤ 1000000) (W : World) (d : Nat) (os : Array Obj) (hX : LaidH W) :
    Calls Tryd.prog 34 #[.int .i64 (n : Int)] (grow (redrawn W d) os) fun e w' => e = .returned (.string ⟨(Lib.itoa (n : Int)).toArray⟩) ∧ ∃ p : Regrown, w' = grow (redrawn W p.d) p.os :=
  Calls.regrown_of (Itoa_b n h _ (hX.below (below_regrown W d os)))
def chS (l : List ByteArray) : ByteArray := ⟨(chT l).toArray⟩
theorem chS_step {l : List ByteArray} {k : Nat} {t : ByteArray} (hk : l[k]? = some t) : chS (l.take (k + 1)) = chS (l.take k) ++ ⟨(Lib.itoa (t.size : Int)).toArray⟩ ++ ⟨#[58]⟩ ++ t := by
  apply ba_ext
  simp only [Joins.data_append]
  show chT (l.take (k + 1)) = ((chT (l.take k) ++ Lib.itoa (t.size : Int)) ++ [58]) ++ t.data.toList
  exact chT_step hk
theorem chS_size {l : List ByteArray} (h : okL l) (k : Nat) : (chS (l.take k)).size ≤ 11000000 := by
  have := chT_take h k
  rw [← size_len]; simpa [chS] using this
set_option maxHeartbeats 2000000 in
theorem rText_any (A : Option Addr) (c : Nat) (l : List ByteArray) (w : World) (hl : StrL w w.heap.size A l) (hok : okL l) (hX : LaidH w) :
    Calls Tryd.prog 22 #[.slice A l.length c] w fun e w' => e = .returned (.string (chS l)) ∧ Below w.heap.size w w' := by
  have HL := Lib.hid hl
  have HX := Lib.hid hX
  have HO := Lib.hid hok
  have hln := hok.1
  clear hl hX hok
  go_enter Tryd.func22, Tryd.ntmps22
  go_wp2_with fail
  go_loopw [3, 4] (fun s i wr => ∃ k : Nat, k ≤ l.length ∧ i = .int .i64 k ∧ s = .string (chS (l.take k)) ∧ Below w.heap.size w wr) (fun _ i _ => l.length - (intOf i).toNat)
  case atStart => exact ⟨0, Nat.zero_le _, rfl, rfl, Below.refl _ _⟩
  case round =>
    obtain ⟨k, hk, rfl, rfl, hbr⟩ := hrel
    have HB := Lib.hid hbr
    have hzr : w.heap.size ≤ wr.heap.size := hbr.size
    have hcs := chS_size HO.out k
    clear hbr
    by_cases hlt : k < l.length
    · obtain ⟨t, ht⟩ : ∃ t, l[k]? = some t := ⟨_, List.getElem?_eq_getElem hlt⟩
      have HS := Lib.hid (chS_step ht)
      have hts := HO.out.2 t (List.mem_of_getElem? ht)
      obtain ⟨b, o, rfl, -, c0⟩ := (HL.out.keep HB.out).cell ht
      have hki : (k : Int) < l.length := by omega
      have hk0 : (0 : Int) ≤ k := by omega
      have hz := Lib.itoa_length_le (t.size : Int) (by omega) (by omega)
      have H1 := Lib.hid (show t.size ≤ 1000000 by omega)
      have HW := Lib.hid (HX.out.below HB.out)
      have r0 := fun d os => cell_regrown c0 d os
      clear ht
      generalize chS (l.take k) = a at *
      go_wp2_with fail
      refine wp_region_quiet_below (by kernel_rfl) (by kernel_rfl) ?_
      repeat (go_big_quiet_step ((go_at_call 34; go_must (exact Itoa_g _ H1.out _ _ _ HW.out))))
      refine wpQuiet_nil ?_
      intro _ hw'
      obtain ⟨⟨dq, osq⟩, hw''⟩ := hw'
      subst hw''
      have hb := below_regrown wr dq osq
      have HB1 := Lib.hid (HB.out.trans (hb.mono hzr))
      clear hb r0 c0
      go_wp2_with fail
      go_roundw
      case rel => exact ⟨k + 1, by omega, by go_num, by rw [HS.out], HB1.out⟩
      case measure => simp [intOf]; omega
    · obtain rfl : k = l.length := by omega
      have HT := Lib.hid (List.take_length (l := l))
      rw [HT.out]
      go_wp2_with fail
      go_ret
      exact ⟨rfl, HB.out⟩
theorem rChain_any (A : Option Addr) (c : Nat) (l : List ByteArray) (w : World) (hl : StrL w w.heap.size A l) (hok : okL l) (hX : LaidH w) :
    Calls Tryd.prog 21 #[.slice A l.length c] w fun e w' => e = .returned (.int .u64 (fnv (chT l))) ∧ Below w.heap.size w w' := by
  have hsz : (chS l).size ≤ 9223372036854775807 := by have := chS_size hok l.length; rw [List.take_length] at this; omega
  have HSZ := Lib.hid hsz
  clear hsz
  go_enter Tryd.func21, Tryd.ntmps21
  go_wp2_with fail
  refine (rText_any A c l w hl hok hX).mono ?_
  rintro e w1 ⟨rfl, hb⟩
  have HB := Lib.hid hb
  clear hb
  go_wp2_with fail
  refine (rSum_any (chS l) w1 HSZ.out).mono ?_
  rintro e w2 ⟨rfl, rfl⟩
  go_wp2_with fail
  go_ret
  exact ⟨rfl, HB.out⟩

/-! ### the table -/
/-- The first i rows of the table. -/
def tabA (i : Nat) : Array Value := ((List.range 256).map fun j => Value.int .u32 (if j < i then (crN 8 j : Nat) else (0 : Nat) : Nat)).toArray
theorem tabA_at {i j : Nat} (hj : j < 256) : (tabA i)[j]? = some (.int .u32 (if j < i then (crN 8 j : Nat) else (0 : Nat) : Nat)) := by
  unfold tabA
  rw [List.getElem?_toArray, List.getElem?_map, List.getElem?_range hj]; rfl
theorem tabA_size (i : Nat) : (tabA i).size = 256 := by simp [tabA]
theorem tabA_set {i : Nat} (h : i < 256) : (tabA i).setIfInBounds i (.int .u32 (crN 8 i : Nat)) = tabA (i + 1) := by
  apply Array.ext_getElem?
  intro j
  rw [Array.getElem?_setIfInBounds]
  by_cases hj : j < 256
  · rw [tabA_at hj, tabA_at hj, tabA_size]
    by_cases e : i = j
    · subst e; rw [if_pos rfl, if_pos h, if_pos (by omega)]
    · rw [if_neg e]
      by_cases h1 : j < i
      · rw [if_pos h1, if_pos (by omega)]
      · rw [if_neg h1, if_neg (by omega)]
  · have e1 : (tabA i)[j]? = none := Array.getElem?_eq_none (by rw [tabA_size]; omega)
    have e2 : (tabA (i + 1))[j]? = none := Array.getElem?_eq_none (by rw [tabA_size]; omega)
    rw [e1, e2]
    by_cases e : i = j
    · omega
    · rw [if_neg e]
theorem tab_zero : Tryd.zeroCells55 = tabA 0 := by kernel_rfl
end Go.Proofs.YtjjmdgiaohmjkaaDoor
