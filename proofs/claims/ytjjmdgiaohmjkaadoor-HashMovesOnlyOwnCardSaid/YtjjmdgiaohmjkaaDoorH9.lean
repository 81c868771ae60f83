/- The walks of awake, short, and of four laws. -/
import Derived.Test.YtjjmdgiaohmjkaaDoorH8
namespace Go.Proofs.YtjjmdgiaohmjkaaDoor
open Go.RowKit
open Go.Sort (grow)

abbrev ffS : ByteArray := ⟨#[48, 48, 48, 48, 48, 48, 48, 48, 48, 48, 48, 48, 48, 48, 102, 102]⟩
theorem aw_un : unhI ffS.data.toList = (255, 0) := by decide +kernel
theorem aw_bk : bktI (⟨#[120]⟩ : ByteArray).data.toList 1 = (0, 0) := by decide +kernel
theorem aw_f0 : fnv (⟨#[]⟩ : ByteArray).data.toList = 14695981039346656037 := by decide +kernel
theorem aw_f1 : fnv (⟨#[97]⟩ : ByteArray).data.toList = 12638187200555641996 := by decide +kernel
theorem aw_cr : crcI (⟨#[49, 50, 51, 52, 53, 54, 55, 56, 57]⟩ : ByteArray).data.toList = 3421780262 := by decide +kernel
theorem aw_hx : hexS16 255 = ffS := by decide +kernel
set_option maxHeartbeats 2000000 in
theorem awake_any (w : World) (hX : LaidH w) : Calls Tryd.prog 12 #[] w fun e w' => e = .returned (.bool true) ∧ Below w.heap.size w w' := by
  have HX := Lib.hid hX
  clear hX
  go_enter Tryd.func12, Tryd.ntmps12
  go_wp2_with fail
  refine (Unhex_any ffS _ (HX.out.below (Below.refl w.heap.size w))).mono ?_
  rintro e w1 ⟨rfl, hb⟩
  have hbz := hb.size
  have HB1 := Lib.hid ((Below.refl w.heap.size w).trans (hb.mono (by first | exact Nat.le_refl _ | omega | (simp; done) | (simp; omega))))
  have hz1 : w.heap.size ≤ w1.heap.size := HB1.out.size
  clear hb hbz
  rw [aw_un]
  simp only [tup2u]
  go_wp2_with fail
  refine (Bucket_any ⟨#[120]⟩ 1 _ (by decide)).mono ?_
  rintro e wq ⟨rfl, rfl⟩
  rw [aw_bk]
  simp only [tup2]
  go_wp2_with fail
  refine (Sum_any ⟨#[]⟩ _ (by decide)).mono ?_
  rintro e wq ⟨rfl, rfl⟩
  rw [aw_f0]
  go_wp2_with fail
  refine (Sum_any ⟨#[97]⟩ _ (by decide)).mono ?_
  rintro e wq ⟨rfl, rfl⟩
  rw [aw_f1]
  go_wp2_with fail
  refine (Crc_any ⟨#[49, 50, 51, 52, 53, 54, 55, 56, 57]⟩ _ (by decide)).mono ?_
  rintro e w2 ⟨rfl, hb⟩
  have hbz := hb.size
  have HB2 := Lib.hid ((HB1.out).trans (hb.mono (by first | exact Nat.le_refl _ | omega | (simp; done) | (simp; omega))))
  have hz2 : w.heap.size ≤ w2.heap.size := HB2.out.size
  clear hb hbz
  rw [aw_cr]
  go_wp2_with fail
  refine (Hex_any 255 (by decide) _ (HX.out.below (HB2.out))).mono ?_
  rintro e w3 ⟨rfl, hb⟩
  have hbz := hb.size
  have HB3 := Lib.hid ((HB2.out).trans (hb.mono (by first | exact Nat.le_refl _ | omega | (simp; done) | (simp; omega))))
  have hz3 : w.heap.size ≤ w3.heap.size := HB3.out.size
  clear hb hbz
  rw [aw_hx]
  go_wp2_with fail
  go_ret
  exact ⟨rfl, HB3.out⟩

/-! ### short -/
def shB (m : Int) (l : List ByteArray) : Bool := decide ((l.length : Int) ≤ m) && l.all fun t => decide (t.size ≤ 200)
theorem sh_long {m : Int} {l : List ByteArray} (h : m < l.length) : false = shB m l := by unfold shB; rw [decide_eq_false (by omega), Bool.false_and]
theorem sh_big {m : Int} {l : List ByteArray} {k : Nat} {t : ByteArray} (hk : l[k]? = some t) (h : 200 < t.size) : false = shB m l := by
  unfold shB
  have : l.all (fun t => decide (t.size ≤ 200)) = false := by
    rw [List.all_eq_false]; exact ⟨t, List.mem_of_getElem? hk, by simpa using h⟩
  rw [this, Bool.and_false]
theorem sh_yes {m : Int} {l : List ByteArray} (h : (l.length : Int) ≤ m) (ha : ∀ t ∈ l, t.size ≤ 200) : true = shB m l := by
  unfold shB
  rw [decide_eq_true h, Bool.true_and, eq_comm, List.all_eq_true]
  intro t ht; simpa using ha t ht
theorem sh_ok {m : Int} {l : List ByteArray} (h : shB m l = true) : (l.length : Int) ≤ m ∧ ∀ t ∈ l, t.size ≤ 200 := by
  unfold shB at h
  rw [Bool.and_eq_true, decide_eq_true_iff, List.all_eq_true] at h
  exact ⟨h.1, fun t ht => by simpa using h.2 t ht⟩
theorem take_all {l : List ByteArray} {k : Nat} {t : ByteArray} (hk : l[k]? = some t) (ha : ∀ x ∈ l.take k, x.size ≤ 200) (h : t.size ≤ 200) : ∀ x ∈ l.take (k + 1), x.size ≤ 200 := by
  intro x hx
  rw [List.take_add_one, hk] at hx
  rcases List.mem_append.1 hx with hx | hx
  · exact ha x hx
  · simp at hx; rw [hx]; exact h
set_option maxHeartbeats 1000000 in
theorem short_any (A : Option Addr) (c : Nat) (l : List ByteArray) (m : Int) (w : World) (hl : StrL w w.heap.size A l) (hsz : ∀ t ∈ l, t.size ≤ 9223372036854775807) (hln : l.length ≤ 9223372036854775807) :
    Calls Tryd.prog 15 #[.slice A l.length c, .int .i64 m] w fun e w' => e = .returned (.bool (shB m l)) ∧ w = w' := by
  have HL := Lib.hid hl
  have HS := Lib.hid hsz
  have HN := Lib.hid hln
  clear hl hsz hln
  by_cases hm : m < l.length
  · have hd : decide (m < (l.length : Int)) = true := decide_eq_true hm
    have HE := Lib.hid (sh_long hm)
    go_enter Tryd.func15, Tryd.ntmps15
    go_wp2_with fail
    go_ret
    exact ⟨ret_bool HE.out, rfl⟩
  · have hd : decide (m < (l.length : Int)) = false := decide_eq_false hm
    have HM := Lib.hid hm
    have hln : (l.length : Int) ≤ 9223372036854775807 := by have := HN.out; omega
    clear hm
    go_enter Tryd.func15, Tryd.ntmps15
    go_wp2_with fail
    go_loop [5, 12] (fun _ i => ∃ k : Nat, k ≤ l.length ∧ i = .int .i64 k ∧ ∀ x ∈ l.take k, x.size ≤ 200) (fun _ i => l.length - (intOf i).toNat)
    case atStart => exact ⟨0, Nat.zero_le _, rfl, by simp⟩
    case round =>
      obtain ⟨k, hk, rfl, ha⟩ := hrel
      have HA := Lib.hid ha
      clear ha
      by_cases hlt : k < l.length
      · obtain ⟨t, ht⟩ : ∃ t, l[k]? = some t := ⟨_, List.getElem?_eq_getElem hlt⟩
        have hts := HS.out t (List.mem_of_getElem? ht)
        obtain ⟨b, o, rfl, -, c0⟩ := HL.out.cell ht
        have HT := Lib.hid ht
        have hki : (k : Int) < l.length := by omega
        have hk0 : (0 : Int) ≤ k := by omega
        clear ht
        by_cases h2 : t.size ≤ 200
        · have HQ := Lib.hid (take_all HT.out HA.out h2)
          have hd2 : decide ((200 : Int) < (t.size : Int)) = false := decide_eq_false (by omega)
          go_wp2_with fail
          go_round
          case rel => exact ⟨k + 1, by omega, by go_num, HQ.out⟩
          case measure => simp [intOf]; omega
        · have HQ := Lib.hid (sh_big (m := m) HT.out (by omega))
          have hd2 : decide ((200 : Int) < (t.size : Int)) = true := decide_eq_true (by omega)
          go_wp2_with fail
          go_ret
          exact ⟨ret_bool HQ.out, rfl⟩
      · obtain rfl : k = l.length := by omega
        have HT := Lib.hid (List.take_length (l := l))
        have HQ := Lib.hid (sh_yes (m := m) (l := l) (by have := HM.out; omega) (by have := HA.out; rw [HT.out] at this; exact this))
        go_wp2_with fail
        go_ret
        exact ⟨ret_bool HQ.out, rfl⟩

set_option maxHeartbeats 4000000 in
theorem law_buckets (s : ByteArray) (n : Int) (w : World) (hX : LaidH w) (hs : s.size ≤ 9223372036854775807) :
    Calls Tryd.prog 4 #[.string s, .int .i64 n] w fun e w' => e = .returned (.bool true) ∧ Below w.heap.size w w' := by
  have HX := Lib.hid hX
  clear hX
  by_cases h4 : s.size ≤ 4000
  · have hd : decide ((4000 : Int) < (s.size : Int)) = false := decide_eq_false (by omega)
    have HS := Lib.hid hs
    clear hs
    go_enter Tryd.func4, Tryd.ntmps4
    go_wp2_with fail
    refine (Bucket_any s n _ (by have := HS.out; omega)).mono ?_
    rintro e wq ⟨rfl, rfl⟩
    generalize hb : bktI s.data.toList n = F at *
    obtain ⟨b, e⟩ := F
    have HB := Lib.hid hb
    clear hb
    simp only [tup2]
    go_wp2_with fail
    refine (rBucket_any s n _ (by have := HS.out; omega)).mono ?_
    rintro e wq ⟨rfl, rfl⟩
    rw [HB.out]
    simp only [tup2]
    go_wp2_with fail
    refine (awake_any _ (HX.out.below (Below.refl w.heap.size w))).mono ?_
    rintro e w1 ⟨rfl, hb⟩
    have hbz := hb.size
    have HB1 := Lib.hid ((Below.refl w.heap.size w).trans (hb.mono (by first | exact Nat.le_refl _ | omega | (simp; done) | (simp; omega))))
    have hz1 : w.heap.size ≤ w1.heap.size := HB1.out.size
    clear hb hbz
    go_wp2_with fail
    go_ret
    exact ⟨rfl, HB1.out⟩
  · have hd : decide ((4000 : Int) < (s.size : Int)) = true := decide_eq_true (by omega)
    go_enter Tryd.func4, Tryd.ntmps4
    go_wp2_with fail
    refine (awake_any _ (HX.out.below (Below.refl w.heap.size w))).mono ?_
    rintro e w1 ⟨rfl, hb⟩
    have hbz := hb.size
    have HB1 := Lib.hid ((Below.refl w.heap.size w).trans (hb.mono (by first | exact Nat.le_refl _ | omega | (simp; done) | (simp; omega))))
    have hz1 : w.heap.size ≤ w1.heap.size := HB1.out.size
    clear hb hbz
    go_wp2_with fail
    go_ret
    exact ⟨rfl, HB1.out⟩

set_option maxHeartbeats 4000000 in
theorem law_hexes (n : Nat) (hn : n < 18446744073709551616) (s : ByteArray) (w : World) (hX : LaidH w) (hs : s.size ≤ 9223372036854775807) :
    Calls Tryd.prog 3 #[.int .u64 (n : Int), .string s] w fun e w' => e = .returned (.bool true) ∧ Below w.heap.size w w' := by
  have HX := Lib.hid hX
  clear hX
  have HN := Lib.hid hn
  have HS := Lib.hid hs
  have HU := Lib.hid (show unhI (hexS16 n).data.toList = ((n : Int), 0) from unh_hexL hn)
  have hz16 : (hexS16 n).size = 16 := by rw [← size_len]; exact hexL_len 16 n
  have HZ := Lib.hid hz16
  clear hn hs hz16
  go_enter Tryd.func3, Tryd.ntmps3
  go_wp2_with fail
  refine (Hex_any n HN.out _ (HX.out.below (Below.refl w.heap.size w))).mono ?_
  rintro e w1 ⟨rfl, hb⟩
  have hbz := hb.size
  have HB1 := Lib.hid ((Below.refl w.heap.size w).trans (hb.mono (by first | exact Nat.le_refl _ | omega | (simp; done) | (simp; omega))))
  have hz1 : w.heap.size ≤ w1.heap.size := HB1.out.size
  clear hb hbz
  go_wp2_with fail
  refine (Unhex_any (hexS16 n) _ (HX.out.below (HB1.out))).mono ?_
  rintro e w2 ⟨rfl, hb⟩
  have hbz := hb.size
  have HB2 := Lib.hid ((HB1.out).trans (hb.mono (by first | exact Nat.le_refl _ | omega | (simp; done) | (simp; omega))))
  have hz2 : w.heap.size ≤ w2.heap.size := HB2.out.size
  clear hb hbz
  rw [HU.out]
  simp only [tup2u]
  go_wp2_with fail
  refine (Unhex_any s _ (HX.out.below (HB2.out))).mono ?_
  rintro e w3 ⟨rfl, hb⟩
  have hbz := hb.size
  have HB3 := Lib.hid ((HB2.out).trans (hb.mono (by first | exact Nat.le_refl _ | omega | (simp; done) | (simp; omega))))
  have hz3 : w.heap.size ≤ w3.heap.size := HB3.out.size
  clear hb hbz
  generalize hu : unhI s.data.toList = F at *
  obtain ⟨v, x⟩ := F
  have HF := Lib.hid hu
  clear hu
  simp only [tup2u]
  go_wp2_with fail
  refine (rUnhex_any s _ (by have := HS.out; omega)).mono ?_
  rintro e wq ⟨rfl, rfl⟩
  rw [HF.out]
  simp only [tup2u]
  have hz16 := HZ.out
  generalize hexS16 n = h at *
  clear HZ
  by_cases hx : x = 0
  · subst hx
    obtain ⟨m, rfl, hm, hml⟩ := unh_ok HF.out
    have HM := Lib.hid hm
    have hq : ((hexS16 m).toList == s.toList) = true := by rw [Lib.toList_data, Lib.toList_data]; show (hexL m 16 == _) = true; rw [hml]; simp
    clear hm hml
    go_wp2_with fail
    refine (Hex_any m HM.out _ (HX.out.below (HB3.out))).mono ?_
    rintro e w4 ⟨rfl, hb⟩
    have hbz := hb.size
    have HB4 := Lib.hid ((HB3.out).trans (hb.mono (by first | exact Nat.le_refl _ | omega | (simp; done) | (simp; omega))))
    have hz4 : w.heap.size ≤ w4.heap.size := HB4.out.size
    clear hb hbz
    generalize hexS16 m = g at *
    go_wp2_with fail
    refine (awake_any _ (HX.out.below (HB4.out))).mono ?_
    rintro e w5 ⟨rfl, hb⟩
    have hbz := hb.size
    have HB5 := Lib.hid ((HB4.out).trans (hb.mono (by first | exact Nat.le_refl _ | omega | (simp; done) | (simp; omega))))
    have hz5 : w.heap.size ≤ w5.heap.size := HB5.out.size
    clear hb hbz
    go_wp2_with fail
    go_ret
    exact ⟨rfl, HB5.out⟩
  · have hxb : (x != 0) = true := bne_iff_ne.2 hx
    clear hx
    go_wp2_with fail
    refine (awake_any _ (HX.out.below (HB3.out))).mono ?_
    rintro e w4 ⟨rfl, hb⟩
    have hbz := hb.size
    have HB4 := Lib.hid ((HB3.out).trans (hb.mono (by first | exact Nat.le_refl _ | omega | (simp; done) | (simp; omega))))
    have hz4 : w.heap.size ≤ w4.heap.size := HB4.out.size
    clear hb hbz
    go_wp2_with fail
    go_ret
    exact ⟨rfl, HB4.out⟩

set_option maxHeartbeats 4000000 in
theorem law_sums (s : ByteArray) (A : Option Addr) (c : Nat) (l : List ByteArray) (w : World) (hX : LaidH w) (hs : s.size ≤ 9223372036854775807) (hl : StrL w w.heap.size A l) (hsz : ∀ t ∈ l, t.size ≤ 9223372036854775807) (hln : l.length ≤ 9223372036854775807) :
    Calls Tryd.prog 5 #[.string s, .slice A l.length c] w fun e w' => e = .returned (.bool true) ∧ Below w.heap.size w w' := by
  have HX := Lib.hid hX
  clear hX
  have HL := Lib.hid hl
  have HS := Lib.hid hs
  have HZ := Lib.hid hsz
  have HN := Lib.hid hln
  clear hs hl hsz hln
  by_cases h4 : s.size ≤ 4000
  · have hd : decide ((4000 : Int) < (s.size : Int)) = false := decide_eq_false (by omega)
    clear h4
    go_enter Tryd.func5, Tryd.ntmps5
    go_wp2_with fail
    refine (short_any A c l 20 _ HL.out HZ.out HN.out).mono ?_
    rintro e wq ⟨rfl, rfl⟩
    cases hsh : shB 20 l
    · clear hsh
      go_wp2_with fail
      refine (awake_any _ (HX.out.below (Below.refl w.heap.size w))).mono ?_
      rintro e w1 ⟨rfl, hb⟩
      have hbz := hb.size
      have HB1 := Lib.hid ((Below.refl w.heap.size w).trans (hb.mono (by first | exact Nat.le_refl _ | omega | (simp; done) | (simp; omega))))
      have hz1 : w.heap.size ≤ w1.heap.size := HB1.out.size
      clear hb hbz
      go_wp2_with fail
      go_ret
      exact ⟨rfl, HB1.out⟩
    · have HO := Lib.hid (show okL l from ⟨by have := (sh_ok hsh).1; omega, fun t ht => by have := (sh_ok hsh).2 t ht; omega⟩)
      clear hsh
      go_wp2_with fail
      refine (Sum_any s _ (by have := HS.out; omega)).mono ?_
      rintro e wq ⟨rfl, rfl⟩
      go_wp2_with fail
      refine (rSum_any s _ (by have := HS.out; omega)).mono ?_
      rintro e wq ⟨rfl, rfl⟩
      go_wp2_with fail
      refine (Crc_any s _ (by have := HS.out; omega)).mono ?_
      rintro e w1 ⟨rfl, hb⟩
      have hbz := hb.size
      have HB1 := Lib.hid ((Below.refl w.heap.size w).trans (hb.mono (by first | exact Nat.le_refl _ | omega | (simp; done) | (simp; omega))))
      have hz1 : w.heap.size ≤ w1.heap.size := HB1.out.size
      clear hb hbz
      go_wp2_with fail
      refine (rCrc_any s _ (by have := HS.out; omega)).mono ?_
      rintro e wq ⟨rfl, rfl⟩
      go_wp2_with fail
      refine (Chain_any A c l _ ((HL.out.keep (HB1.out)).more (HB1.out).size) HO.out (HX.out.below (HB1.out))).mono ?_
      rintro e w2 ⟨rfl, hb⟩
      have hbz := hb.size
      have HB2 := Lib.hid ((HB1.out).trans (hb.mono (by first | exact Nat.le_refl _ | omega | (simp; done) | (simp; omega))))
      have hz2 : w.heap.size ≤ w2.heap.size := HB2.out.size
      clear hb hbz
      go_wp2_with fail
      refine (rChain_any A c l _ ((HL.out.keep (HB2.out)).more (HB2.out).size) HO.out (HX.out.below (HB2.out))).mono ?_
      rintro e w3 ⟨rfl, hb⟩
      have hbz := hb.size
      have HB3 := Lib.hid ((HB2.out).trans (hb.mono (by first | exact Nat.le_refl _ | omega | (simp; done) | (simp; omega))))
      have hz3 : w.heap.size ≤ w3.heap.size := HB3.out.size
      clear hb hbz
      go_wp2_with fail
      refine (awake_any _ (HX.out.below (HB3.out))).mono ?_
      rintro e w4 ⟨rfl, hb⟩
      have hbz := hb.size
      have HB4 := Lib.hid ((HB3.out).trans (hb.mono (by first | exact Nat.le_refl _ | omega | (simp; done) | (simp; omega))))
      have hz4 : w.heap.size ≤ w4.heap.size := HB4.out.size
      clear hb hbz
      go_wp2_with fail
      go_ret
      exact ⟨rfl, HB4.out⟩
  · have hd : decide ((4000 : Int) < (s.size : Int)) = true := decide_eq_true (by omega)
    clear h4
    go_enter Tryd.func5, Tryd.ntmps5
    go_wp2_with fail
    refine (awake_any _ (HX.out.below (Below.refl w.heap.size w))).mono ?_
    rintro e w1 ⟨rfl, hb⟩
    have hbz := hb.size
    have HB1 := Lib.hid ((Below.refl w.heap.size w).trans (hb.mono (by first | exact Nat.le_refl _ | omega | (simp; done) | (simp; omega))))
    have hz1 : w.heap.size ≤ w1.heap.size := HB1.out.size
    clear hb hbz
    go_wp2_with fail
    go_ret
    exact ⟨rfl, HB1.out⟩
end Go.Proofs.YtjjmdgiaohmjkaaDoor
