/- The walk of HashChains. -/
import Derived.Test.YtjjmdgiaohmjkaaDoorH9
namespace Go.Proofs.YtjjmdgiaohmjkaaDoor
open Go.RowKit
open Go.Sort (grow)

theorem strs_new (w : World) (l : List ByteArray) (T : TypeId) : StrL (w.alloc (.cells (svals l).toArray T)) (w.alloc (.cells (svals l).toArray T)).heap.size (some ⟨w.heap.size, 0, none⟩) l := by
  refine ⟨by simp [svals], fun _ => ⟨w.heap.size, 0, rfl, by simp, fun j u hu => ?_⟩⟩
  rw [Nat.zero_add, cell_of_row _ _ _ _ _ (0, 0) (heap_alloc_new w _)]
  simpa using hu
theorem nil_data : (⟨#[]⟩ : ByteArray).data.toList = [] := rfl
theorem chS_data (l : List ByteArray) : (chS l).data.toList = chT l := rfl
theorem Chain2 (g : Nat) (a b : ByteArray) (w : World) (hg : g = w.heap.size) (hok : okL [a, b]) (hX : LaidH (w.alloc (.cells #[.string a, .string b] 9))) :
    Calls Tryd.prog 20 #[.slice (some ⟨g, 0, none⟩) 2 2] (w.alloc (.cells #[.string a, .string b] 9)) fun e w' => e = .returned (.int .u64 (fnv (chT [a, b]))) ∧ Below (w.alloc (.cells #[.string a, .string b] 9)).heap.size (w.alloc (.cells #[.string a, .string b] 9)) w' := by
  subst hg; exact Chain_any _ 2 [a, b] _ (strs_new w [a, b] 9) hok hX
theorem Text2 (g : Nat) (a b : ByteArray) (w : World) (hg : g = w.heap.size) (hok : okL [a, b]) (hX : LaidH (w.alloc (.cells #[.string a, .string b] 9))) :
    Calls Tryd.prog 22 #[.slice (some ⟨g, 0, none⟩) 2 2] (w.alloc (.cells #[.string a, .string b] 9)) fun e w' => e = .returned (.string (chS [a, b])) ∧ Below (w.alloc (.cells #[.string a, .string b] 9)).heap.size (w.alloc (.cells #[.string a, .string b] 9)) w' := by
  subst hg; exact rText_any _ 2 [a, b] _ (strs_new w [a, b] 9) hok hX
theorem Chain1 (g : Nat) (a : ByteArray) (w : World) (hg : g = w.heap.size) (hok : okL [a]) (hX : LaidH (w.alloc (.cells #[.string a] 9))) :
    Calls Tryd.prog 20 #[.slice (some ⟨g, 0, none⟩) 1 1] (w.alloc (.cells #[.string a] 9)) fun e w' => e = .returned (.int .u64 (fnv (chT [a]))) ∧ Below (w.alloc (.cells #[.string a] 9)).heap.size (w.alloc (.cells #[.string a] 9)) w' := by
  subst hg; exact Chain_any _ 1 [a] _ (strs_new w [a] 9) hok hX
theorem Text1 (g : Nat) (a : ByteArray) (w : World) (hg : g = w.heap.size) (hok : okL [a]) (hX : LaidH (w.alloc (.cells #[.string a] 9))) :
    Calls Tryd.prog 22 #[.slice (some ⟨g, 0, none⟩) 1 1] (w.alloc (.cells #[.string a] 9)) fun e w' => e = .returned (.string (chS [a])) ∧ Below (w.alloc (.cells #[.string a] 9)).heap.size (w.alloc (.cells #[.string a] 9)) w' := by
  subst hg; exact rText_any _ 1 [a] _ (strs_new w [a] 9) hok hX
theorem Chain0 (w : World) (hX : LaidH w) :
    Calls Tryd.prog 20 #[.slice none 0 0] w fun e w' => e = .returned (.int .u64 (fnv [])) ∧ Below w.heap.size w w' :=
  Chain_any none 0 [] w Reads.none_ ⟨by simp, by simp⟩ hX
theorem chS_sz {l : List ByteArray} (h : okL l) : (chS l).size ≤ 9223372036854775807 := by
  have := chS_size h l.length
  rw [List.take_length] at this; omega
set_option maxHeartbeats 4000000 in
theorem law_chains (a b : ByteArray) (w : World) (hX : LaidH w) (hsa : a.size ≤ 9223372036854775807) (hsb : b.size ≤ 9223372036854775807) :
    Calls Tryd.prog 6 #[.string a, .string b] w fun e w' => e = .returned (.bool true) ∧ Below w.heap.size w w' := by
  have HX := Lib.hid hX
  clear hX
  by_cases h4 : a.size ≤ 200 ∧ b.size ≤ 200
  · obtain ⟨ha, hb⟩ := h4
    have hd1 : decide ((200 : Int) < (a.size : Int)) = false := decide_eq_false (by omega)
    have hd2 : decide ((200 : Int) < (b.size : Int)) = false := decide_eq_false (by omega)
    have HO2 := Lib.hid (show okL [a, b] from ⟨by simp, fun t ht => by simp at ht; rcases ht with rfl | rfl <;> omega⟩)
    have HO1 := Lib.hid (show okL [a ++ b] from ⟨by simp, fun t ht => by simp at ht; rw [ht, ByteArray.size_append]; omega⟩)
    clear hsa hsb
    go_enter Tryd.func6, Tryd.ntmps6
    go_wp2_with fail
    refine (Chain2 _ a b _ rfl HO2.out (HX.out.below ((Below.refl w.heap.size w).alloc (by first | exact Nat.le_refl _ | omega | (simp; done) | (simp; omega)) _))).mono ?_
    rintro e w1 ⟨rfl, hb⟩
    have hbz := hb.size
    have HB1 := Lib.hid (((Below.refl w.heap.size w).alloc (by first | exact Nat.le_refl _ | omega | (simp; done) | (simp; omega)) _).trans (hb.mono (by first | exact Nat.le_refl _ | omega | (simp; done) | (simp; omega))))
    have hz1 : w.heap.size ≤ w1.heap.size := HB1.out.size
    clear hb hbz
    go_wp2_with fail
    refine (Text2 _ a b _ rfl HO2.out (HX.out.below ((HB1.out).alloc (by first | exact Nat.le_refl _ | omega | (simp; done) | (simp; omega)) _))).mono ?_
    rintro e w2 ⟨rfl, hb⟩
    have hbz := hb.size
    have HB2 := Lib.hid (((HB1.out).alloc (by first | exact Nat.le_refl _ | omega | (simp; done) | (simp; omega)) _).trans (hb.mono (by first | exact Nat.le_refl _ | omega | (simp; done) | (simp; omega))))
    have hz2 : w.heap.size ≤ w2.heap.size := HB2.out.size
    clear hb hbz
    go_wp2_with fail
    refine (Sum_any (chS [a, b]) _ (chS_sz HO2.out)).mono ?_
    rintro e wq ⟨rfl, rfl⟩
    rw [chS_data]
    go_wp2_with fail
    refine (Chain1 _ (a ++ b) _ rfl HO1.out (HX.out.below ((HB2.out).alloc (by first | exact Nat.le_refl _ | omega | (simp; done) | (simp; omega)) _))).mono ?_
    rintro e w3 ⟨rfl, hb⟩
    have hbz := hb.size
    have HB3 := Lib.hid (((HB2.out).alloc (by first | exact Nat.le_refl _ | omega | (simp; done) | (simp; omega)) _).trans (hb.mono (by first | exact Nat.le_refl _ | omega | (simp; done) | (simp; omega))))
    have hz3 : w.heap.size ≤ w3.heap.size := HB3.out.size
    clear hb hbz
    go_wp2_with fail
    refine (Text1 _ (a ++ b) _ rfl HO1.out (HX.out.below ((HB3.out).alloc (by first | exact Nat.le_refl _ | omega | (simp; done) | (simp; omega)) _))).mono ?_
    rintro e w4 ⟨rfl, hb⟩
    have hbz := hb.size
    have HB4 := Lib.hid (((HB3.out).alloc (by first | exact Nat.le_refl _ | omega | (simp; done) | (simp; omega)) _).trans (hb.mono (by first | exact Nat.le_refl _ | omega | (simp; done) | (simp; omega))))
    have hz4 : w.heap.size ≤ w4.heap.size := HB4.out.size
    clear hb hbz
    go_wp2_with fail
    refine (Sum_any (chS [a ++ b]) _ (chS_sz HO1.out)).mono ?_
    rintro e wq ⟨rfl, rfl⟩
    rw [chS_data]
    go_wp2_with fail
    refine (Chain0 _ (HX.out.below (HB4.out))).mono ?_
    rintro e w5 ⟨rfl, hb⟩
    have hbz := hb.size
    have HB5 := Lib.hid ((HB4.out).trans (hb.mono (by first | exact Nat.le_refl _ | omega | (simp; done) | (simp; omega))))
    have hz5 : w.heap.size ≤ w5.heap.size := HB5.out.size
    clear hb hbz
    go_wp2_with fail
    refine (Sum_any ⟨#[]⟩ _ (by decide)).mono ?_
    rintro e wq ⟨rfl, rfl⟩
    rw [nil_data]
    go_wp2_with fail
    refine (awake_any _ (HX.out.below (HB5.out))).mono ?_
    rintro e w6 ⟨rfl, hb⟩
    have hbz := hb.size
    have HB6 := Lib.hid ((HB5.out).trans (hb.mono (by first | exact Nat.le_refl _ | omega | (simp; done) | (simp; omega))))
    have hz6 : w.heap.size ≤ w6.heap.size := HB6.out.size
    clear hb hbz
    go_wp2_with fail
    go_ret
    exact ⟨rfl, HB6.out⟩
  · have hd : decide ((200 : Int) < (a.size : Int)) = true ∨ (decide ((200 : Int) < (a.size : Int)) = false ∧ decide ((200 : Int) < (b.size : Int)) = true) := by
      by_cases h : a.size ≤ 200
      · exact .inr ⟨decide_eq_false (by omega), decide_eq_true (by omega)⟩
      · exact .inl (decide_eq_true (by omega))
    clear h4
    rcases hd with hd | ⟨hd, hd2⟩
    all_goals
      go_enter Tryd.func6, Tryd.ntmps6
      go_wp2_with fail
      refine (awake_any _ (HX.out.below (Below.refl w.heap.size w))).mono ?_
      rintro e w1 ⟨rfl, hb⟩
      have hbz := hb.size
      have HB1 := Lib.hid ((Below.refl w.heap.size w).trans (hb.mono (by first | exact Nat.le_refl _ | omega | (simp; done) | (simp; omega))))
      have hz1 : w.heap.size ≤ w1.heap.size := HB1.out.size
      clear hb hbz
      go_wp2_with fail
      go_ret
      exact ⟨rfl, HB1.out⟩
end Go.Proofs.YtjjmdgiaohmjkaaDoor
