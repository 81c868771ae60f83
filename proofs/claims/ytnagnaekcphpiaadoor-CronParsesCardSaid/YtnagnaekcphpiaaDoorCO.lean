/- cron: the reference's part and parts. -/
import Derived.Test.YtnagnaekcphpiaaDoorCN
namespace Go.Proofs.YtnagnaekcphpiaaDoor
open Go.RowKit
open Go.Sort (grow)

def tup4 (x : (Nat × Nat × Nat) × Bool) : Value := .tuple #[.int .i64 (x.1.1 : Int), .int .i64 (x.1.2.1 : Int), .int .i64 (x.1.2.2 : Int), .bool x.2]
theorem ret_tup4 {x : (Nat × Nat × Nat) × Bool} {a b d : Nat} {o : Bool} (h : x = ((a, b, d), o)) : Ending.returned (.tuple #[.int .i64 (a : Int), .int .i64 (b : Int), .int .i64 (d : Int), .bool o]) = .returned (tup4 x) := by subst h; rfl
theorem ret_tup4a {x : (Nat × Nat × Nat) × Bool} {b d : Nat} {o : Bool} (h : x = ((0, b, d), o)) : Ending.returned (.tuple #[.int .i64 0, .int .i64 (b : Int), .int .i64 (d : Int), .bool o]) = .returned (tup4 x) := by subst h; rfl
theorem ret_tup4b {x : (Nat × Nat × Nat) × Bool} {b : Nat} {o : Bool} (h : x = ((0, b, 1), o)) : Ending.returned (.tuple #[.int .i64 0, .int .i64 (b : Int), .int .i64 1, .bool o]) = .returned (tup4 x) := by subst h; rfl
theorem ret_tup4c {x : (Nat × Nat × Nat) × Bool} {a b : Nat} {o : Bool} (h : x = ((a, b, 1), o)) : Ending.returned (.tuple #[.int .i64 (a : Int), .int .i64 (b : Int), .int .i64 1, .bool o]) = .returned (tup4 x) := by subst h; rfl
theorem ret_tup4z {x : (Nat × Nat × Nat) × Bool} {o : Bool} (h : x = ((0, 0, 0), o)) : Ending.returned (.tuple #[.int .i64 0, .int .i64 0, .int .i64 0, .bool o]) = .returned (tup4 x) := by subst h; rfl
theorem pre_two (x : ByteArray) : ((x.extract 0 2).toList == [42, 47]) = decide ([42, 47] <+: x.data.toList) := by
  rw [ByteArray.toList_eq, Lib.extract_from_zero, Bool.eq_iff_iff, beq_iff_eq, decide_eq_true_eq, List.prefix_iff_eq_take]
  exact ⟨fun e => e.symm, fun e => e.symm⟩
theorem num_ext (x : ByteArray) : numB (x.extract 2 x.size) = numS (x.data.toList.drop 2) := by
  unfold numB
  rw [Lib.extract_to_end]
theorem head_pcs {x : ByteArray} {a : ByteArray} (h : (pcs 45 x)[0]? = some a) : (cutL 45 x.data.toList).head?.getD [] = a.data.toList := by
  rw [← pcs_data, List.head?_eq_getElem?, List.getElem?_map, h]; rfl
theorem last_pcs {x : ByteArray} {b : ByteArray} (h : (pcs 45 x)[(pcs 45 x).length - 1]? = some b) : (cutL 45 x.data.toList).getLast?.getD [] = b.data.toList := by
  rw [← pcs_data, List.getLast?_eq_getElem?, List.length_map, List.getElem?_map, h]; rfl
theorem rp_star {x : ByteArray} {size : Nat} (h : x.data.toList = [42]) : rpartS x.data.toList size = ((0, size - 1, 1), true) := by unfold rpartS; rw [if_pos h]
theorem rp_step {x : ByteArray} {size : Nat} (h1 : x.data.toList ≠ [42]) (h2 : 2 < x.size) (h3 : [42, 47] <+: x.data.toList) : rpartS x.data.toList size = ((0, size - 1, (numS (x.data.toList.drop 2)).1), (numS (x.data.toList.drop 2)).2) := by
  unfold rpartS; rw [if_neg h1, if_pos ⟨by rw [size_len]; exact h2, h3⟩]
theorem rp_many {x : ByteArray} {size : Nat} (h1 : x.data.toList ≠ [42]) (h2 : ¬ (2 < x.size ∧ [42, 47] <+: x.data.toList)) (h3 : 2 < (pcs 45 x).length) : rpartS x.data.toList size = ((0, 0, 0), false) := by
  unfold rpartS; rw [if_neg h1, if_neg (by rw [size_len]; exact h2), if_pos (by rw [← pcs_data, List.length_map]; exact h3)]
theorem rp_two {x : ByteArray} {size : Nat} {a b : ByteArray} (h1 : x.data.toList ≠ [42]) (h2 : ¬ (2 < x.size ∧ [42, 47] <+: x.data.toList)) (h3 : ¬ 2 < (pcs 45 x).length) (ha : (pcs 45 x)[0]? = some a) (hb : (pcs 45 x)[(pcs 45 x).length - 1]? = some b) :
    rpartS x.data.toList size = (((numB a).1, (numB b).1, 1), (numB a).2 && (numB b).2) := by
  unfold rpartS
  rw [if_neg h1, if_neg (by rw [size_len]; exact h2), if_neg (by rw [← pcs_data, List.length_map]; exact h3), head_pcs ha, last_pcs hb]
  rfl
theorem rsplit_any (c : UInt8) (s : ByteArray) (w : World) (hs : s.size ≤ 1048576) :
    Calls Tryd.prog 27 #[.string s, .int .u8 (c.toNat : Int)] w fun e w' => (∃ A cap, e = .returned (.slice A (pcs c s).length cap) ∧ StrL w' w'.heap.size A (pcs c s) ∧ ∀ ad, A = some ad → w.heap.size ≤ ad.block) ∧ Below w.heap.size w w' := by
  refine (split_own c s w hs).mono ?_
  rintro e w' ⟨v, rfl, ho, hb⟩
  obtain ⟨p, cap, rfl, h⟩ := own_reads ho
  exact ⟨⟨p, cap, rfl, h, fun ad e => own_ge ho _ (by rw [e]; rfl)⟩, hb⟩
theorem rs45 (s : ByteArray) (w : World) (hs : s.size ≤ 1048576) : Calls Tryd.prog 27 #[.string s, .int .u8 45] w fun e w' => (∃ A cap, e = .returned (.slice A (pcs 45 s).length cap) ∧ StrL w' w'.heap.size A (pcs 45 s) ∧ ∀ ad, A = some ad → w.heap.size ≤ ad.block) ∧ Below w.heap.size w w' := rsplit_any 45 s w hs
theorem rs44 (s : ByteArray) (w : World) (hs : s.size ≤ 1048576) : Calls Tryd.prog 27 #[.string s, .int .u8 44] w fun e w' => (∃ A cap, e = .returned (.slice A (pcs 44 s).length cap) ∧ StrL w' w'.heap.size A (pcs 44 s) ∧ ∀ ad, A = some ad → w.heap.size ≤ ad.block) ∧ Below w.heap.size w w' := rsplit_any 44 s w hs
theorem rs32 (s : ByteArray) (w : World) (hs : s.size ≤ 1048576) : Calls Tryd.prog 27 #[.string s, .int .u8 32] w fun e w' => (∃ A cap, e = .returned (.slice A (pcs 32 s).length cap) ∧ StrL w' w'.heap.size A (pcs 32 s) ∧ ∀ ad, A = some ad → w.heap.size ≤ ad.block) ∧ Below w.heap.size w w' := rsplit_any 32 s w hs
set_option maxHeartbeats 4000000 in
set_option maxRecDepth 20000 in
theorem rpart_any (x : ByteArray) (size : Nat) (h1 : 1 ≤ size) (h2 : size ≤ 60) (w : World) (hs : x.size ≤ 1048576) : Calls Tryd.prog 30 #[.string x, .int .i64 size] w fun e w' => e = .returned (tup4 (rpartS x.data.toList size)) ∧ Below w.heap.size w w' := by
  have ez : IntKind.i64.wrap ((size : Int) - 1) = ((size - 1 : Nat) : Int) := by rw [IntKind.wrap_i64]; omega
  obtain ⟨z, hz⟩ : ∃ z, size - 1 = z := ⟨_, rfl⟩
  rw [hz] at ez
  have hst := star_eq (w := x)
  go_enter Tryd.func30, Tryd.ntmps30
  by_cases g1 : x.data.toList = [42]
  · rw [decide_eq_true g1] at hst
    have HD := Lib.hid (show rpartS x.data.toList size = ((0, z, 1), true) from by rw [rp_star g1, hz])
    clear g1
    go_wp2_with fail
    exact bodyPost_ret (v := .tuple #[.int .i64 0, .int .i64 z, .int .i64 1, .bool true]) (by simp [results, Tryd.results30, go_sem]) rfl ⟨ret_tup4b HD.out, Below.refl _ _⟩
  · rw [decide_eq_false g1] at hst
    have key : (2 < x.size ∧ [42, 47] <+: x.data.toList) ∨ ¬ (2 < x.size ∧ [42, 47] <+: x.data.toList) := Classical.em _
    rcases key with g2 | g2
    · have t1 : decide ((2 : Int) < x.size) = true := decide_eq_true (by omega)
      have t2 : ((x.extract 0 2).toList == [42, 47]) = true := by rw [pre_two, decide_eq_true g2.2]
      have hx2 : (2 : Int) ≤ x.size := by omega
      have HD := Lib.hid (show rpartS x.data.toList size = ((0, z, (numS (x.data.toList.drop 2)).1), (numS (x.data.toList.drop 2)).2) from by rw [rp_step g1 g2.1 g2.2, hz])
      have hxe : (x.extract 2 x.size).size ≤ 1048576 := by rw [ByteArray.size_extract]; omega
      clear g1 g2
      go_wp2_with fail
      refine (rnumber_any (x.extract 2 x.size) _ hxe).mono ?_
      rintro e w1 ⟨rfl, hb⟩
      have HB := Lib.hid hb
      clear hb
      rw [num_ext]
      obtain ⟨⟨n, o⟩, hq⟩ : ∃ q, numS (x.data.toList.drop 2) = q := ⟨_, rfl⟩
      rw [hq] at HD ⊢
      unfold tupN
      dsimp only at HD ⊢
      clear hq
      go_wp2_with fail
      exact bodyPost_ret (v := .tuple #[.int .i64 0, .int .i64 z, .int .i64 n, .bool o]) (by simp [results, Tryd.results30, go_sem]) rfl ⟨ret_tup4a HD.out, HB.out⟩
    · have t12 : (decide ((2 : Int) < x.size) = true ∧ ((x.extract 0 2).toList == [42, 47]) = false) ∨ decide ((2 : Int) < x.size) = false := by
        by_cases g3 : 2 < x.size
        · exact .inl ⟨decide_eq_true (by omega), by rw [pre_two, decide_eq_false (fun h => g2 ⟨g3, h⟩)]⟩
        · exact .inr (decide_eq_false (by omega))
      have hx2 : (2 : Int) < x.size → (2 : Int) ≤ x.size := fun h => by omega
      rcases t12 with ⟨t1, t2⟩ | t1
      · skip
        have hx3 : (2 : Int) ≤ x.size := by have := of_decide_eq_true t1; omega
        clear hx2
        go_wp2_with fail
        refine (rs45 x _ hs).mono ?_
        rintro e w1 ⟨⟨A, cap, rfl, hl, -⟩, hb⟩
        have HL := Lib.hid hl
        have HB := Lib.hid hb
        clear hl hb
        have hpos := pcs_pos 45 x
        have HSZ := Lib.hid (show ∀ y ∈ pcs 45 x, y.size ≤ 1048576 from fun y hy => by have := pcs_size hy; omega)
        have HQ := Lib.hid (rp_many (size := size) g1 g2)
        have HT := Lib.hid (fun a b => rp_two (size := size) (a := a) (b := b) g1 g2)
        clear g1 g2
        generalize pcs 45 x = Q at *
        by_cases h3 : 2 < Q.length
        · have t3 : decide ((2 : Int) < Q.length) = true := decide_eq_true (by omega)
          have t3' : decide (2 < Q.length) = true := decide_eq_true h3
          have HD := Lib.hid (HQ.out h3)
          clear h3
          go_wp2_with fail
          exact bodyPost_ret (v := .tuple #[.int .i64 0, .int .i64 0, .int .i64 0, .bool false]) (by simp [results, Tryd.results30, go_sem]) rfl ⟨ret_tup4z HD.out, HB.out⟩
        · have t3 : decide ((2 : Int) < Q.length) = false := decide_eq_false (by omega)
          have t3' : decide (2 < Q.length) = false := decide_eq_false h3
          obtain ⟨a, ha⟩ : ∃ a, Q[0]? = some a := ⟨_, List.getElem?_eq_getElem hpos⟩
          obtain ⟨l1, hl1⟩ : ∃ l1, Q.length - 1 = l1 := ⟨_, rfl⟩
          have hll : l1 < Q.length := by omega
          obtain ⟨b, hb⟩ : ∃ b, Q[l1]? = some b := ⟨_, List.getElem?_eq_getElem hll⟩
          obtain ⟨bb, oo, rfl, -, c0⟩ := HL.out.cell ha
          have c0 : w1.cell? ⟨bb, oo, none⟩ = some (.string a) := c0
          have HD := Lib.hid (HT.out a b h3 ha (by rw [hl1]; exact hb))
          have HBB := Lib.hid hb
          have hsa := HSZ.out a (List.mem_of_getElem? ha)
          have hsb := HSZ.out b (List.mem_of_getElem? hb)
          have hq2 : Q.length ≤ 2 := by omega
          clear ha hb h3
          have e1 : IntKind.i64.wrap ((Q.length : Int) - 1) = (l1 : Int) := by rw [IntKind.wrap_i64]; omega
          have hq0 : (0 : Int) < Q.length := by omega
          have hl0 : (0 : Int) ≤ l1 := by omega
          have hl2 : (l1 : Int) < Q.length := by omega
          go_wp2_with fail
          refine (rnumber_any a _ hsa).mono ?_
          rintro e w2 ⟨rfl, hb⟩
          have HB2 := Lib.hid (HB.out.trans (hb.mono HB.out.size))
          obtain ⟨bb', oo', e', -, c1⟩ := (HL.out.on hb).cell HBB.out
          obtain ⟨rfl, rfl⟩ : bb = bb' ∧ oo = oo' := by injection e' with e'; injection e' with e2 e3; exact ⟨e2, e3⟩
          clear hb e' c0
          obtain ⟨⟨n1, o1⟩, hq1⟩ : ∃ q, numB a = q := ⟨_, rfl⟩
          rw [hq1] at HD ⊢
          unfold tupN
          dsimp only at HD ⊢
          clear hq1
          go_wp2_with fail
          refine (rnumber_any b _ hsb).mono ?_
          rintro e w3 ⟨rfl, hb⟩
          have HB3 := Lib.hid (HB2.out.trans (hb.mono HB2.out.size))
          clear hb c1
          obtain ⟨⟨n2, o2⟩, hq2⟩ : ∃ q, numB b = q := ⟨_, rfl⟩
          rw [hq2] at HD ⊢
          unfold tupN
          dsimp only at HD ⊢
          clear hq2
          cases o1
          · go_wp2_with fail
            exact bodyPost_ret (v := .tuple #[.int .i64 n1, .int .i64 n2, .int .i64 1, .bool false]) (by simp [results, Tryd.results30, go_sem]) rfl ⟨ret_tup4c HD.out, HB3.out⟩
          · go_wp2_with fail
            exact bodyPost_ret (v := .tuple #[.int .i64 n1, .int .i64 n2, .int .i64 1, .bool o2]) (by simp [results, Tryd.results30, go_sem]) rfl ⟨ret_tup4c HD.out, HB3.out⟩
      · skip
        clear hx2
        go_wp2_with fail
        refine (rs45 x _ hs).mono ?_
        rintro e w1 ⟨⟨A, cap, rfl, hl, -⟩, hb⟩
        have HL := Lib.hid hl
        have HB := Lib.hid hb
        clear hl hb
        have hpos := pcs_pos 45 x
        have HSZ := Lib.hid (show ∀ y ∈ pcs 45 x, y.size ≤ 1048576 from fun y hy => by have := pcs_size hy; omega)
        have HQ := Lib.hid (rp_many (size := size) g1 g2)
        have HT := Lib.hid (fun a b => rp_two (size := size) (a := a) (b := b) g1 g2)
        clear g1 g2
        generalize pcs 45 x = Q at *
        by_cases h3 : 2 < Q.length
        · have t3 : decide ((2 : Int) < Q.length) = true := decide_eq_true (by omega)
          have t3' : decide (2 < Q.length) = true := decide_eq_true h3
          have HD := Lib.hid (HQ.out h3)
          clear h3
          go_wp2_with fail
          exact bodyPost_ret (v := .tuple #[.int .i64 0, .int .i64 0, .int .i64 0, .bool false]) (by simp [results, Tryd.results30, go_sem]) rfl ⟨ret_tup4z HD.out, HB.out⟩
        · have t3 : decide ((2 : Int) < Q.length) = false := decide_eq_false (by omega)
          have t3' : decide (2 < Q.length) = false := decide_eq_false h3
          obtain ⟨a, ha⟩ : ∃ a, Q[0]? = some a := ⟨_, List.getElem?_eq_getElem hpos⟩
          obtain ⟨l1, hl1⟩ : ∃ l1, Q.length - 1 = l1 := ⟨_, rfl⟩
          have hll : l1 < Q.length := by omega
          obtain ⟨b, hb⟩ : ∃ b, Q[l1]? = some b := ⟨_, List.getElem?_eq_getElem hll⟩
          obtain ⟨bb, oo, rfl, -, c0⟩ := HL.out.cell ha
          have c0 : w1.cell? ⟨bb, oo, none⟩ = some (.string a) := c0
          have HD := Lib.hid (HT.out a b h3 ha (by rw [hl1]; exact hb))
          have HBB := Lib.hid hb
          have hsa := HSZ.out a (List.mem_of_getElem? ha)
          have hsb := HSZ.out b (List.mem_of_getElem? hb)
          have hq2 : Q.length ≤ 2 := by omega
          clear ha hb h3
          have e1 : IntKind.i64.wrap ((Q.length : Int) - 1) = (l1 : Int) := by rw [IntKind.wrap_i64]; omega
          have hq0 : (0 : Int) < Q.length := by omega
          have hl0 : (0 : Int) ≤ l1 := by omega
          have hl2 : (l1 : Int) < Q.length := by omega
          go_wp2_with fail
          refine (rnumber_any a _ hsa).mono ?_
          rintro e w2 ⟨rfl, hb⟩
          have HB2 := Lib.hid (HB.out.trans (hb.mono HB.out.size))
          obtain ⟨bb', oo', e', -, c1⟩ := (HL.out.on hb).cell HBB.out
          obtain ⟨rfl, rfl⟩ : bb = bb' ∧ oo = oo' := by injection e' with e'; injection e' with e2 e3; exact ⟨e2, e3⟩
          clear hb e' c0
          obtain ⟨⟨n1, o1⟩, hq1⟩ : ∃ q, numB a = q := ⟨_, rfl⟩
          rw [hq1] at HD ⊢
          unfold tupN
          dsimp only at HD ⊢
          clear hq1
          go_wp2_with fail
          refine (rnumber_any b _ hsb).mono ?_
          rintro e w3 ⟨rfl, hb⟩
          have HB3 := Lib.hid (HB2.out.trans (hb.mono HB2.out.size))
          clear hb c1
          obtain ⟨⟨n2, o2⟩, hq2⟩ : ∃ q, numB b = q := ⟨_, rfl⟩
          rw [hq2] at HD ⊢
          unfold tupN
          dsimp only at HD ⊢
          clear hq2
          cases o1
          · go_wp2_with fail
            exact bodyPost_ret (v := .tuple #[.int .i64 n1, .int .i64 n2, .int .i64 1, .bool false]) (by simp [results, Tryd.results30, go_sem]) rfl ⟨ret_tup4c HD.out, HB3.out⟩
          · go_wp2_with fail
            exact bodyPost_ret (v := .tuple #[.int .i64 n1, .int .i64 n2, .int .i64 1, .bool o2]) (by simp [results, Tryd.results30, go_sem]) rfl ⟨ret_tup4c HD.out, HB3.out⟩
theorem rok_pcs (w : ByteArray) (size : Nat) : rokS w.data.toList size = (pcs 44 w).all fun x => rpieceB (cutL 44 w.data.toList) size x.data.toList := by
  unfold rokS
  conv => lhs; arg 1; rw [← pcs_data]
  rw [List.all_map]
  rfl
theorem cut_lenQ (w : ByteArray) : (cutL 44 w.data.toList).length = (pcs 44 w).length := by rw [← pcs_data, List.length_map]
theorem rp_empty {x : ByteArray} {size : Nat} (h : (rpartS x.data.toList size).2 = true) : 0 < x.size := by
  rcases Nat.eq_zero_or_pos x.size with h0 | h0
  · obtain rfl := ba_nil h0
    rw [show rpartS (⟨#[]⟩ : ByteArray).data.toList size = ((0, 0, 1), false) from by
      unfold rpartS
      rw [if_neg (by decide), if_neg (by decide)]
      rfl] at h
    cases h
  · exact h0
def PostQ (L : List ByteArray) (ok : Bool) (w : World) (e : Ending) (w' : World) : Prop := (ok = true → ∃ A k, e = .returned (.tuple #[.slice A L.length k, .bool true]) ∧ StrL w' w'.heap.size A L ∧ ∀ ad, A = some ad → w.heap.size ≤ ad.block) ∧ (ok = false → e = .returned (.tuple #[.slice none 0 0, .bool false])) ∧ Below w.heap.size w w'
set_option maxHeartbeats 4000000 in
set_option maxRecDepth 20000 in
theorem rparts_any (x : ByteArray) (size : Nat) (h1 : 1 ≤ size) (h2 : size ≤ 60) (w : World) (hs : x.size ≤ 1048576) : Calls Tryd.prog 28 #[.string x, .int .i64 size] w (PostQ (pcs 44 x) (rokS x.data.toList size) w) := by
  have HR := Lib.hid (rok_pcs x size)
  go_enter Tryd.func28, Tryd.ntmps28
  go_wp2_with fail
  refine (rs44 x _ hs).mono ?_
  rintro e w1 ⟨⟨A, cap, rfl, hl, hfr⟩, hb⟩
  have HFR := Lib.hid hfr
  clear hfr
  have HL := Lib.hid hl
  have HB0 := Lib.hid hb
  have hz1 := hb.size
  clear hl hb
  have HSZ := Lib.hid (show ∀ y ∈ pcs 44 x, y.size ≤ 1048576 from fun y hy => by have := pcs_size hy; omega)
  have hln := pcs_len 44 x
  obtain ⟨CL, hCL⟩ : ∃ L, cutL 44 x.data.toList = L := ⟨_, rfl⟩
  have hcl := cut_lenQ x
  rw [hCL] at HR hcl
  have HCL := Lib.hid hcl
  clear hCL hcl
  generalize pcs 44 x = Q at *
  go_wp2_with fail
  go_loopw [7] (fun i wr => ∃ k : Nat, k ≤ Q.length ∧ i = .int .i64 k ∧ (Q.take k).all (fun y => rpieceB CL size y.data.toList) = true ∧ Below w1.heap.size w1 wr) (fun i _ => Q.length - (intOf i).toNat)
  case atStart => exact ⟨0, Nat.zero_le _, rfl, rfl, Below.refl _ _⟩
  case round =>
    obtain ⟨k, hk, rfl, hall, hbr⟩ := hrel
    have HA := Lib.hid hall
    have HB := Lib.hid hbr
    have hzr := hbr.size
    clear hall hbr
    by_cases hlt : k < Q.length
    · obtain ⟨y, hy⟩ : ∃ y, Q[k]? = some y := ⟨_, List.getElem?_eq_getElem hlt⟩
      obtain ⟨b, o, rfl, -, c0⟩ := (HL.out.on HB.out).cell hy
      have HY := Lib.hid hy
      have hsy := HSZ.out y (List.mem_of_getElem? hy)
      have hki : (k : Int) < Q.length := by omega
      have hk0 : (0 : Int) ≤ k := by omega
      clear hy
      go_wp2_with fail
      refine (rpart_any y size h1 h2 _ hsy).mono ?_
      rintro e w2 ⟨rfl, hb⟩
      have HB2 := Lib.hid (HB.out.trans (hb.mono hzr))
      have c1 : w2.cell? ⟨b, o + k, none⟩ = some (.string y) := (hb.cell (block_lt_of_cell c0)).trans c0
      clear hb c0
      obtain ⟨⟨⟨p1, p2, p3⟩, ok⟩, hq⟩ : ∃ q, rpartS y.data.toList size = q := ⟨_, rfl⟩
      have HQ := Lib.hid hq
      rw [hq]
      unfold tup4
      dsimp only
      clear hq
      cases ok
      · have HE := Lib.hid (show rokS x.data.toList size = false from by rw [HR.out]; exact all_miss HY.out (by unfold rpieceB; rw [HQ.out]; rfl))
        go_wp2_with fail
        go_ret2
        exact ⟨fun h => (by rw [HE.out] at h; cases h), fun _ => rfl, HB0.out.trans (HB2.out.mono hz1)⟩
      · have hpos : 0 < y.size := rp_empty (size := size) (by rw [HQ.out])
        have hp0 : (0 : Int) < y.size := by omega
        by_cases hm : 1 < Q.length
        · have t1 : decide ((1 : Int) < Q.length) = true := decide_eq_true (by omega)
          have t1' : decide (1 < Q.length) = true := decide_eq_true hm
          have hh : y.data.toList.head? = some y[0] := by rw [List.head?_eq_getElem?, byte_at y 0 hpos]
          by_cases hc : y[0] = 42
          · have t2 : ((y[0].toNat : Int) == 42) = true := beq_iff_eq.2 (by rw [hc]; rfl)
            have HE := Lib.hid (show rokS x.data.toList size = false from by rw [HR.out]; exact all_miss HY.out (by unfold rpieceB; rw [hh, hc, HCL.out, t1']; simp))
            clear hc hh
            go_wp2_with fail
            go_ret2
            exact ⟨fun h => (by rw [HE.out] at h; cases h), fun _ => rfl, HB0.out.trans (HB2.out.mono hz1)⟩
          · have t2 : ((y[0].toNat : Int) == 42) = false := beq_eq_false_iff_ne.2 (fun e => hc (UInt8.toNat_inj.1 (show y[0].toNat = 42 by omega)))
            have HN := Lib.hid (show (Q.take (k + 1)).all (fun y => rpieceB CL size y.data.toList) = true from by
              rw [all_step' HY.out, HA.out, Bool.true_and]
              unfold rpieceB
              rw [HQ.out, hh]
              have : (some y[0] == some 42) = false := by rw [beq_eq_false_iff_ne]; intro e; exact hc (Option.some.inj e)
              rw [this]
              simp)
            clear hc hh
            go_wp2_with fail
            go_roundw
            case rel => exact ⟨k + 1, by omega, by go_num, HN.out, HB2.out⟩
            case measure => simp [intOf]; omega
        · have t1 : decide ((1 : Int) < Q.length) = false := decide_eq_false (by omega)
          have t1' : decide (1 < Q.length) = false := decide_eq_false hm
          have HN := Lib.hid (show (Q.take (k + 1)).all (fun y => rpieceB CL size y.data.toList) = true from by
            rw [all_step' HY.out, HA.out, Bool.true_and]
            unfold rpieceB
            rw [HQ.out, HCL.out, t1']
            rfl)
          go_wp2_with fail
          go_roundw
          case rel => exact ⟨k + 1, by omega, by go_num, HN.out, HB2.out⟩
          case measure => simp [intOf]; omega
    · obtain rfl : k = Q.length := by omega
      have hki : ¬ (Q.length : Int) < Q.length := by omega
      have HE := Lib.hid (show rokS x.data.toList size = true from by rw [HR.out]; have := HA.out; rwa [List.take_length] at this)
      go_wp2_with fail
      go_ret2
      exact ⟨fun _ => ⟨_, _, rfl, HL.out.on HB.out, HFR.out⟩, fun h => (by rw [HE.out] at h; cases h), HB0.out.trans (HB.out.mono hz1)⟩
end Go.Proofs.YtnagnaekcphpiaaDoor
