/- The reference's has, Len. -/
import Derived.Test.YtbofclohnmojmaaGreatDoorRC1
namespace Go.Proofs.YtbofclohnmojmaaGreatDoor
open Go.RowKit
open Go.Sort (grow)

section
variable {w : World} {B q c c' : Nat} {A A' : Option Addr} {s : QS}
theorem hasL_snoc {l : List En} {k : Nat} {x : En} (h : l[k]? = some x) (id : ByteArray) : hasL (l.take (k + 1)) id = (hasL (l.take k) id || eqS x.ev.id id) := by
  unfold hasL
  rw [take_snocs h, List.any_append]
  simp
theorem hasL_hit {l : List En} {k : Nat} {x : En} (h : l[k]? = some x) {id : ByteArray} (hx : eqS x.ev.id id = true) : hasL l id = true := by
  unfold hasL
  rw [List.any_eq_true]
  exact ⟨x, List.mem_of_getElem? h, hx⟩
theorem hasD_snoc {l : List Ev} {k : Nat} {x : Ev} (h : l[k]? = some x) (id : ByteArray) : hasD (l.take (k + 1)) id = (hasD (l.take k) id || eqS x.id id) := by
  unfold hasD
  rw [take_snocs h, List.any_append]
  simp
theorem hasD_hit {l : List Ev} {k : Nat} {x : Ev} (h : l[k]? = some x) {id : ByteArray} (hx : eqS x.id id = true) : hasD l id = true := by
  unfold hasD
  rw [List.any_eq_true]
  exact ⟨x, List.mem_of_getElem? h, hx⟩
theorem OwnV.ev {l : List Ev} (h : OwnV w B (.slice A l.length c) l) {i : Nat} {x : Ev} (hx : l[i]? = some x) : ∃ g, A = some ⟨g, 0, none⟩ ∧ g < w.heap.size ∧ l.length ≤ c ∧ ∀ j u, x.cells[j]? = some u → w.cell? ⟨g, i * 7 + j, none⟩ = some u := by
  have hl : 0 < l.length := by have := (List.getElem?_eq_some_iff.1 hx).1; omega
  obtain ⟨g, c2, e, _, hc, _, hg, hcell, _⟩ := own_at h hl
  injection e with e _ e3
  subst e3
  refine ⟨g, e, hg, hc, fun j u hj => ?_⟩
  have hjk : j < 7 := by rw [← Ev.len x]; exact (List.getElem?_eq_some_iff.1 hj).1
  exact hcell _ _ (by rw [flat_get Ev.len l i j x hx hjk]; exact hj)
set_option maxHeartbeats 4000000 in
theorem rhas_any (hQ : RQ w B q A c A' c' s) (hl : s.l.length ≤ 300) (hd : s.d.length ≤ 300) (id : ByteArray) :
    Calls Tryz.prog 58 #[.pointer (some ⟨q, 0, none⟩), .string id] w fun e w' => e = .returned (.bool (hasL s.l id || hasD s.d id)) ∧ w' = w := by
  have q2 : w.cell? ⟨q, 2, none⟩ = some (.slice A s.l.length c) := hQ.blk.cell 2
  have q3 : w.cell? ⟨q, 3, none⟩ = some (.slice A' s.d.length c') := hQ.blk.cell 3
  have HG := Lib.hid (fun j y hy => hQ.row.item (i := j) (x := y) hy)
  have HD := Lib.hid (fun j y hy => hQ.dead.ev (i := j) (x := y) hy)
  clear hQ
  go_enter Tryz.func58, Tryz.ntmps58
  go_wp2_with fail
  go_loop [5] (fun i => ∃ k : Nat, k ≤ s.l.length ∧ i = .int .i64 k ∧ hasL (s.l.take k) id = false) (fun i => s.l.length - (intOf i).toNat)
  case atStart => exact ⟨0, Nat.zero_le _, rfl, rfl⟩
  case round =>
    obtain ⟨k, hk, rfl, ho⟩ := hrel
    have HO := Lib.hid ho
    clear ho
    by_cases hlt : k < s.l.length
    · have hx := List.getElem?_eq_getElem hlt
      obtain ⟨g, rfl, -, -, hc⟩ := HG.out k _ hx
      have e0 : w.cell? ⟨g, k * 10, none⟩ = some (.string s.l[k].ev.id) := by have := hc 0 _ rfl; rwa [Nat.add_zero] at this
      have HS := Lib.hid (hasL_snoc hx id)
      have HY := Lib.hid (fun h => hasL_hit (id := id) hx h)
      clear hc hx
      generalize s.l[k] = x at *
      have hkI : (k : Int) < s.l.length := by omega
      have hk0 : (0 : Int) ≤ k := by omega
      have ht := toL_eq x.ev.id id
      have HW := Lib.hid (w64 (x := (k : Int) + 1) (by omega) (by omega))
      cases hq : eqS x.ev.id id
      · have HN := Lib.hid (show hasL (s.l.take (k + 1)) id = false by rw [HS.out, HO.out, hq]; rfl)
        rw [hq] at ht
        clear hq
        obtain ⟨wk1, wk2⟩ := HW.out
        go_wp2_with fail
        clear wk1 wk2
        go_round
        case rel => exact ⟨k + 1, by omega, by first | rfl | go_num, HN.out⟩
        case measure => simp [intOf] <;> omega
      · have HR := Lib.hid (show true = (hasL s.l id || hasD s.d id) by rw [HY.out hq]; rfl)
        rw [hq] at ht
        clear hq
        go_wp2_with fail
        go_ret
        exact ⟨ret_bool HR.out, rfl⟩
    · obtain rfl : k = s.l.length := by omega
      have HN := Lib.hid (show hasL s.l id = false by have := HO.out; rwa [List.take_length] at this)
      clear HO
      go_wp2_with fail
      go_loop [6] (fun i => ∃ k : Nat, k ≤ s.d.length ∧ i = .int .i64 k ∧ hasD (s.d.take k) id = false) (fun i => s.d.length - (intOf i).toNat)
      case atStart => exact ⟨0, Nat.zero_le _, rfl, rfl⟩
      case round =>
        obtain ⟨k, hk, rfl, ho⟩ := hrel
        have HO := Lib.hid ho
        clear ho
        by_cases hlt : k < s.d.length
        · have hx := List.getElem?_eq_getElem hlt
          obtain ⟨g, rfl, -, -, hc⟩ := HD.out k _ hx
          have e0 : w.cell? ⟨g, k * 7, none⟩ = some (.string s.d[k].id) := by have := hc 0 _ rfl; rwa [Nat.add_zero] at this
          have HS := Lib.hid (hasD_snoc hx id)
          have HY := Lib.hid (fun h => hasD_hit (id := id) hx h)
          clear hc hx
          generalize s.d[k] = x at *
          have hkI : (k : Int) < s.d.length := by omega
          have hk0 : (0 : Int) ≤ k := by omega
          have ht := toL_eq x.id id
          have HW := Lib.hid (w64 (x := (k : Int) + 1) (by omega) (by omega))
          cases hq : eqS x.id id
          · have HN2 := Lib.hid (show hasD (s.d.take (k + 1)) id = false by rw [HS.out, HO.out, hq]; rfl)
            rw [hq] at ht
            clear hq
            obtain ⟨wk1, wk2⟩ := HW.out
            go_wp2_with fail
            clear wk1 wk2
            go_round
            case rel => exact ⟨k + 1, by omega, by first | rfl | go_num, HN2.out⟩
            case measure => simp [intOf] <;> omega
          · have HR := Lib.hid (show true = (hasL s.l id || hasD s.d id) by rw [HY.out hq, Bool.or_true])
            rw [hq] at ht
            clear hq
            go_wp2_with fail
            go_ret
            exact ⟨ret_bool HR.out, rfl⟩
        · obtain rfl : k = s.d.length := by omega
          have HR := Lib.hid (show false = (hasL s.l id || hasD s.d id) by have := HO.out; rw [List.take_length] at this; rw [HN.out, this]; rfl)
          clear HO
          go_wp2_with fail
          go_ret
          exact ⟨ret_bool HR.out, rfl⟩
theorem rLen_any (hQ : RQ w B q A c A' c' s) (hv : 0 < s.v) : Calls Tryz.prog 20 #[.pointer (some ⟨q, 0, none⟩)] w fun e w' => e = .returned (.int .i64 s.l.length) ∧ w' = w := by
  have q2 : w.cell? ⟨q, 2, none⟩ = some (.slice A s.l.length c) := hQ.blk.cell 2
  have HM := Lib.hid (rmade_any hQ hv)
  clear hQ
  go_enter Tryz.func20, Tryz.ntmps20
  go_wp2_with fail
  refine HM.out.mono ?_
  rintro e wq ⟨rfl, hq⟩
  obtain rfl := hq.symm
  go_wp2_with fail
  go_ret
  exact ⟨rfl, rfl⟩
end
end Go.Proofs.YtbofclohnmojmaaGreatDoor
