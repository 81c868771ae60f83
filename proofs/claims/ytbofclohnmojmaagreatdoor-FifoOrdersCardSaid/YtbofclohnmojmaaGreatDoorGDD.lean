/- dead. -/
import Derived.Test.YtbofclohnmojmaaGreatDoorGX2
namespace Go.Proofs.YtbofclohnmojmaaGreatDoor
open Go.RowKit
open Go.Sort (grow)

theorem core_hasD {r l : List Ev} (h : r.map Ev.core = l.map Ev.core) (id : ByteArray) : hasD r id = hasD l id := by
  have h2 := congrArg (List.map Ev.id) h
  rw [List.map_map, List.map_map] at h2
  have h3 : r.map Ev.id = l.map Ev.id := h2
  have e : ∀ l : List Ev, hasD l id = (l.map Ev.id).any fun y => eqS y id := by
    intro l
    unfold hasD
    rw [List.any_map]
    rfl
  rw [e, e, h3]
theorem hasD_step {l : List Ev} {k : Nat} {x : Ev} (h : l[k]? = some x) (id : ByteArray) : hasD (l.take (k + 1)) id = (hasD (l.take k) id || eqS x.id id) := by
  unfold hasD
  rw [take_snocs h, List.any_append]
  simp
theorem hasD_yes {l : List Ev} {x : Ev} (h : x ∈ l) {id : ByteArray} (hx : eqS x.id id = true) : hasD l id = true := by
  unfold hasD
  rw [List.any_eq_true]
  exact ⟨x, h, hx⟩
theorem ev_cell {w : World} {base : Nat} {A : Option Addr} {c : Nat} {l : List Ev} (h : OwnV w base (.slice A l.length c) l) {k : Nat} {x : Ev} (hk : l[k]? = some x) : ∃ g, A = some ⟨g, 0, none⟩ ∧ w.cell? ⟨g, k * 7, none⟩ = some (.string x.id) := by
  have hl : 0 < l.length := by have := (List.getElem?_eq_some_iff.1 hk).1; omega
  obtain ⟨g, c', e, _, _, _, _, hcell, _⟩ := own_at h hl
  injection e with e
  exact ⟨g, e, hcell _ _ (by have := flat_get Ev.len l k 0 x hk (by decide); rw [Nat.add_zero] at this; rw [this]; rfl)⟩
section
variable {w0 w : World} {q : Nat} {s : QS} {Rs : List Row}
set_option maxHeartbeats 4000000 in
theorem dead_any (h : QR w0 w q s Rs) (hok : s.ok) (id : ByteArray) : Calls Tryz.prog 27 #[.pointer (some ⟨q, 0, none⟩), .string id] w fun e w' => e = .returned (.bool (hasD s.d id)) ∧ Below w.heap.size w w' := by
  have HC := Lib.hid (dead_qr h hok)
  have HLN := Lib.hid hok.len
  clear h hok
  go_enter Tryz.func27, Tryz.ntmps27
  go_wp2_with fail
  refine HC.out.mono ?_
  rintro e w1 ⟨v, r, rfl, hown, hcore, -, hb⟩
  obtain ⟨A, c, rfl⟩ := own_slice hown
  have HR := Lib.hid (core_hasD hcore id)
  have hlr : r.length ≤ 256 := by
    have h1 : r.length = s.d.length := by simpa using congrArg List.length hcore
    have := HLN.out
    omega
  have HO := Lib.hid hown
  have HB := Lib.hid hb
  clear hown hcore hb
  go_wp2_with fail
  go_loop [6] (fun i => ∃ k : Nat, k ≤ r.length ∧ i = .int .i64 k ∧ hasD (r.take k) id = false) (fun i => r.length - (intOf i).toNat)
  case atStart => exact ⟨0, Nat.zero_le _, rfl, rfl⟩
  case round =>
    obtain ⟨k, hk, rfl, hno⟩ := hrel
    have HNO := Lib.hid hno
    clear hno
    by_cases hlt : k < r.length
    · have hx := List.getElem?_eq_getElem hlt
      obtain ⟨g, rfl, p0⟩ := ev_cell HO.out hx
      have HX := Lib.hid hx
      have HM := Lib.hid (List.getElem_mem hlt)
      clear hx
      generalize r[k] = x at *
      have hkI : (k : Int) < r.length := by omega
      have hk0 : (0 : Int) ≤ k := by omega
      have ht := toL_eq x.id id
      cases hq : eqS x.id id
      · have HQ := Lib.hid hq
        rw [hq] at ht
        clear hq
        go_wp2_with fail
        go_round
        case rel => exact ⟨k + 1, by omega, by go_num, by rw [hasD_step HX.out, HNO.out, HQ.out]; rfl⟩
        case measure => simp [intOf] <;> omega
      · have HQ := Lib.hid (hasD_yes HM.out hq)
        rw [hq] at ht
        clear hq
        go_wp2_with fail
        go_ret
        exact ⟨by rw [← HR.out, HQ.out]; rfl, HB.out⟩
    · obtain rfl : k = r.length := by omega
      go_wp2_with fail
      go_ret
      exact ⟨by rw [← HR.out]; have := HNO.out; rw [List.take_length] at this; rw [this]; rfl, HB.out⟩
end
end Go.Proofs.YtbofclohnmojmaaGreatDoor
