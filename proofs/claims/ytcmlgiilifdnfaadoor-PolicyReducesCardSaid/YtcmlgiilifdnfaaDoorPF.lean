/- The reference over lists of patterns: one that matches, each covered by one, all are patterns. -/
import Derived.Test.YtcmlgiilifdnfaaDoorPE
namespace Go.Proofs.YtcmlgiilifdnfaaDoor
open Go.RowKit
open Go.Sort (grow)

theorem any_take {l : List ByteArray} {p : ByteArray → Bool} {k : Nat} {t : ByteArray} (ht : l[k]? = some t) : (l.take (k + 1)).any p = ((l.take k).any p || p t) := by
  rw [List.take_add_one, ht]; simp
theorem all_take {l : List ByteArray} {p : ByteArray → Bool} {k : Nat} {t : ByteArray} (ht : l[k]? = some t) : (l.take (k + 1)).all p = ((l.take k).all p && p t) := by
  rw [List.take_add_one, ht]; simp
theorem any_hit {l : List ByteArray} {p : ByteArray → Bool} {k : Nat} {t : ByteArray} (ht : l[k]? = some t) (h : p t = true) : true = l.any p := by
  symm; rw [List.any_eq_true]; exact ⟨t, List.mem_of_getElem? ht, h⟩
theorem all_miss {l : List ByteArray} {p : ByteArray → Bool} {k : Nat} {t : ByteArray} (ht : l[k]? = some t) (h : p t = false) : false = l.all p := by
  symm; rw [List.all_eq_false]; exact ⟨t, List.mem_of_getElem? ht, by simp [h]⟩
theorem one_any (A : Option Addr) (c : Nat) (l : List ByteArray) (x : ByteArray) (w : World) (hl : StrL w w.heap.size A l) (hn : l.length ≤ 1000000) (hs : Sz l) (hx : x.size ≤ 9223372036854775807) :
    Calls Tryd.prog 44 #[.slice A l.length c, .string x] w fun e w' => e = .returned (.bool (anyM l x)) ∧ w = w' := by
  have HL := Lib.hid hl
  have HS := Lib.hid hs
  have HX := Lib.hid hx
  clear hl hs hx
  go_enter Tryd.func44, Tryd.ntmps44
  go_wp2_with fail
  go_loop [5] (fun i => ∃ k : Nat, k ≤ l.length ∧ i = .int .i64 k ∧ (l.take k).any (fun t => mW t.data.toList x.data.toList) = false) (fun i => l.length - (intOf i).toNat)
  case atStart => exact ⟨0, Nat.zero_le _, rfl, by simp⟩
  case round =>
    obtain ⟨k, hk, rfl, hno⟩ := hrel
    have HN := Lib.hid hno
    clear hno
    by_cases hlt : k < l.length
    · obtain ⟨t, ht⟩ : ∃ t, l[k]? = some t := ⟨_, List.getElem?_eq_getElem hlt⟩
      obtain ⟨b, o, rfl, -, c0⟩ := HL.out.cell ht
      have HT := Lib.hid ht
      have H1 := Lib.hid (HS.out t (List.mem_of_getElem? ht))
      clear ht
      go_wp2_with fail
      refine (rMatches_any t x w H1.out HX.out).mono ?_
      rintro e wq ⟨rfl, rfl⟩
      cases hm : mW t.data.toList x.data.toList
      · have HM := Lib.hid (show (l.take (k + 1)).any (fun t => mW t.data.toList x.data.toList) = false by rw [any_take HT.out, HN.out, hm]; rfl)
        clear hm
        go_wp2_with fail
        go_round
        case rel => exact ⟨k + 1, by omega, by go_num, HM.out⟩
        case measure => simp [intOf]; omega
      · have HM := Lib.hid (any_hit (p := fun t => mW t.data.toList x.data.toList) HT.out hm)
        clear hm
        go_wp2_with fail
        go_ret
        exact ⟨ret_bool HM.out, rfl⟩
    · obtain rfl : k = l.length := by omega
      have HM := Lib.hid (show false = anyM l x by have := HN.out; rw [List.take_length] at this; exact this.symm)
      go_wp2_with fail
      go_ret
      exact ⟨ret_bool HM.out, rfl⟩
theorem patterns_any (A : Option Addr) (c : Nat) (l : List ByteArray) (w : World) (hl : StrL w w.heap.size A l) (hn : l.length ≤ 1000000) (hs : Sz l) :
    Calls Tryd.prog 39 #[.slice A l.length c] w fun e w' => e = .returned (.bool (okS l)) ∧ w = w' := by
  have HL := Lib.hid hl
  have HS := Lib.hid hs
  clear hl hs
  go_enter Tryd.func39, Tryd.ntmps39
  go_wp2_with fail
  go_loop [3] (fun i => ∃ k : Nat, k ≤ l.length ∧ i = .int .i64 k ∧ (l.take k).all (fun t => patW t.data.toList) = true) (fun i => l.length - (intOf i).toNat)
  case atStart => exact ⟨0, Nat.zero_le _, rfl, by simp⟩
  case round =>
    obtain ⟨k, hk, rfl, hno⟩ := hrel
    have HN := Lib.hid hno
    clear hno
    by_cases hlt : k < l.length
    · obtain ⟨t, ht⟩ : ∃ t, l[k]? = some t := ⟨_, List.getElem?_eq_getElem hlt⟩
      obtain ⟨b, o, rfl, -, c0⟩ := HL.out.cell ht
      have HT := Lib.hid ht
      have H1 := Lib.hid (HS.out t (List.mem_of_getElem? ht))
      clear ht
      go_wp2_with fail
      refine (rPattern_any t w H1.out).mono ?_
      rintro e wq ⟨rfl, rfl⟩
      cases hm : patW t.data.toList
      · have HM := Lib.hid (all_miss (p := fun t => patW t.data.toList) HT.out hm)
        clear hm
        go_wp2_with fail
        go_ret
        exact ⟨ret_bool HM.out, rfl⟩
      · have HM := Lib.hid (show (l.take (k + 1)).all (fun t => patW t.data.toList) = true by rw [all_take HT.out, HN.out, hm]; rfl)
        clear hm
        go_wp2_with fail
        go_round
        case rel => exact ⟨k + 1, by omega, by go_num, HM.out⟩
        case measure => simp [intOf]; omega
    · obtain rfl : k = l.length := by omega
      have HM := Lib.hid (show true = okS l by have := HN.out; rw [List.take_length] at this; exact this.symm)
      go_wp2_with fail
      go_ret
      exact ⟨ret_bool HM.out, rfl⟩
theorem rCovers_at (p q : ByteArray) (hp : p.size ≤ 9223372036854775807) (hq : q.size ≤ 9223372036854775807) (W : World) (d : Nat) (os : Array Obj) :
    Calls Tryd.prog 59 #[.string p, .string q] (grow (redrawn W d) os) fun e w' => e = .returned (.bool (cW p.data.toList q.data.toList)) ∧ ∃ p : Regrown, w' = grow (redrawn W p.d) p.os :=
  Calls.regrown_of (rCovers_p p q _ hp hq)
theorem all_any (A : Option Addr) (c : Nat) (a : List ByteArray) (A2 : Option Addr) (c2 : Nat) (b : List ByteArray) (w : World) (hl : StrL w w.heap.size A a) (hn : a.length ≤ 1000000) (hs : Sz a) (hl2 : StrL w w.heap.size A2 b) (hn2 : b.length ≤ 1000000) (hs2 : Sz b) :
    Calls Tryd.prog 42 #[.slice A a.length c, .slice A2 b.length c2] w fun e w' => e = .returned (.bool (wit b a)) ∧ Below w.heap.size w w' := by
  have HL := Lib.hid hl
  have HS := Lib.hid hs
  have HL2 := Lib.hid hl2
  have HS2 := Lib.hid hs2
  clear hl hs hl2 hs2
  go_enter Tryd.func42, Tryd.ntmps42
  go_wp2_with fail
  go_loopw [5] (fun i wr => ∃ k : Nat, k ≤ b.length ∧ i = .int .i64 k ∧ (b.take k).all (fun q => a.any fun p => cW p.data.toList q.data.toList) = true ∧ Below w.heap.size w wr) (fun i _ => b.length - (intOf i).toNat)
  case atStart => exact ⟨0, Nat.zero_le _, rfl, by simp, Below.refl _ _⟩
  case round =>
    obtain ⟨k, hk, rfl, hno, hbr⟩ := hrel
    have HN := Lib.hid hno
    have HB := Lib.hid hbr
    have hzr : w.heap.size ≤ wr.heap.size := hbr.size
    clear hno hbr
    by_cases hlt : k < b.length
    · obtain ⟨q, hq⟩ : ∃ t, b[k]? = some t := ⟨_, List.getElem?_eq_getElem hlt⟩
      have HQ := Lib.hid hq
      have H1 := Lib.hid (HS2.out q (List.mem_of_getElem? hq))
      clear hq
      go_wp2_with fail
      go_loopw [6, 7] (fun f i wr2 => ∃ j : Nat, j ≤ a.length ∧ i = .int .i64 j ∧ f = .bool ((a.take j).any fun p => cW p.data.toList q.data.toList) ∧ Below w.heap.size w wr2) (fun _ i _ => a.length - (intOf i).toNat)
      case atStart => exact ⟨0, Nat.zero_le _, rfl, by simp, HB.out⟩
      case round =>
        obtain ⟨j, hj, rfl, rfl, hb2⟩ := hrel
        have HB2 := Lib.hid hb2
        have hzr2 : w.heap.size ≤ wr.heap.size := hb2.size
        clear hb2
        by_cases hlt2 : j < a.length
        · obtain ⟨p, hp⟩ : ∃ t, a[j]? = some t := ⟨_, List.getElem?_eq_getElem hlt2⟩
          obtain ⟨g, o, rfl, -, c0⟩ := (HL.out.keep HB2.out).cell hp
          obtain ⟨g2, o2, rfl, -, c2⟩ := (HL2.out.keep HB2.out).cell HQ.out
          have HA := Lib.hid (any_take (p := fun p => cW p.data.toList q.data.toList) hp)
          have H2 := Lib.hid (HS.out p (List.mem_of_getElem? hp))
          have r0 := fun d os => cell_regrown c0 d os
          have r1 := fun d os => cell_regrown c2 d os
          clear hp
          generalize ((a.take j).any fun p => cW p.data.toList q.data.toList) = f at *
          go_wp2_with fail
          refine wp_region_quiet_below (by kernel_rfl) (by kernel_rfl) ?_
          repeat (go_big_quiet_step ((go_at_call 59; go_must (exact rCovers_at _ _ H2.out H1.out _ _ _))))
          refine wpQuiet_nil ?_
          intro _ hw'
          obtain ⟨⟨dq, osq⟩, hw''⟩ := hw'
          subst hw''
          have hb := below_regrown wr dq osq
          have HB1 := Lib.hid (HB2.out.trans (hb.mono hzr2))
          clear hb r0 r1 c0 c2
          cases hc : cW p.data.toList q.data.toList
          · have HC := Lib.hid hc
            clear hc
            go_wp2_with fail
            go_roundw
            case rel => exact ⟨j + 1, by omega, by go_num, by rw [HA.out, HC.out]; simp, HB1.out⟩
            case measure => simp [intOf]; omega
          · have HC := Lib.hid hc
            clear hc
            go_wp2_with fail
            go_roundw
            case rel => exact ⟨j + 1, by omega, by go_num, by rw [HA.out, HC.out]; simp, HB1.out⟩
            case measure => simp [intOf]; omega
        · obtain rfl : j = a.length := by omega
          rw [List.take_length]
          cases hc : (a.any fun p => cW p.data.toList q.data.toList)
          · have HM := Lib.hid (all_miss (p := fun q => a.any fun p => cW p.data.toList q.data.toList) HQ.out hc)
            clear hc
            go_wp2_with fail
            go_ret
            exact ⟨ret_bool HM.out, HB2.out⟩
          · have HM := Lib.hid (show (b.take (k + 1)).all (fun q => a.any fun p => cW p.data.toList q.data.toList) = true by rw [all_take HQ.out, HN.out, hc]; rfl)
            clear hc
            go_wp2_with fail
            go_roundw
            case rel => exact ⟨k + 1, by omega, by go_num, HM.out, HB2.out⟩
            case measure => simp [intOf]; omega
    · obtain rfl : k = b.length := by omega
      have HM := Lib.hid (show true = wit b a by have := HN.out; rw [List.take_length] at this; exact this.symm)
      go_wp2_with fail
      go_ret
      exact ⟨ret_bool HM.out, HB.out⟩
end Go.Proofs.YtcmlgiilifdnfaaDoor
