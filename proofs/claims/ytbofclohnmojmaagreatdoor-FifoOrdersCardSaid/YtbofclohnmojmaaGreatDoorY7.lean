/- Receipts, Delete, Return, Keys, New, calls. -/
import Derived.Test.YtbofclohnmojmaaGreatDoorY6
import Derived.Lib.IndexBytes
import Derived.Deep.RegionLaw
namespace Go.Proofs.YtbofclohnmojmaaGreatDoor
open Go.RowKit

/-- The listed variables that Parse reads. -/
def ErrV (w : World) : Prop := ∃ tp p, w.var? Tryz.prog "strconv.ErrRange" = some #[.iface tp p]
theorem byte_is (s : ByteArray) (k : Nat) (hk : k < s.size) {c : UInt8} (h : s.data.toList[k]? = some c) : s[k] = c := by
  rw [byte_at s k hk] at h
  injection h
theorem list_of_bytes {s : ByteArray} (h : 0 < s.size) : s.data.toList = s[0] :: s.data.toList.drop 1 := by
  have h1 := byte_at s 0 h
  cases e : s.data.toList with
  | nil => rw [e] at h1; simp at h1
  | cons a b => rw [e] at h1; simp at h1; simp [h1]
theorem tail_bytes (s : ByteArray) : (s.extract 1 s.size).data.toList = s.data.toList.drop 1 := Lib.extract_to_end s 1
theorem tail_size (s : ByteArray) : (s.extract 1 s.size).size = s.size - 1 := by
  rw [← size_len, tail_bytes, List.length_drop, size_len]
theorem isDg_iff (c : UInt8) : isDg c = true ↔ 48 ≤ c.toNat ∧ c.toNat ≤ 57 := by simp [isDg]
theorem all_step (t : ByteArray) (k : Nat) (h : k < t.size) : (t.data.toList.take (k + 1)).all isDg = ((t.data.toList.take k).all isDg && isDg t[k]) := by
  rw [List.take_add_one, byte_at t k h, List.all_append]
  simp
theorem all_no (t : ByteArray) (k : Nat) (h : k < t.size) (hd : isDg t[k] = false) : t.data.toList.all isDg = false := by
  rw [List.all_eq_false]
  exact ⟨t[k], List.mem_of_getElem? (byte_at t k h), by simp [hd]⟩
theorem decB_empty {s : ByteArray} (h : s.size = 0) : decB s.data.toList = false := by
  have : s.data.toList = [] := List.eq_nil_of_length_eq_zero (by rw [size_len, h])
  rw [this]; rfl
theorem decB_minus {s : ByteArray} (h : 1 < s.size) (h45 : s[0].toNat = 45) : decB s.data.toList = (!(decide (s[1].toNat = 48)) && (s.data.toList.drop 1).all isDg) := by
  rw [list_of_bytes (by omega)]
  rw [decB_cons, if_pos h45]
  have h1 := byte_at s 1 h
  cases e : s.data.toList.drop 1 with
  | nil => have := congrArg List.length e; simp at this; omega
  | cons a b =>
    have : a = s[1] := by
      have h2 : (s.data.toList.drop 1)[0]? = s.data.toList[1]? := by rw [List.getElem?_drop]
      rw [e, h1] at h2
      simpa using h2
    subst this
    simp
theorem decB_plus {s : ByteArray} (h : 0 < s.size) (h45 : s[0].toNat ≠ 45) : decB s.data.toList = ((!(decide (s[0].toNat = 48)) || decide (s.size = 1)) && s.data.toList.all isDg) := by
  have e := list_of_bytes h
  have hl := size_len s
  generalize s.data.toList.drop 1 = r at e
  rw [e] at hl ⊢
  rw [decB_cons, if_neg h45]
  congr 2
  cases r with
  | nil => simp at hl; simp [← hl]
  | cons a b => simp at hl; simp; omega
theorem decB_lone {s : ByteArray} (h : s.size = 1) (h45 : s[0].toNat = 45) : decB s.data.toList = false := by
  rw [list_of_bytes (by omega), decB_cons, if_pos h45]
  have : s.data.toList.drop 1 = [] := List.eq_nil_of_length_eq_zero (by simp [h])
  rw [this]
theorem is_zero_text {s : ByteArray} (h : 0 < s.size) (h48 : s[0].toNat = 48) : (s.toList == [48]) = decide (s.size = 1) := by
  have e := list_of_bytes h
  have hl := size_len s
  rw [Lib.toList_data]
  have hc : s[0] = 48 := UInt8.toNat_inj.1 h48
  generalize s.data.toList.drop 1 = r at e
  rw [e] at hl ⊢
  rw [hc]
  cases r with
  | nil => simp at hl; simp [← hl]
  | cons a b => simp at hl; simp; omega
theorem not_zero_text {s : ByteArray} (h : 0 < s.size) (h48 : s[0].toNat ≠ 48) : (s.toList == [48]) = false := by
  rw [Lib.toList_data, list_of_bytes h]
  have : s[0] ≠ 48 := fun e => h48 (by rw [e]; rfl)
  simp [this]

theorem tail_zero {s : ByteArray} (h : 1 < s.size) (h' : 0 < (s.extract 1 s.size).size) : (s.extract 1 s.size)[0] = s[1] :=
  byte_is _ 0 h' (by rw [tail_bytes, List.getElem?_drop]; exact byte_at s 1 h)

set_option maxHeartbeats 400000 in
theorem decimal_any (s : ByteArray) (w : World) (hs : s.size ≤ 9223372036854775807) :
    Calls Tryz.prog 91 #[.string s] w fun e w' => e = .returned (.bool (decB s.data.toList)) ∧ w = w' := by
  by_cases h0 : 0 < s.size
  · by_cases h45 : s[0].toNat = 45
    · by_cases h1 : 1 < s.size
      · have ht := tail_size s
        have hE := isEmpty_not (s := s.extract 1 s.size) (by rw [ht]; omega)
        have hZ := not_zero_text h0 (by omega)
        have htl := tail_bytes s
        have ht0 := tail_zero h1 (by rw [ht]; omega)
        have hD := decB_minus h1 h45
        rw [← htl] at hD
        by_cases h48 : s[1].toNat = 48
        · rw [h48] at hD
          have HD := Lib.hid hD
          have h48' : (s.extract 1 s.size)[0].toNat = 48 := by rw [ht0]; exact h48
          clear hD htl ht0
          go_enter Tryz.func91, Tryz.ntmps91
          go_wp2
          go_ret
          exact ⟨ret_bool (by rw [HD.out]; simp), rfl⟩
        · have hn : (!(decide (s[1].toNat = 48))) = true := by simpa using h48
          rw [hn, Bool.true_and] at hD
          have HD := Lib.hid hD
          have h48' : ¬ (s.extract 1 s.size)[0].toNat = 48 := by rw [ht0]; exact h48
          clear hD htl ht0
          go_enter Tryz.func91, Tryz.ntmps91
          go_wp2
          clear h48' hE hZ h1 h48 hn
          generalize s.extract 1 s.size = t at *
          have hts : t.size ≤ 9223372036854775807 := by omega
          go_loop [4, 29] (fun _ i => ∃ k : Nat, k ≤ t.size ∧ i = .int .i64 k ∧ (t.data.toList.take k).all isDg = true) (fun _ i => t.size - (intOf i).toNat)
          case atStart => exact ⟨0, Nat.zero_le _, rfl, rfl⟩
          case round =>
            obtain ⟨k, hk, rfl, hall⟩ := hrel
            by_cases hlt : k < t.size
            · have hst := all_step t k hlt
              rw [hall, Bool.true_and] at hst
              have hno := all_no t k hlt
              have HN := Lib.hid (And.intro hst hno)
              clear hst hno hall
              by_cases h1 : 48 ≤ t[k].toNat
              · by_cases h2 : t[k].toNat ≤ 57
                · have HY := Lib.hid ((isDg_iff t[k]).2 ⟨h1, h2⟩)
                  go_wp2
                  go_round
                  case rel => exact ⟨k + 1, by omega, by go_num, by rw [HN.out.1, HY.out]⟩
                  case measure => simp [intOf]; omega
                · have HY := Lib.hid (show isDg t[k] = false by simp [isDg]; omega)
                  have h3 : 57 < t[k].toNat := by omega
                  clear h2
                  go_wp2
                  all_goals
                    go_ret
                    exact ⟨ret_bool (by rw [HD.out, HN.out.2 HY.out]), rfl⟩
              · have HY := Lib.hid (show isDg t[k] = false by simp [isDg]; omega)
                go_wp2
                all_goals
                  go_ret
                  exact ⟨ret_bool (by rw [HD.out, HN.out.2 HY.out]), rfl⟩
            · obtain rfl : k = t.size := by omega
              have HY := Lib.hid hall
              clear hall
              go_wp2
              go_ret
              exact ⟨ret_bool (by rw [HD.out, ← HY.out, ← size_len, List.take_length]), rfl⟩
      · have hE := isEmpty_of (s := s.extract 1 s.size) (by rw [tail_size]; omega)
        have HD := Lib.hid (decB_lone (show s.size = 1 by omega) h45)
        go_enter Tryz.func91, Tryz.ntmps91
        go_wp2
        go_ret
        exact ⟨ret_bool HD.out.symm, rfl⟩
    · have hD := decB_plus h0 h45
      have hE := isEmpty_not h0
      by_cases h48 : s[0].toNat = 48
      · have hZ := is_zero_text h0 h48
        by_cases h1 : s.size = 1
        · have hZ' : (s.toList == [48]) = true := by rw [hZ]; simpa using h1
          have hn : (!(decide (s[0].toNat = 48)) || decide (s.size = 1)) = true := by simp [h1]
          rw [hn, Bool.true_and] at hD
          have HD := Lib.hid hD
          clear hD hn hZ h1
          go_enter Tryz.func91, Tryz.ntmps91
          go_wp2
          clear hZ' hE h48 h45
          have hts : s.size ≤ 9223372036854775807 := by omega
          go_loop [4, 29] (fun _ i => ∃ k : Nat, k ≤ s.size ∧ i = .int .i64 k ∧ (s.data.toList.take k).all isDg = true) (fun _ i => s.size - (intOf i).toNat)
          case atStart => exact ⟨0, Nat.zero_le _, rfl, rfl⟩
          case round =>
            obtain ⟨k, hk, rfl, hall⟩ := hrel
            by_cases hlt : k < s.size
            · have hst := all_step s k hlt
              rw [hall, Bool.true_and] at hst
              have hno := all_no s k hlt
              have HN := Lib.hid (And.intro hst hno)
              clear hst hno hall
              by_cases h1 : 48 ≤ s[k].toNat
              · by_cases h2 : s[k].toNat ≤ 57
                · have HY := Lib.hid ((isDg_iff s[k]).2 ⟨h1, h2⟩)
                  go_wp2
                  go_round
                  case rel => exact ⟨k + 1, by omega, by go_num, by rw [HN.out.1, HY.out]⟩
                  case measure => simp [intOf]; omega
                · have HY := Lib.hid (show isDg s[k] = false by simp [isDg]; omega)
                  have h3 : 57 < s[k].toNat := by omega
                  clear h2
                  go_wp2
                  all_goals
                    go_ret
                    exact ⟨ret_bool (by rw [HD.out, HN.out.2 HY.out]), rfl⟩
              · have HY := Lib.hid (show isDg s[k] = false by simp [isDg]; omega)
                go_wp2
                all_goals
                  go_ret
                  exact ⟨ret_bool (by rw [HD.out, HN.out.2 HY.out]), rfl⟩
            · obtain rfl : k = s.size := by omega
              have HY := Lib.hid hall
              clear hall
              go_wp2
              go_ret
              exact ⟨ret_bool (by rw [HD.out, ← HY.out, ← size_len, List.take_length]), rfl⟩
        · have hZ' : (s.toList == [48]) = false := by rw [hZ]; simpa using h1
          have hn : (!(decide (s[0].toNat = 48)) || decide (s.size = 1)) = false := by simp [h1, h48]
          rw [hn, Bool.false_and] at hD
          have HD := Lib.hid hD
          clear hD hn hZ h1
          go_enter Tryz.func91, Tryz.ntmps91
          go_wp2
          go_ret
          exact ⟨ret_bool HD.out.symm, rfl⟩
      · have hn : (!(decide (s[0].toNat = 48)) || decide (s.size = 1)) = true := by simp [h48]
        rw [hn, Bool.true_and] at hD
        have HD := Lib.hid hD
        clear hD hn
        go_enter Tryz.func91, Tryz.ntmps91
        go_wp2
        clear hE h48 h45
        have hts : s.size ≤ 9223372036854775807 := by omega
        go_loop [4, 29] (fun _ i => ∃ k : Nat, k ≤ s.size ∧ i = .int .i64 k ∧ (s.data.toList.take k).all isDg = true) (fun _ i => s.size - (intOf i).toNat)
        case atStart => exact ⟨0, Nat.zero_le _, rfl, rfl⟩
        case round =>
          obtain ⟨k, hk, rfl, hall⟩ := hrel
          by_cases hlt : k < s.size
          · have hst := all_step s k hlt
            rw [hall, Bool.true_and] at hst
            have hno := all_no s k hlt
            have HN := Lib.hid (And.intro hst hno)
            clear hst hno hall
            by_cases h1 : 48 ≤ s[k].toNat
            · by_cases h2 : s[k].toNat ≤ 57
              · have HY := Lib.hid ((isDg_iff s[k]).2 ⟨h1, h2⟩)
                go_wp2
                go_round
                case rel => exact ⟨k + 1, by omega, by go_num, by rw [HN.out.1, HY.out]⟩
                case measure => simp [intOf]; omega
              · have HY := Lib.hid (show isDg s[k] = false by simp [isDg]; omega)
                have h3 : 57 < s[k].toNat := by omega
                clear h2
                go_wp2
                all_goals
                  go_ret
                  exact ⟨ret_bool (by rw [HD.out, HN.out.2 HY.out]), rfl⟩
            · have HY := Lib.hid (show isDg s[k] = false by simp [isDg]; omega)
              go_wp2
              all_goals
                go_ret
                exact ⟨ret_bool (by rw [HD.out, HN.out.2 HY.out]), rfl⟩
          · obtain rfl : k = s.size := by omega
            have HY := Lib.hid hall
            clear hall
            go_wp2
            go_ret
            exact ⟨ret_bool (by rw [HD.out, ← HY.out, ← size_len, List.take_length]), rfl⟩
  · have hE := isEmpty_of (show s.size = 0 by omega)
    have HD := Lib.hid (decB_empty (show s.size = 0 by omega))
    go_enter Tryz.func91, Tryz.ntmps91
    go_wp2
    go_ret
    exact ⟨ret_bool HD.out.symm, rfl⟩
theorem bnd_no {n : Int} (h : n < -1000000000000 ∨ 1000000000000 < n) : bndB n = false := by
  cases e : bndB n
  · rfl
  · have := (bndB_iff n).1 e; omega
theorem parI_no {l : List UInt8} (h : decB l = false) : parI l = (0, 1) := by unfold parI; rw [h]; rfl
theorem parI_far {l : List UInt8} (h : decB l = true) (hb : bndB (valI l) = false) : parI l = (0, 2) := by unfold parI; rw [h, if_pos rfl, hb]; rfl
theorem parI_ok {l : List UInt8} (h : decB l = true) (hb : bndB (valI l) = true) : parI l = (valI l, 0) := by unfold parI; rw [h, if_pos rfl, hb]; rfl
set_option maxHeartbeats 400000 in
theorem Parse_any (s : ByteArray) (w : World) (hs : s.size ≤ 140737488351232) (hX : ErrV w) :
    Calls Tryz.prog 78 #[.string s] w fun e w' => e = .returned (tup2 (parI s.data.toList)) ∧ Below w.heap.size w w' := by
  obtain ⟨tp, p, hr⟩ := hX
  have HR := Lib.hid hr
  clear hr
  go_enter Tryz.func78, Tryz.ntmps78
  go_wp2_with fail
  refine (decimal_any s _ (by omega)).mono ?_
  rintro e w1 ⟨rfl, rfl⟩
  cases hd : decB s.data.toList
  · have HD := Lib.hid (parI_no hd)
    clear hd
    go_wp2
    go_ret2
    exact ⟨ret_tup2 HD.out, Below.refl _ _⟩
  · rcases atoi_dec s.data.toList hd with ⟨ha, b1, b2⟩ | ⟨ha, ho⟩
    · have HA := Lib.hid (And.intro hd ha)
      clear hd ha
      go_wp2_with fail
      refine (Tryz.strconv_Atoi_ok s (by omega) _ HA.out.2 _).mono ?_
      rintro e w1 ⟨rfl, hw⟩
      have hb : Below w.heap.size w w1 := by
        rcases hw with rfl | ⟨t, rfl⟩
        · exact Below.refl _ _
        · exact Lib.bytesWorld_below _ _ _
      clear hw
      have hp1 := parI_ok HA.out.1
      have hp2 := parI_far HA.out.1
      have HP := Lib.hid (And.intro hp1 hp2)
      clear hp1 hp2 HA
      generalize valI s.data.toList = v at *
      go_wp2_with fail
      refine (Valid_any _ _).mono ?_
      rintro e w2 ⟨rfl, rfl⟩
      cases hv : bndB v
      · have HV := Lib.hid (HP.out.2 hv)
        clear hv
        go_wp2
        go_ret2
        exact ⟨ret_tup2 HV.out, hb⟩
      · have HV := Lib.hid (HP.out.1 hv)
        clear hv
        go_wp2
        go_ret2
        exact ⟨ret_tup2 HV.out, hb⟩
    · have HA := Lib.hid (And.intro hd ha)
      have HD := Lib.hid (parI_far hd (by exact bnd_no ho))
      clear hd ha
      go_wp2_with fail
      refine (Tryz.strconv_Atoi_range_var s (by omega) HA.out.2 tp p _ HR.out).mono ?_
      rintro e w1 ⟨N, rfl, _, _, hb⟩
      go_wp2
      go_ret2
      exact ⟨ret_tup2 HD.out, hb⟩

end Go.Proofs.YtbofclohnmojmaaGreatDoor
namespace Go.Proofs.YtbofclohnmojmaaGreatDoor
open Go.RowKit
open Go.Sort (grow)

set_option maxHeartbeats 2000000 in
theorem fclo_any (x : En) (rc : ByteArray) (m bs ba : Nat) (w : World) (hm : m ≤ rc.size) (h1 : w.cell? ⟨bs, 0, none⟩ = some (.string rc)) (h2 : w.cell? ⟨ba, 0, none⟩ = some (.int .i64 (m : Int))) :
    Calls Tryz.prog 79 #[.agg #[.string x.ev.id, .string x.ev.tn, .string x.ev.src, .string x.ev.key, .int .i64 x.ev.at_, .string x.ev.cause, .slice x.ev.A x.ev.body.length x.ev.cp, .int .i64 x.vis, .int .i64 x.rcv, .bool x.held, .int .i64 x.arr], .pointer (some ⟨bs, 0, none⟩), .pointer (some ⟨ba, 0, none⟩)] w fun e w' => e = .returned (.bool (eqS x.ev.id (rc.extract 0 m))) ∧ Below w.heap.size w w' := by
  have ht := toL_eq x.ev.id (rc.extract 0 m)
  go_enter Tryz.func79, Tryz.ntmps79
  go_wp2_with fail
  have c1 := cell_al h1 (.cells #[.string x.ev.id, .string x.ev.tn, .string x.ev.src, .string x.ev.key, .int .i64 x.ev.at_, .string x.ev.cause, .slice x.ev.A x.ev.body.length x.ev.cp, .int .i64 x.vis, .int .i64 x.rcv, .bool x.held, .int .i64 x.arr] 76)
  have c2 := cell_al h2 (.cells #[.string x.ev.id, .string x.ev.tn, .string x.ev.src, .string x.ev.key, .int .i64 x.ev.at_, .string x.ev.cause, .slice x.ev.A x.ev.body.length x.ev.cp, .int .i64 x.vis, .int .i64 x.rcv, .bool x.held, .int .i64 x.arr] 76)
  have bx := Blk.new w 76 #[.string x.ev.id, .string x.ev.tn, .string x.ev.src, .string x.ev.key, .int .i64 x.ev.at_, .string x.ev.cause, .slice x.ev.A x.ev.body.length x.ev.cp, .int .i64 x.vis, .int .i64 x.rcv, .bool x.held, .int .i64 x.arr]
  have HB := Lib.hid (al_new w (.cells #[.string x.ev.id, .string x.ev.tn, .string x.ev.src, .string x.ev.key, .int .i64 x.ev.at_, .string x.ev.cause, .slice x.ev.A x.ev.body.length x.ev.cp, .int .i64 x.vis, .int .i64 x.rcv, .bool x.held, .int .i64 x.arr] 76))
  clear h1 h2
  generalize w.alloc (.cells #[.string x.ev.id, .string x.ev.tn, .string x.ev.src, .string x.ev.key, .int .i64 x.ev.at_, .string x.ev.cause, .slice x.ev.A x.ev.body.length x.ev.cp, .int .i64 x.vis, .int .i64 x.rcv, .bool x.held, .int .i64 x.arr] 76) = W at *
  have x0 : W.cell? ⟨w.heap.size, 0, none⟩ = some (.string x.ev.id) := bx.cell 0
  have hmi : (m : Int) ≤ rc.size := by omega
  have hm0 : (0 : Int) ≤ m := by omega
  clear bx
  go_quiet (fail)
  go_wp2_with fail
  go_ret
  exact ⟨rfl, HB.out.trans (below_drewN' _ _ _)⟩
theorem enters_f1 (args : Array Value) (w : World) : Sem.run Tryz.prog (callFunc 79 args) w = .ok (.enter 79 args) w := enters_of Tryz.func79 (by kernel_rfl) rfl args w
theorem findI_any (rc : ByteArray) (m bs ba base : Nat) (A : Option Addr) (c : Nat) (l : List En) (w : World) (hl : OwnE w base (.slice A l.length c) l) (hn : l.length ≤ 1000000) (hm : m ≤ rc.size) (h1 : w.cell? ⟨bs, 0, none⟩ = some (.string rc)) (h2 : w.cell? ⟨ba, 0, none⟩ = some (.int .i64 (m : Int))) :
    Calls Tryz.prog 75 #[.slice A l.length c, .func (.func 79) #[] #[.pointer (some ⟨bs, 0, none⟩), .pointer (some ⟨ba, 0, none⟩)]] w fun e w' => e = .returned (.int .i64 (idxG l (fun x => eqS x.ev.id (rc.extract 0 m)))) ∧ Below w.heap.size w w' :=
  Index_en _ enters_f1 _ (fun x => eqS x.ev.id (rc.extract 0 m)) A c base l w hl hn (fun x _ W hW => fclo_any x rc m bs ba W hm ((hW.cell (p := ⟨bs, 0, none⟩) (cell_lt h1)).trans h1) ((hW.cell (p := ⟨ba, 0, none⟩) (cell_lt h2)).trans h2))
/-- The index of a receipt's event, and its error. -/
def fndE (now : Int) (l : List En) (n : Int) (i : Nat) : Int × Int := match l[i]? with
  | none => (0, 5)
  | some x => if n < 1 ∨ x.rcv < n then (0, 5) else if n ≠ x.rcv ∨ x.held = false ∨ x.vis ≤ now then (0, 18) else (i, 0)
def fndS (now : Int) (l : List En) (rc : ByteArray) : Int × Int :=
  if Lib.lastIndexByte rc 35 < 0 then (0, 5)
  else if (parI (rc.extract ((Lib.lastIndexByte rc 35).toNat + 1) rc.size).data.toList).2 ≠ 0 then (0, 5)
  else match l.findIdx? (fun x => eqS x.ev.id (rc.extract 0 (Lib.lastIndexByte rc 35).toNat)) with
    | none => (0, 5)
    | some i => fndE now l (parI (rc.extract ((Lib.lastIndexByte rc 35).toNat + 1) rc.size).data.toList).1 i
/-- The listed error, that lies below block B. -/
def ErrB (w : World) (B : Nat) : Prop := ∀ w', Below B w w' → ErrV w'
theorem ErrB.on {w w' : World} {B : Nat} (h : ErrB w B) (hb : Below B w w') : ErrB w' B := fun w2 h2 => h w2 (hb.trans h2)
theorem ErrB.at_ {w : World} {B : Nat} (h : ErrB w B) : ErrV w := h w (Below.refl _ _)
section
variable {w : World} {B q c c' : Nat} {A A' : Option Addr} {s : QS}
attribute [local go_sem ↓] run_lc11 in
set_option maxHeartbeats 8000000 in
set_option maxRecDepth 20000 in
theorem find_any (hB : B ≤ w.heap.size) (hQ : FQ w B q A c A' c' s) (hok : s.ok) (rc : ByteArray) (hs : rc.size ≤ 140737488351232) (hX : ErrB w B) :
    Calls Tryz.prog 53 #[.pointer (some ⟨q, 0, none⟩), .string rc] w fun e w' => e = .returned (tup2 (fndS s.now s.l rc)) ∧ Below w.heap.size w w' := by
  have HQ := Lib.hid hQ
  have HK := Lib.hid hok
  have HX := Lib.hid hX
  have HBW := Lib.hid hB
  clear hQ hok hX hB
  go_enter Tryz.func53, Tryz.ntmps53
  go_wp2_with fail
  refine (Tryz.strings_LastIndexByte rc 35 (by omega) _).mono ?_
  rintro e w0 ⟨rfl, hw0⟩
  rcases Lib.lastIndexByte_spec rc 35 with ⟨hat, -⟩ | ⟨m, hmz, hat, -, -⟩
  · obtain rfl := hw0.symm
    have HE := Lib.hid (show fndS s.now s.l rc = (0, 5) by unfold fndS; rw [hat, if_pos (by decide)])
    rw [hat]
    clear hat
    go_wp2_with fail
    go_ret2
    exact ⟨ret_tup2 HE.out, (al_new w _).alloc (by simp) _⟩
  · obtain rfl := hw0.symm
    have hmi0 : ¬ ((m : Int) < 0) := by omega
    have HF := Lib.hid (show fndS s.now s.l rc = if (parI (rc.extract (m + 1) rc.size).data.toList).2 ≠ 0 then (0, 5) else match s.l.findIdx? (fun x => eqS x.ev.id (rc.extract 0 m)) with
      | none => (0, 5)
      | some i => fndE s.now s.l (parI (rc.extract (m + 1) rc.size).data.toList).1 i by unfold fndS; rw [hat, if_neg hmi0]; rfl)
    rw [hat]
    clear hat hw0
    have dm : decide ((m : Int) < 0) = false := decide_eq_false hmi0
    go_upto_region 4 with fail
    have hb1 : Below w.heap.size w ((w.alloc (.cells #[.string rc] 9)).alloc (.cells #[.int .i64 (m : Int)] 3)) := (al_new w _).alloc (by simp) _
    have bs : Blk ((w.alloc (.cells #[.string rc] 9)).alloc (.cells #[.int .i64 (m : Int)] 3)) w.heap.size 9 #[.string rc] := (Blk.new w _ _).alloc _
    have ba : Blk ((w.alloc (.cells #[.string rc] 9)).alloc (.cells #[.int .i64 (m : Int)] 3)) (w.heap.size + 1) 3 #[.int .i64 (m : Int)] := Blk.new1 w _ _ _
    have HB1 := Lib.hid hb1
    have HQ1 := Lib.hid (HQ.out.below hb1)
    have HX1 := Lib.hid (HX.out.on (hb1.mono HBW.out))
    clear hb1 dm
    generalize (w.alloc (.cells #[.string rc] 9)).alloc (.cells #[.int .i64 (m : Int)] 3) = w1 at *
    have e0 : w1.cell? ⟨w.heap.size, 0, none⟩ = some (.string rc) := bs.cell 0
    have e1 : w1.cell? ⟨w.heap.size + 1, 0, none⟩ = some (.int .i64 (m : Int)) := ba.cell 0
    have hz1 : w.heap.size ≤ w1.heap.size := HB1.out.size
    have hmz1 : (m : Int) + 1 ≤ rc.size := by omega
    have hm01 : (0 : Int) ≤ (m : Int) + 1 := by omega
    have htn : ((m : Int) + 1).toNat = m + 1 := by omega
    have hxs : (rc.extract (m + 1) rc.size).size ≤ 140737488351232 := by simp; omega
    obtain ⟨wa1, wa2⟩ := w64 (x := (m : Int) + 1) (by omega) (by omega)
    go_wp2_with fail
    refine (Parse_any (rc.extract (m + 1) rc.size) w1 hxs HX1.out.at_).mono ?_
    rintro e w2 ⟨rfl, hb⟩
    have HB2 := Lib.hid (HB1.out.trans (hb.mono hz1))
    have HQ2 := Lib.hid (HQ1.out.below hb)
    have bs2 := bs.on hb
    have ba2 := ba.on hb
    have hz2 : w.heap.size ≤ w2.heap.size := HB2.out.size
    clear hb e0 e1 wa1 wa2 hxs bs ba htn hmz1 hm01
    generalize parI (rc.extract (m + 1) rc.size).data.toList = pr at *
    obtain ⟨n, pe⟩ := pr
    simp only [tup2]
    have hl0 := HK.out.len
    have e4 : w2.cell? ⟨q, 4, none⟩ = some (.slice A s.l.length c) := HQ2.out.blk.cell 4
    have HFI := Lib.hid (findI_any rc m w.heap.size (w.heap.size + 1) B A c s.l w2 HQ2.out.row (by omega) (by omega) (bs2.cell 0) (ba2.cell 0))
    go_wp2_with fail
    refine HFI.out.mono ?_
    rintro e w3 ⟨rfl, hb⟩
    have HB3 := Lib.hid (HB2.out.trans (hb.mono hz2))
    have HQ3 := Lib.hid (HQ2.out.below hb)
    have hz3 : w.heap.size ≤ w3.heap.size := HB3.out.size
    clear hb e4 bs2 ba2 HFI
    by_cases hpe : pe = 0
    · subst hpe
      have d1 : ((0 : Int) != 0) = false := rfl
      cases hfi : s.l.findIdx? (fun x => eqS x.ev.id (rc.extract 0 m)) with
      | none =>
        have HX2 := Lib.hid (show idxG s.l (fun x => eqS x.ev.id (rc.extract 0 m)) = -1 by unfold idxG; rw [hfi])
        have HE := Lib.hid (show fndS s.now s.l rc = (0, 5) by rw [HF.out, hfi, if_neg (by simp)])
        rw [HX2.out]
        clear hfi
        go_wp2_with fail
        go_ret2
        exact ⟨ret_tup2 HE.out, HB3.out⟩
      | some i =>
        have HX2 := Lib.hid (show idxG s.l (fun x => eqS x.ev.id (rc.extract 0 m)) = (i : Int) by unfold idxG; rw [hfi])
        have HE0 := Lib.hid (show fndS s.now s.l rc = fndE s.now s.l n i by rw [HF.out, hfi, if_neg (by simp)])
        rw [HX2.out]
        obtain ⟨hil, -, -⟩ := List.findIdx?_eq_some_iff_getElem.1 hfi
        obtain ⟨x, hx⟩ : ∃ x, s.l[i]? = some x := ⟨_, List.getElem?_eq_getElem hil⟩
        obtain ⟨g, c9, e2, -, -, -, hgl2, -, -⟩ := own_at HQ3.out.row (show 0 < s.l.length by omega)
        injection e2 with e2 _ _
        subst e2
        have hi0 : ¬ ((i : Int) < 0) := by omega
        have hii : (i : Int) < s.l.length := by omega
        have hi1 : (0 : Int) ≤ i := by omega
        have e4 : w3.cell? ⟨q, 4, none⟩ = some (.slice (some ⟨g, 0, none⟩) s.l.length c) := HQ3.out.blk.cell 4
        obtain ⟨e8, -⟩ := HQ3.out.ecell hx (j := 8) (u := .int .i64 x.rcv) rfl
        clear hfi hil
        by_cases hn1 : n < 1
        · have d2 : decide (n < 1) = true := decide_eq_true hn1
          have HE := Lib.hid (show fndS s.now s.l rc = (0, 5) by rw [HE0.out]; unfold fndE; rw [hx]; simp only []; rw [if_pos (.inl hn1)])
          clear hx
          go_wp2_with fail
          go_ret2
          exact ⟨ret_tup2 HE.out, HB3.out⟩
        · have d2 : decide (n < 1) = false := decide_eq_false hn1
          by_cases hn2 : x.rcv < n
          · have d3 : decide (x.rcv < n) = true := decide_eq_true hn2
            have HE := Lib.hid (show fndS s.now s.l rc = (0, 5) by rw [HE0.out]; unfold fndE; rw [hx]; simp only []; rw [if_pos (.inr hn2)])
            clear hx
            go_wp2_with fail
            go_ret2
            exact ⟨ret_tup2 HE.out, HB3.out⟩
          · have d3 : decide (x.rcv < n) = false := decide_eq_false hn2
            have HE1 := Lib.hid (show fndS s.now s.l rc = if n ≠ x.rcv ∨ x.held = false ∨ x.vis ≤ s.now then (0, 18) else ((i : Int), 0) by rw [HE0.out]; unfold fndE; rw [hx]; simp only []; rw [if_neg (by omega)])
            have hld := own_load En.len HQ3.out.row hx Tryz.prog
            have hld : Sem.run Tryz.prog (lc11 ⟨g, i * 11, none⟩) w3 = .ok #[.string x.ev.id, .string x.ev.tn, .string x.ev.src, .string x.ev.key, .int .i64 x.ev.at_, .string x.ev.cause, .slice x.ev.A x.ev.body.length x.ev.cp, .int .i64 x.vis, .int .i64 x.rcv, .bool x.held, .int .i64 x.arr] w3 := hld
            clear hx
            go_upto_region 9 with fail
            have hb9 := al_new w3 (.cells #[.string x.ev.id, .string x.ev.tn, .string x.ev.src, .string x.ev.key, .int .i64 x.ev.at_, .string x.ev.cause, .slice x.ev.A x.ev.body.length x.ev.cp, .int .i64 x.vis, .int .i64 x.rcv, .bool x.held, .int .i64 x.arr] 76)
            have b9 := Blk.new w3 76 #[.string x.ev.id, .string x.ev.tn, .string x.ev.src, .string x.ev.key, .int .i64 x.ev.at_, .string x.ev.cause, .slice x.ev.A x.ev.body.length x.ev.cp, .int .i64 x.vis, .int .i64 x.rcv, .bool x.held, .int .i64 x.arr]
            have HQ9 := Lib.hid (HQ3.out.below hb9)
            have HB9 := Lib.hid (HB3.out.trans (hb9.mono hz3))
            clear hb9 hld e8 e4
            generalize w3.alloc (.cells #[.string x.ev.id, .string x.ev.tn, .string x.ev.src, .string x.ev.key, .int .i64 x.ev.at_, .string x.ev.cause, .slice x.ev.A x.ev.body.length x.ev.cp, .int .i64 x.vis, .int .i64 x.rcv, .bool x.held, .int .i64 x.arr] 76) = W at *
            have x7 : W.cell? ⟨w3.heap.size, 7, none⟩ = some (.int .i64 x.vis) := b9.cell 7
            have x8 : W.cell? ⟨w3.heap.size, 8, none⟩ = some (.int .i64 x.rcv) := b9.cell 8
            have x9 : W.cell? ⟨w3.heap.size, 9, none⟩ = some (.bool x.held) := b9.cell 9
            have q2 : W.cell? ⟨q, 2, none⟩ = some (.int .i64 s.now) := HQ9.out.blk.cell 2
            clear b9 d2 d3 d1
            by_cases hnr : n = x.rcv
            · have d4 : (n != x.rcv) = false := by simp [hnr]
              cases hh : x.held with
              | false =>
                rw [hh] at x9
                have HE := Lib.hid (show fndS s.now s.l rc = (0, 18) by rw [HE1.out, if_pos (.inr (.inl hh))])
                go_quiet (fail)
                go_wp2_with fail
                go_ret2
                exact ⟨ret_tup2 HE.out, HB9.out.trans (below_drewN' _ _ _)⟩
              | true =>
                rw [hh] at x9
                by_cases hv : x.vis ≤ s.now
                · have d5 : decide (x.vis ≤ s.now) = true := decide_eq_true hv
                  have HE := Lib.hid (show fndS s.now s.l rc = (0, 18) by rw [HE1.out, if_pos (.inr (.inr hv))])
                  go_quiet (fail)
                  go_wp2_with fail
                  go_ret2
                  exact ⟨ret_tup2 HE.out, HB9.out.trans (below_drewN' _ _ _)⟩
                · have d5 : decide (x.vis ≤ s.now) = false := decide_eq_false hv
                  have HE := Lib.hid (show fndS s.now s.l rc = ((i : Int), 0) by rw [HE1.out, if_neg (by rw [hh]; simp; omega)])
                  go_quiet (fail)
                  go_wp2_with fail
                  go_ret2
                  exact ⟨ret_tup2 HE.out, HB9.out.trans (below_drewN' _ _ _)⟩
            · have d4 : (n != x.rcv) = true := by simpa using hnr
              have HE := Lib.hid (show fndS s.now s.l rc = (0, 18) by rw [HE1.out, if_pos (.inl hnr)])
              go_quiet (fail)
              go_wp2_with fail
              go_ret2
              exact ⟨ret_tup2 HE.out, HB9.out.trans (below_drewN' _ _ _)⟩
    · have d1 : (pe != 0) = true := by simpa using hpe
      have HE := Lib.hid (show fndS s.now s.l rc = (0, 5) by rw [HF.out, if_pos hpe])
      generalize idxG s.l (fun x => eqS x.ev.id (rc.extract 0 m)) = ix
      clear hpe
      go_wp2_with fail
      go_ret2
      exact ⟨ret_tup2 HE.out, HB3.out⟩
end
end Go.Proofs.YtbofclohnmojmaaGreatDoor
namespace Go.Proofs.YtbofclohnmojmaaGreatDoor
open Go.RowKit
open Go.Sort (grow)

/-- The row when the tail has been moved to the left, ahead of the clearing. -/
def movedL (l : List En) (i : Nat) : List En := l.take i ++ l.drop (i + 1) ++ l.drop (l.length - 1)
theorem movedL_len {l : List En} {i : Nat} (h : i < l.length) : (movedL l i).length = l.length := by unfold movedL; simp; omega
theorem movedL_take {l : List En} {i : Nat} (h : i < l.length) : (movedL l i).take (l.length - 1) = l.eraseIdx i := by
  unfold movedL
  rw [List.take_append_of_le_length (by simp; omega), List.take_of_length_le (by simp; omega), List.eraseIdx_eq_take_drop_succ]
theorem flat_drop {α : Type} {f : α → List Value} {k : Nat} (hf : ∀ x, (f x).length = k) : ∀ (l : List α) (m : Nat), (l.flatMap f).drop (m * k) = (l.drop m).flatMap f
  | [], m => by simp
  | y :: l, 0 => by simp
  | y :: l, m + 1 => by
    rw [List.drop_succ_cons, List.flatMap_cons, List.drop_append, hf, List.drop_of_length_le (by rw [hf, Nat.add_mul]; omega), show (m + 1) * k - k = m * k by rw [Nat.add_mul]; omega, flat_drop hf l m]
    rfl
theorem movedL_flat {l : List En} {i : Nat} (h : i < l.length) : layL (l.flatMap En.cells) ((l.drop (i + 1)).flatMap En.cells) (i * 11) = (movedL l i).flatMap En.cells := by
  unfold layL movedL
  rw [flat_len En.len, flat_take En.len, List.length_drop, show i * 11 + (l.length - (i + 1)) * 11 = (l.length - 1) * 11 by omega, flat_drop En.len, List.flatMap_append, List.flatMap_append]
theorem info_en_size : ∃ i, Tryz.prog.info? 76 = some i ∧ i.size = 11 := by
  obtain ⟨i, h1, _, h2, _⟩ := info_partsO info_entry
  exact ⟨i, h1, h2⟩
def DelPost (w : World) (base g c : Nat) (l : List En) (i : Nat) (e : Ending) (w' : World) : Prop := e = .returned (.slice (some ⟨g, 0, none⟩) (l.eraseIdx i).length c) ∧ OwnE w' base (.slice (some ⟨g, 0, none⟩) (l.eraseIdx i).length c) (l.eraseIdx i) ∧ Chg (fun k => k = g) w w'
set_option maxHeartbeats 4000000 in
set_option maxRecDepth 20000 in
theorem Delete_en (g c base : Nat) (l : List En) (w : World) (h : OwnE w base (.slice (some ⟨g, 0, none⟩) l.length c) l) (i : Nat) (hi : i < l.length) (hn : l.length ≤ 1000) :
    Calls Tryz.prog 54 #[.slice (some ⟨g, 0, none⟩) l.length c, .int .i64 i, .int .i64 ((i : Int) + 1)] w (DelPost w base g c l i) := by
  obtain ⟨g', c', e1, -, hlc, hcm, -, hcell, hfz⟩ := own_at h (by omega)
  injection e1 with e1 _ e3
  injection e1 with e1
  injection e1 with e1
  subst e1 e3
  obtain ⟨i0, ih, isz⟩ := info_en_size
  obtain ⟨news, hnews⟩ : ∃ news, news = (l.drop (i + 1)).flatMap En.cells := ⟨_, rfl⟩
  have hlen : news.length = (l.length - (i + 1)) * 11 := by rw [hnews, flat_len En.len, List.length_drop]
  have hfl : (l.flatMap En.cells).length = l.length * 11 := flat_len En.len l
  have hget : ∀ t u, news[t]? = some u → w.drew.cell? ⟨g, (i + 1) * 11 + t, none⟩ = some u := fun t u hu => by
    refine hcell _ _ ?_
    rw [hnews, ← flat_drop En.len, List.getElem?_drop] at hu
    exact hu
  have s2 : ∀ u ∈ news, u.oneCell' = true := by rw [hnews]; exact flat_one En.one _
  have s3 : ∀ t, t < news.length → (w.drew.cell? ⟨g, 0 + i * 11 + t, none⟩).isSome = true ∧ w.drew.frozen? ⟨g, 0 + i * 11 + t, none⟩ = false := fun t ht => by
    rw [hlen] at ht
    refine ⟨?_, hfz _⟩
    show (w.cell? _).isSome = true
    rw [hcell _ _ (List.getElem?_eq_getElem (show 0 + i * 11 + t < (l.flatMap En.cells).length by omega))]; rfl
  obtain ⟨A, hA, hsrc⟩ : ∃ A : Addr, (if c = i + 1 then some (⟨g, 0, none⟩ : Addr) else some ⟨g, (i + 1) * 11, none⟩) = some A ∧ ∀ t u, news[t]? = some u → w.drew.cell? (A.add t) = some u := by
    by_cases hc : c = i + 1
    · refine ⟨⟨g, 0, none⟩, by simp [hc], fun t u hu => ?_⟩
      have h0 : news.length = 0 := by rw [hlen]; omega
      rw [List.length_eq_zero_iff.1 h0] at hu
      simp at hu
    · refine ⟨⟨g, (i + 1) * 11, none⟩, by simp [hc], fun t u hu => ?_⟩
      rw [Addr.add_lit]
      exact hget t u hu
  -- behind the append
  obtain ⟨W1, hW1⟩ : ∃ W1, W1 = w.drew.setCells g (0 + i * 11) news := ⟨_, rfl⟩
  have hrow : OwnE W1 base (.slice (some ⟨g, 0, none⟩) (movedL l i).length c) (movedL l i) := by
    have h2 := own_lay news _ w.drew (i * 11) (show w.drew.ownsRow base 76 11 (.slice (some ⟨g, 0, none⟩) l.length c) l.length (l.flatMap En.cells) from h) (by rw [hlen, hfl]; omega)
    rw [hnews, movedL_flat hi] at h2
    unfold OwnE
    rw [movedL_len hi, hW1, Nat.zero_add, hnews]
    exact h2
  have hch1 : Chg (fun k => k = g) w W1 := by rw [hW1]; exact chg_setCells news _ _ (Chg.refl _ w).drew (fun _ => rfl)
  obtain ⟨w2, hcl, hrow2, hch2⟩ := clear_en W1 g c base (l.length - 1) (movedL l i) hrow (by rw [movedL_len hi]; omega)
  rw [movedL_len hi, show l.length - (l.length - 1) = 1 by omega] at hcl
  rw [movedL_take hi] at hrow2
  have hel : (l.eraseIdx i).length = l.length - 1 := by rw [List.length_eraseIdx, if_pos hi]
  have HF := Lib.hid (show OwnE w2 base (.slice (some ⟨g, 0, none⟩) (l.eraseIdx i).length c) (l.eraseIdx i) ∧ Chg (fun k => k = g) w w2 by
    refine ⟨?_, hch1.trans hch2 (fun _ _ h => h)⟩
    unfold OwnE
    rw [hel]
    exact hrow2)
  have HS1 := Lib.hid hlen
  have HS2 := Lib.hid s2
  have HS3 := Lib.hid s3
  have HSR := Lib.hid hsrc
  have HEL := Lib.hid hel
  have HW1 := Lib.hid hW1
  have hii : (i : Int) < l.length := by omega
  have hi0 : (0 : Int) ≤ i := by omega
  have hi1 : (0 : Int) ≤ (i : Int) + 1 := by omega
  have hi2 : (i : Int) + 1 ≤ l.length := by omega
  have hne : ((i : Int) == (i : Int) + 1) = false := by
    rw [beq_eq_false_iff_ne]; omega
  have htn : ((i : Int) + 1).toNat = i + 1 := by omega
  have hle : (i : Int) ≤ (i : Int) + 1 := by omega
  have hlcI : (l.length : Int) ≤ c := by omega
  have hadd : i + (l.length - (i + 1)) = l.length - 1 := by omega
  have hcn : c ≠ l.length - 1 := by omega
  have hl1 : ((l.length - 1 : Nat) : Int) ≤ l.length := by omega
  have hl2 : (0 : Int) ≤ ((l.length - 1 : Nat) : Int) := by omega
  have hl3 : (l.length - (l.length - 1)) = 1 := by omega
  have hic : i ≤ c := by omega
  have hi1c : i + 1 ≤ c := by omega
  clear h hcell hfz hnews hget s2 s3 hsrc hW1 hrow hch1 hrow2 hch2 hel hlen hfl hcm
  go_enter Tryz.func54, Tryz.ntmps54
  go_wp2_with fail
  go_region_law (refine step_append_room rfl (.tmp 22) (.tmp 25) 55 rfl 76 i0 11 Tryz.underlying55 ih isz g 0 i c (by simp [Act.eval, Act.put]) A (l.length - (i + 1)) (c - (i + 1)) news (by simp [Act.eval, Act.put]) HS1.out HSR.out HS2.out (by omega) HS3.out ?_; rw [← HW1.out])
  go_wp2_with fail
  go_ret
  unfold DelPost
  rw [HEL.out]
  have hf := HF.out
  rw [HEL.out] at hf
  exact ⟨rfl, hf⟩
end Go.Proofs.YtbofclohnmojmaaGreatDoor
namespace Go.Proofs.YtbofclohnmojmaaGreatDoor
open Go.RowKit
open Go.Sort (grow)

theorem fnd_ok {now : Int} {l : List En} {rc : ByteArray} (h : (fndS now l rc).2 = 0) : ∃ i : Nat, i < l.length ∧ fndS now l rc = ((i : Int), 0) := by
  unfold fndS at h ⊢
  split at h
  · cases h
  · rename_i h1
    rw [if_neg h1]
    split at h
    · cases h
    · rename_i h2
      rw [if_neg h2]
      split at h
      · cases h
      · rename_i i h3
        unfold fndE at h ⊢
        split at h
        · cases h
        · rename_i x hx
          split at h
          · cases h
          · rename_i h4
            rw [if_neg h4]
            split at h
            · cases h
            · rename_i h5
              rw [if_neg h5]
              exact ⟨i, (List.getElem?_eq_some_iff.1 hx).1, rfl⟩
def delS (s : QS) (rc : ByteArray) : QS := if (fndS s.now s.l rc).2 = 0 then { s with l := s.l.eraseIdx (fndS s.now s.l rc).1.toNat } else s
/-- What Delete leaves. -/
def DqPost (w : World) (B q : Nat) (A A' : Option Addr) (s : QS) (rc : ByteArray) (now : Int) (e : Ending) (w' : World) : Prop :=
  (clkE s.now now ≠ 0 ∧ e = .returned (.int .i64 (clkE s.now now)) ∧ QTo w B q A A' s w') ∨
  (clkE s.now now = 0 ∧ ∃ s1, AccR s now s1 ∧ e = .returned (.int .i64 (fndS s1.now s1.l rc).2) ∧ QTo w B q A A' (delS s1 rc) w')
def En.back (v : Int) (x : En) : En := { x with held := false, vis := v }
def retS (s : QS) (rc : ByteArray) (v : Int) : QS := if (fndS s.now s.l rc).2 = 0 then { s with l := s.l.modify (fndS s.now s.l rc).1.toNat (En.back v) } else s
/-- The error of the times of a Return. -/
def retE (t now d : Int) : Int := if timeB now = false ∨ timeB d = false then 2 else clkE t now
def RqPost (w : World) (B q : Nat) (A A' : Option Addr) (s : QS) (rc : ByteArray) (now d : Int) (e : Ending) (w' : World) : Prop :=
  (retE s.now now d ≠ 0 ∧ e = .returned (.int .i64 (retE s.now now d)) ∧ QTo w B q A A' s w') ∨
  (retE s.now now d = 0 ∧ ∃ s1, AccR s now s1 ∧ e = .returned (.int .i64 (fndS s1.now s1.l rc).2) ∧ QTo w B q A A' (retS s1 rc (now + d)) w')
section
variable {w : World} {B q c c' : Nat} {A A' : Option Addr} {s : QS}
theorem del_mid2 {w w3 : World} {B q g c c' : Nat} {A' : Option Addr} {s : QS} (hQ : FQ w B q (some ⟨g, 0, none⟩) c A' c' s) {l : List En} {i : Nat} (hown : OwnE w3 B (.slice (some ⟨g, 0, none⟩) (s.l.eraseIdx i).length c) (s.l.eraseIdx i)) (hch : Chg (fun k => k = g) w w3) (hl : l = s.l.eraseIdx i := by rfl) :
    FQ (w3.setCell ⟨q, 4, none⟩ (.slice (some ⟨g, 0, none⟩) l.length c)) B q (some ⟨g, 0, none⟩) c A' c' { s with l := l } ∧ Chg (ff q (some ⟨g, 0, none⟩) A') w (w3.setCell ⟨q, 4, none⟩ (.slice (some ⟨g, 0, none⟩) l.length c)) := by
  subst hl
  have hne := hQ.ne
  have hoff : OffC w (fun k => k = g) := fun k hk => hQ.offC k (.inr (.inl (by rw [hk]; rfl)))
  have hqg : q ≠ g := fun e => hne.1 (by rw [e]; rfl)
  have hb3 : Blk w3 q 57 (qC s (some ⟨g, 0, none⟩) c A' c') := hch.blk hQ.blk hqg
  have hd3 := hch.own hQ.dead (fun k hk e => by rw [own_eq] at hk; exact hne.2.2 k (by rw [e]; rfl) hk)
  have hc2 : Chg (fun k => k = q) w3 (w3.setCell ⟨q, 4, none⟩ (.slice (some ⟨g, 0, none⟩) (s.l.eraseIdx i).length c)) := (Chg.refl (fun k => k = q) w3).setCell (p := ⟨q, 4, none⟩) (fun _ => rfl) _
  have hoff2 : OffC w3 (fun k => k = q) := by
    rintro k rfl cs m e
    unfold Blk at hb3
    rw [hb3] at e
    injection e with e
    injection e with _ e
    exact absurd e (by decide)
  refine ⟨⟨?_, hc2.own hown (fun k hk e => by subst e; exact hb3.off hown (by decide) (k := k) hk rfl), hc2.own hd3 (fun k hk e => by subst e; exact hb3.off hd3 (by decide) (k := k) hk rfl), fun x hx => ((hQ.bl x (List.mem_of_mem_eraseIdx hx)).chg hch hoff).chg hc2 hoff2, fun e he => ((hQ.bd e he).chg hch hoff).chg hc2 hoff2, hQ.hq⟩, ?_⟩
  · exact hb3.set_ 4 _
  · exact (hch.mono (T := ff q (some ⟨g, 0, none⟩) A') (fun k hk => .inr (.inl (by rw [hk]; rfl)))).trans hc2 (fun k _ hk => .inl hk)
set_option maxHeartbeats 8000000 in
set_option maxRecDepth 20000 in
theorem DeleteQ_any (hB : B ≤ w.heap.size) (hQ : FQ w B q A c A' c' s) (hok : s.ok) (rc : ByteArray) (hs : rc.size ≤ 140737488351232) (now : Int) (hX : ErrB w B) :
    Calls Tryz.prog 31 #[.pointer (some ⟨q, 0, none⟩), .string rc, .int .i64 now] w (DqPost w B q A A' s rc now) := by
  have hr : 0 < s.r := by have := hok.r; omega
  have HQ := Lib.hid hQ
  have HK := Lib.hid hok
  have HX := Lib.hid hX
  have HBW := Lib.hid hB
  clear hQ hok hX hB
  go_enter Tryz.func31, Tryz.ntmps31
  go_wp2_with fail
  refine (madeQ_any HQ.out hr).mono ?_
  rintro e wq ⟨rfl, hq⟩
  obtain rfl := hq.symm
  go_wp2_with fail
  refine (clock_any HQ.out now).mono ?_
  rintro e wq ⟨rfl, hq⟩
  obtain rfl := hq.symm
  by_cases hc : clkE s.now now = 0
  · have HC := Lib.hid hc
    have HCK := Lib.hid hc
    rw [hc]
    clear hc
    go_wp2_with fail
    refine (accept_to now HBW.out HQ.out HK.out).mono ?_
    rintro e w1 ⟨rfl, s1, hacc, A2, c2, A3, c3, hq1, hch, hfr⟩
    have HAC := Lib.hid hacc
    have hk1 := hacc.ok HK.out ⟨(clk0 HCK.out).1, (clk0 HCK.out).2.1⟩
    have HK1 := Lib.hid hk1
    have hfoot := HQ.out.foot_lt
    have HCH := Lib.hid hch
    have HFR := Lib.hid hfr
    have HQ1 := Lib.hid hq1
    have hbl := hch.toBelow (B := B) (fun k hk => (hfoot k hk).1) HBW.out
    have HX1 := Lib.hid (HX.out.on hbl)
    have hz1 : w.heap.size ≤ w1.heap.size := hbl.size
    have hll : s1.l.length ≤ 256 := by have := hk1.len; omega
    have HBW1 := Lib.hid (Nat.le_trans HBW.out hz1)
    clear hacc hq1 hch hfr hfoot hbl hk1
    go_wp2_with fail
    refine (find_any HBW1.out HQ1.out HK1.out rc hs HX1.out).mono ?_
    rintro e w2 ⟨rfl, hb⟩
    have HQ2 := Lib.hid (HQ1.out.below hb)
    have HB2 := Lib.hid hb
    have hz2 : w1.heap.size ≤ w2.heap.size := hb.size
    clear hb
    simp only [tup2]
    by_cases hf : (fndS s1.now s1.l rc).2 = 0
    · obtain ⟨i, hil, hfe⟩ := fnd_ok hf
      have HFE := Lib.hid hfe
      rw [hfe]
      simp only []
      obtain ⟨g, c9, e2, -, -, -, -, -, -⟩ := own_at HQ2.out.row (show 0 < s1.l.length by omega)
      injection e2 with e2 _ e3
      subst e2 e3
      have e4 : w2.cell? ⟨q, 4, none⟩ = some (.slice (some ⟨g, 0, none⟩) s1.l.length c2) := HQ2.out.blk.cell 4
      clear hf hfe
      have hi1 : (i : Int) + 1 ≤ 1000000 := by omega
      have HW1 := Lib.hid (w64 (x := (i : Int) + 1) (by omega) (by omega))
      have HDC := Lib.hid (Delete_en g c2 B s1.l w2 HQ2.out.row i hil (by omega))
      have HIL := Lib.hid hil
      obtain ⟨wa1, wa2⟩ := HW1.out
      clear hil hi1 hll
      go_wp2_with fail
      refine HDC.out.mono ?_
      rintro e w3 ⟨rfl, hown, hch3⟩
      have hne := HQ2.out.ne
      have hoff : OffC w2 (fun k => k = g) := fun k hk => HQ2.out.offC k (.inr (.inl (by rw [hk]; rfl)))
      have hqg : q ≠ g := fun e => hne.1 (by rw [e]; rfl)
      have e43 : w3.cell? ⟨q, 4, none⟩ = some (.slice (some ⟨g, 0, none⟩) s1.l.length c2) := (hch3.cell (p := ⟨q, 4, none⟩) HQ2.out.blk.lt hqg).trans e4
      have f43 : w3.frozen? ⟨q, 4, none⟩ = false := (hch3.blk HQ2.out.blk hqg).frozen 4
      have hmid : FQ (w3.setCell ⟨q, 4, none⟩ (.slice (some ⟨g, 0, none⟩) (s1.l.eraseIdx i).length c2)) B q (some ⟨g, 0, none⟩) c2 A3 c3 { s1 with l := s1.l.eraseIdx i } ∧ Chg (ff q (some ⟨g, 0, none⟩) A3) w2 (w3.setCell ⟨q, 4, none⟩ (.slice (some ⟨g, 0, none⟩) (s1.l.eraseIdx i).length c2)) := del_mid2 HQ2.out hown hch3
      have HM := Lib.hid hmid
      clear hown hch3 hne hoff hmid wa1 wa2 e4
      go_wp2_with fail
      go_ret
      refine .inr ⟨HC.out, s1, HAC.out, by rw [HFE.out]; rfl, ?_⟩
      have e2 : delS s1 rc = { s1 with l := s1.l.eraseIdx i } := by unfold delS; rw [HFE.out, if_pos rfl]; rfl
      rw [e2]
      exact QTo.trans (w1 := w1) HCH.out HFR.out ⟨_, _, _, _, HM.out.1, (Chg.of_below HB2.out).trans HM.out.2 (fun _ _ h => h), fun k hk => .inl hk⟩
    · have d1 : ((fndS s1.now s1.l rc).2 == 0) = false := by simpa using hf
      have HN := Lib.hid hf
      generalize hpr : fndS s1.now s1.l rc = pr at d1
      have HPR := Lib.hid hpr
      clear hf hpr
      go_wp2_with fail
      go_ret
      refine .inr ⟨HC.out, s1, HAC.out, by rw [HPR.out]; rfl, ?_⟩
      have e2 : delS s1 rc = s1 := by unfold delS; rw [if_neg HN.out]
      rw [e2]
      exact QTo.trans (w1 := w1) HCH.out HFR.out (HQ1.out.to HB2.out)
  · have d1 : (clkE s.now now != 0) = true := by simpa using hc
    have HC := Lib.hid hc
    clear hc
    go_wp2_with fail
    go_ret
    exact .inl ⟨HC.out, rfl, HQ.out.to (Below.refl _ _)⟩
end
end Go.Proofs.YtbofclohnmojmaaGreatDoor
namespace Go.Proofs.YtbofclohnmojmaaGreatDoor
open Go.RowKit
open Go.Sort (grow)

theorem modify_set {α : Type} (f : α → α) : ∀ (l : List α) (i : Nat) (x : α), l[i]? = some x → l.modify i f = l.set i (f x)
  | [], i, x, h => by simp at h
  | y :: l, 0, x, h => by simp at h; subst h; rfl
  | y :: l, i + 1, x, h => by
    rw [List.modify_succ_cons, List.set_cons_succ, modify_set f l i x (by simpa using h)]
section
variable {w : World} {B q g c c' : Nat} {A A' : Option Addr} {s : QS}
theorem FQ.backed (h : FQ w B q (some ⟨g, 0, none⟩) c A' c' s) {i : Nat} {x : En} (hx : s.l[i]? = some x) (v : Int) :
    FQ ((w.setCell ⟨g, i * 11 + 9, none⟩ (.bool false)).setCell ⟨g, i * 11 + 7, none⟩ (.int .i64 v)) B q (some ⟨g, 0, none⟩) c A' c' { s with l := s.l.modify i (En.back v) } ∧
    Chg (ff q (some ⟨g, 0, none⟩) A') w ((w.setCell ⟨g, i * 11 + 9, none⟩ (.bool false)).setCell ⟨g, i * 11 + 7, none⟩ (.int .i64 v)) := by
  have hi := (List.getElem?_eq_some_iff.1 hx).1
  have h2 := h.setE hx (j := 9) (by omega) (En.set9 x false) rfl
  have h3 := h2.1.setE (i := i) (x := { x with held := false }) (by simp [hi]) (j := 7) (by omega) (En.set7 _ v) rfl
  refine ⟨?_, (h2.2.trans h3.2 (fun _ _ h => h)).mono (fun k hk => .inr (.inl (by rw [hk]; rfl)))⟩
  have := h3.1
  simp only [List.set_set] at this
  rw [modify_set (En.back v) s.l i x hx]
  exact this
set_option maxHeartbeats 8000000 in
set_option maxRecDepth 20000 in
theorem Return_any (hB : B ≤ w.heap.size) (hQ : FQ w B q A c A' c' s) (hok : s.ok) (rc : ByteArray) (hs : rc.size ≤ 140737488351232) (now d : Int) (hX : ErrB w B) :
    Calls Tryz.prog 32 #[.pointer (some ⟨q, 0, none⟩), .string rc, .int .i64 now, .int .i64 d] w (RqPost w B q A A' s rc now d) := by
  have hr : 0 < s.r := by have := hok.r; omega
  have HQ := Lib.hid hQ
  have HK := Lib.hid hok
  have HX := Lib.hid hX
  have HBW := Lib.hid hB
  clear hQ hok hX hB
  go_enter Tryz.func32, Tryz.ntmps32
  go_wp2_with fail
  refine (madeQ_any HQ.out hr).mono ?_
  rintro e wq ⟨rfl, hq⟩
  obtain rfl := hq.symm
  go_wp2_with fail
  refine (instant_any now w).mono ?_
  rintro e wq ⟨rfl, hq⟩
  obtain rfl := hq.symm
  cases ht1 : timeB now with
  | false =>
    have HR := Lib.hid (show retE s.now now d = 2 by unfold retE; rw [if_pos (.inl ht1)])
    clear ht1
    go_wp2_with fail
    go_ret
    exact .inl ⟨by rw [HR.out]; decide, by rw [HR.out]; rfl, HQ.out.to (Below.refl _ _)⟩
  | true =>
    have HT1 := Lib.hid ht1
    go_wp2_with fail
    refine (instant_any d w).mono ?_
    rintro e wq ⟨rfl, hq⟩
    obtain rfl := hq.symm
    cases ht2 : timeB d with
    | false =>
      have HR := Lib.hid (show retE s.now now d = 2 by unfold retE; rw [if_pos (.inr ht2)])
      clear ht1 ht2
      go_wp2_with fail
      go_ret
      exact .inl ⟨by rw [HR.out]; decide, by rw [HR.out]; rfl, HQ.out.to (Below.refl _ _)⟩
    | true =>
      have HT2 := Lib.hid ht2
      have HRE := Lib.hid (show retE s.now now d = clkE s.now now by unfold retE; rw [if_neg (by rw [ht1, ht2]; decide)])
      clear ht1 ht2
      go_wp2_with fail
      refine (clock_any HQ.out now).mono ?_
      rintro e wq ⟨rfl, hq⟩
      obtain rfl := hq.symm
      by_cases hc : clkE s.now now = 0
      · have HCK := Lib.hid hc
        have HC := Lib.hid (show retE s.now now d = 0 by rw [HRE.out]; exact hc)
        rw [hc]
        clear hc
        go_wp2_with fail
        refine (accept_to now HBW.out HQ.out HK.out).mono ?_
        rintro e w1 ⟨rfl, s1, hacc, A2, c2, A3, c3, hq1, hch, hfr⟩
        have HAC := Lib.hid hacc
        have hk1 := hacc.ok HK.out ⟨(clk0 HCK.out).1, (clk0 HCK.out).2.1⟩
        have HK1 := Lib.hid hk1
        have hfoot := HQ.out.foot_lt
        have HCH := Lib.hid hch
        have HFR := Lib.hid hfr
        have HQ1 := Lib.hid hq1
        have hbl := hch.toBelow (B := B) (fun k hk => (hfoot k hk).1) HBW.out
        have HX1 := Lib.hid (HX.out.on hbl)
        have hz1 : w.heap.size ≤ w1.heap.size := hbl.size
        have hll : s1.l.length ≤ 256 := by have := hk1.len; omega
        have HBW1 := Lib.hid (Nat.le_trans HBW.out hz1)
        clear hacc hq1 hch hfr hfoot hbl hk1
        go_wp2_with fail
        refine (find_any HBW1.out HQ1.out HK1.out rc hs HX1.out).mono ?_
        rintro e w2 ⟨rfl, hb⟩
        have HQ2 := Lib.hid (HQ1.out.below hb)
        have HB2 := Lib.hid hb
        have hz2 : w1.heap.size ≤ w2.heap.size := hb.size
        clear hb
        simp only [tup2]
        by_cases hf : (fndS s1.now s1.l rc).2 = 0
        · obtain ⟨i, hil, hfe⟩ := fnd_ok hf
          have HFE := Lib.hid hfe
          rw [hfe]
          simp only []
          obtain ⟨g, c9, e2, -, -, -, -, -, -⟩ := own_at HQ2.out.row (show 0 < s1.l.length by omega)
          injection e2 with e2 _ e3
          subst e2 e3
          have e4 : w2.cell? ⟨q, 4, none⟩ = some (.slice (some ⟨g, 0, none⟩) s1.l.length c2) := HQ2.out.blk.cell 4
          clear hf hfe
          obtain ⟨x, hx⟩ : ∃ x, s1.l[i]? = some x := ⟨_, List.getElem?_eq_getElem hil⟩
          have hii : (i : Int) < s1.l.length := by omega
          have hi0 : (0 : Int) ≤ i := by omega
          obtain ⟨e9, f9⟩ := HQ2.out.ecell hx (j := 9) (u := .bool x.held) rfl
          obtain ⟨e7, f7⟩ := HQ2.out.ecell hx (j := 7) (u := .int .i64 x.vis) rfl
          have hqg : q ≠ g := fun e => HQ2.out.ne.1 (by rw [e]; rfl)
          have HW1 := Lib.hid (w64 (x := now + d) (by have := (timeB_iff now).1 HT1.out; have := (timeB_iff d).1 HT2.out; omega) (by have := (timeB_iff now).1 HT1.out; have := (timeB_iff d).1 HT2.out; omega))
          have HM := Lib.hid (HQ2.out.backed hx (now + d))
          have HXX := Lib.hid hx
          obtain ⟨wa1, wa2⟩ := HW1.out
          clear hx hil hll
          go_wp2_with fail
          go_region
          all_goals
            go_wp2_with fail
            go_ret
            refine .inr ⟨HC.out, s1, HAC.out, by rw [HFE.out]; rfl, ?_⟩
            have e2 : retS s1 rc (now + d) = { s1 with l := s1.l.modify i (En.back (now + d)) } := by unfold retS; rw [HFE.out, if_pos rfl]; rfl
            rw [e2]
            exact QTo.trans (w1 := w1) HCH.out HFR.out ⟨_, _, _, _, HM.out.1.below (below_drew' _), ((Chg.of_below HB2.out).trans HM.out.2 (fun _ _ h => h)).drew, fun k hk => .inl hk⟩
        · have d1 : ((fndS s1.now s1.l rc).2 == 0) = false := by simpa using hf
          have HN := Lib.hid hf
          generalize hpr : fndS s1.now s1.l rc = pr at d1
          have HPR := Lib.hid hpr
          clear hf hpr
          go_wp2_with fail
          go_ret
          refine .inr ⟨HC.out, s1, HAC.out, by rw [HPR.out]; rfl, ?_⟩
          have e2 : retS s1 rc (now + d) = s1 := by unfold retS; rw [if_neg HN.out]
          rw [e2]
          exact QTo.trans (w1 := w1) HCH.out HFR.out (HQ1.out.to HB2.out)
      · have d1 : (clkE s.now now != 0) = true := by simpa using hc
        have HC := Lib.hid hc
        clear hc
        go_wp2_with fail
        go_ret
        exact .inl ⟨by rw [HRE.out]; exact HC.out, by rw [HRE.out]; rfl, HQ.out.to (Below.refl _ _)⟩
end
end Go.Proofs.YtbofclohnmojmaaGreatDoor
namespace Go.Proofs.YtbofclohnmojmaaGreatDoor
open Go.RowKit
open Go.Sort (grow)

/-- The keys of the events that are ready. -/
def keyOf' (l : List En) (i : Nat) : ByteArray := match l[i]? with | none => ⟨#[]⟩ | some x => x.ev.key
def keysS (s : QS) : List ByteArray := (rdyL s.now s.l s.l.length).map (keyOf' s.l)
theorem keys_yes {l : List En} {R : List Nat} {k i : Nat} {x : En} (h : R[k]? = some i) (hx : l[i]? = some x) : (R.take (k + 1)).map (keyOf' l) = (R.take k).map (keyOf' l) ++ [x.ev.key] := by
  rw [take_snoc2 h, List.map_append]
  simp [keyOf', hx]
/-- The copy of a queue, its rows its own. -/
theorem later_mid {w1 wb : World} {B q H c c' c1 c4 : Nat} {A A' A1 A4 : Option Addr} {s : QS} (hQ : FQ w1 B q A c A' c' s) (hL : Blk w1 H 57 (qC s A c A' c')) (hB : B ≤ H) (hb : Below w1.heap.size w1 wb) (h1 : OwnE wb w1.heap.size (.slice A1 s.l.length c1) s.l) (h2 : OwnV wb w1.heap.size (.slice A4 s.d.length c4) s.d) :
    FQ ((wb.setCell ⟨H, 4, none⟩ (.slice A1 s.l.length c1)).setCell ⟨H, 5, none⟩ (.slice A4 s.d.length c4)) B H A1 c1 A4 c4 s ∧ Chg (fun k => k = H) w1 ((wb.setCell ⟨H, 4, none⟩ (.slice A1 s.l.length c1)).setCell ⟨H, 5, none⟩ (.slice A4 s.d.length c4)) := by
  have hz := hL.lt
  have bL := hL.on hb
  have hc : Chg (fun k => k = H) wb ((wb.setCell ⟨H, 4, none⟩ (.slice A1 s.l.length c1)).setCell ⟨H, 5, none⟩ (.slice A4 s.d.length c4)) := ((Chg.refl (fun k => k = H) wb).setCell (p := ⟨H, 4, none⟩) (fun _ => rfl) _).setCell (p := ⟨H, 5, none⟩) (fun _ => rfl) _
  have hoff : OffC wb (fun k => k = H) := by
    rintro k rfl cs m e
    unfold Blk at bL
    rw [bL] at e
    injection e with e
    injection e with _ e
    exact absurd e (by decide)
  have hQb := hQ.below hb
  have hBz : B ≤ w1.heap.size := by omega
  refine ⟨⟨(bL.set_ 4 _).set_ 5 _, hc.own (own_base h1 hBz) (fun k hk e => by have := own_ge h1 k hk; omega), hc.own (own_base h2 hBz) (fun k hk e => by have := own_ge h2 k hk; omega), fun x hx => (hQb.bl x hx).chg hc hoff, fun e he => (hQb.bd e he).chg hc hoff, hB⟩, (Chg.of_below hb).trans hc (fun _ _ h => h)⟩
def KyPost (w : World) (s : QS) (now : Int) (e : Ending) (w' : World) : Prop := Below w.heap.size w w' ∧
  ((clkE s.now now ≠ 0 ∧ e = .returned (.slice none 0 0)) ∨ (clkE s.now now = 0 ∧ ∃ s1 v, AccR s now s1 ∧ e = .returned v ∧ OwnS w' w.heap.size v (keysS s1)))
def KyRel (w2 : World) (s1 : QS) (v6 v37 : Value) (wx : World) : Prop := ∃ (k : Nat), k ≤ (rdyL s1.now s1.l s1.l.length).length ∧ v37 = .int .i64 k ∧ OwnS wx w2.heap.size v6 (((rdyL s1.now s1.l s1.l.length).take k).map (keyOf' s1.l)) ∧ Below w2.heap.size w2 wx
section
variable {w : World} {B q c c' : Nat} {A A' : Option Addr} {s : QS}
set_option maxHeartbeats 16000000 in
set_option maxRecDepth 20000 in
theorem Keys_any (hB : B ≤ w.heap.size) (hQ : FQ w B q A c A' c' s) (hok : s.ok) (now : Int) :
    Calls Tryz.prog 17 #[.pointer (some ⟨q, 0, none⟩), .int .i64 now] w (KyPost w s now) := by
  obtain ⟨i0, ih, iz0, iz1, iz2⟩ := info_partsO info_str
  have hr : 0 < s.r := by have := hok.r; omega
  have HQ := Lib.hid hQ
  have HK := Lib.hid hok
  have HBW := Lib.hid hB
  have e0 : w.cell? ⟨q, 0, none⟩ = some (.int .i64 s.v) := hQ.blk.cell 0
  have e1 : w.cell? ⟨q, 1, none⟩ = some (.int .i64 s.r) := hQ.blk.cell 1
  have e2 : w.cell? ⟨q, 2, none⟩ = some (.int .i64 s.now) := hQ.blk.cell 2
  have e3 : w.cell? ⟨q, 3, none⟩ = some (.int .i64 s.arr) := hQ.blk.cell 3
  have e4 : w.cell? ⟨q, 4, none⟩ = some (.slice A s.l.length c) := hQ.blk.cell 4
  have e5 : w.cell? ⟨q, 5, none⟩ = some (.slice A' s.d.length c') := hQ.blk.cell 5
  clear hQ hok hB
  go_enter Tryz.func17, Tryz.ntmps17
  go_wp2_with fail
  refine (madeQ_any HQ.out hr).mono ?_
  rintro e wq ⟨rfl, hq⟩
  obtain rfl := hq.symm
  go_wp2_with fail
  refine (clock_any HQ.out now).mono ?_
  rintro e wq ⟨rfl, hq⟩
  obtain rfl := hq.symm
  by_cases hc : clkE s.now now = 0
  · have HC := Lib.hid hc
    rw [hc]
    clear hc
    go_upto_region 4 with fail
    have hb1 := al_new w (.cells #[.int .i64 s.v, .int .i64 s.r, .int .i64 s.now, .int .i64 s.arr, .slice A s.l.length c, .slice A' s.d.length c'] 57)
    have bL := Blk.new w 57 #[.int .i64 s.v, .int .i64 s.r, .int .i64 s.now, .int .i64 s.arr, .slice A s.l.length c, .slice A' s.d.length c']
    have HQ1 := Lib.hid (HQ.out.below hb1)
    have HB1 := Lib.hid hb1
    clear hb1 e0 e1 e2 e3 e4 e5
    generalize w.alloc (.cells #[.int .i64 s.v, .int .i64 s.r, .int .i64 s.now, .int .i64 s.arr, .slice A s.l.length c, .slice A' s.d.length c'] 57) = w1 at *
    have hz1 : w.heap.size < w1.heap.size := bL.lt
    have e4 : w1.cell? ⟨q, 4, none⟩ = some (.slice A s.l.length c) := HQ1.out.blk.cell 4
    have e5 : w1.cell? ⟨q, 5, none⟩ = some (.slice A' s.d.length c') := HQ1.out.blk.cell 5
    have hq1 : q < w1.heap.size := HQ1.out.blk.lt
    have hqw : q < w.heap.size := HQ.out.blk.lt
    have hlen := HK.out.len
    have hl1 : s.l.length ≤ 1048576 := by omega
    have hl2 : s.d.length ≤ 1048576 := by omega
    have HRD := Lib.hid (show Reads w1.drew w1.drew.heap.size 11 A s.l.length (s.l.flatMap En.cells) from (Reads.of_own HQ1.out.row).below (below_drew' w1))
    have HRV := Lib.hid (Reads.of_own HQ1.out.dead)
    have HBL := Lib.hid bL
    have HS := Lib.hid (show ∀ w', Below w.heap.size w1 w' → (w'.cell? ⟨q, 4, none⟩ = some (.slice A s.l.length c) ∧ w'.cell? ⟨q, 5, none⟩ = some (.slice A' s.d.length c')) ∧ Below w.heap.size w1 w' from fun w' hb =>
      ⟨⟨(hb.cell (p := ⟨q, 4, none⟩) hqw).trans e4, (hb.cell (p := ⟨q, 5, none⟩) hqw).trans e5⟩, hb⟩)
    have hzz : w.heap.size ≤ w1.heap.size := by omega
    clear bL
    go_region_held3 (fun w' => (w'.cell? ⟨q, 4, none⟩ = some (.slice A s.l.length c) ∧ w'.cell? ⟨q, 5, none⟩ = some (.slice A' s.d.length c')) ∧ Below w.heap.size w1 w') (first | assumption | exact HS.out _ (by assumption) | exact HS.out _ (Below.refl _ _) | exact HS.out _ (Below.refl _ _).drew | exact HS.out _ (HSB.out.setCell (p := ⟨w.heap.size, 4, none⟩) (Nat.le_refl _) _) | exact HS.out _ ((HSB.out.setCell (p := ⟨w.heap.size, 4, none⟩) (Nat.le_refl _) _).setCell (p := ⟨w.heap.size, 5, none⟩) (Nat.le_refl _) _)) (first
      | (go_at_call 41; ((with_reducible refine (Clone_entry A c s.l w1.drew HRD.out hl1).mono ?_); rintro e wa ⟨A1, c1, rfl, hown, hba⟩; have HBA := Lib.hid (show Below w1.heap.size w1 wa from (below_drew' w1).trans hba); have HOA := Lib.hid (show OwnE wa w1.heap.size (.slice A1 s.l.length c1) s.l from hown); have HSA := HBA.out.mono hzz; clear hown hba))
      | (go_at_call 42; ((with_reducible refine (Clone_event A' c' s.d wa ((HRV.out.below HBA.out).more HBA.out.size) hl2).mono ?_); rintro e wb ⟨A4, c4, rfl, hown, hbb⟩; have HBB := Lib.hid (HBA.out.trans (hbb.mono HBA.out.size)); have HOB := Lib.hid (show OwnV wb w1.heap.size (.slice A4 s.d.length c4) s.d from own_base hown HBA.out.size); have HOE := Lib.hid (show OwnE wb w1.heap.size (.slice A1 s.l.length c1) s.l from own_below HOA.out hbb); have HSB := Lib.hid (HBB.out.mono hzz); have HSB2 := HSB.out; have L4 : wb.cell? ⟨w.heap.size, 4, none⟩ = some (.slice A s.l.length c) := (HBL.out.on HBB.out).cell 4; have L5 : wb.cell? ⟨w.heap.size, 5, none⟩ = some (.slice A' s.d.length c') := (HBL.out.on HBB.out).cell 5; have F4 : wb.frozen? ⟨w.heap.size, 4, none⟩ = false := (HBL.out.on HBB.out).frozen 4; have F5 : wb.frozen? ⟨w.heap.size, 5, none⟩ = false := (HBL.out.on HBB.out).frozen 5; clear hown hbb)))
    obtain ⟨hq3, hch3⟩ := later_mid HQ1.out HBL.out HBW.out HBB.out HOE.out HOB.out
    have hfa : ∀ k, ff w.heap.size A1 A4 k → w.heap.size ≤ k := by
      rintro k (rfl | hk | hk)
      · exact Nat.le_refl _
      · exact Nat.le_trans hzz (own_ge HOE.out k (by rw [own_eq]; exact hk))
      · exact Nat.le_trans hzz (own_ge HOB.out k (by rw [own_eq]; exact hk))
    have hb3 := HB1.out.trans (hch3.toBelow (B := w.heap.size) (fun k hk => by subst hk; exact Nat.le_refl _) hzz)
    have HFA := Lib.hid hfa
    have HB3 := Lib.hid hb3
    have HQ3 := Lib.hid hq3
    clear hq3 hch3 hfa hb3 HBL HBB HOE HOB HSB HSB2 HSA HOA HBA HS HRD HRV L4 L5 F4 F5 e4 e5 HQ1 HB1
    generalize (wb.setCell ⟨w.heap.size, 4, none⟩ (.slice A1 s.l.length c1)).setCell ⟨w.heap.size, 5, none⟩ (.slice A4 s.d.length c4) = w3 at *
    have hz3 : w.heap.size ≤ w3.heap.size := HB3.out.size
    go_wp2_with fail
    refine (accept_to now (Nat.le_trans HBW.out hz3) HQ3.out HK.out).mono ?_
    rintro e w4 ⟨rfl, s1, hacc, A2, c2, A3, c3, hq4, hch4, hfr⟩
    have HAC := Lib.hid hacc
    have hk1 := hacc.ok HK.out ⟨(clk0 HC.out).1, (clk0 HC.out).2.1⟩
    have HK1 := Lib.hid hk1
    have HQ4 := Lib.hid hq4
    have HB4 := Lib.hid (HB3.out.trans (hch4.toBelow (B := w.heap.size) HFA.out hz3))
    have hz4 : w.heap.size ≤ w4.heap.size := HB4.out.size
    have hll : s1.l.length ≤ 256 := by have := hk1.len; omega
    clear hacc hq4 hch4 hfr hk1
    go_wp2_with fail
    refine (ready_any HQ4.out (by omega) (fun x hx => (HK1.out.els x hx).2.2.2.1)).mono ?_
    rintro e w5 ⟨vr, rfl, hri, hb5⟩
    have HQ5 := Lib.hid (HQ4.out.below hb5)
    have HB5 := Lib.hid (HB4.out.trans (hb5.mono hz4))
    obtain ⟨Ai, ci, rfl⟩ := own_slice hri
    have hil : (intsOf (rdyL s1.now s1.l s1.l.length)).length = (rdyL s1.now s1.l s1.l.length).length := by unfold intsOf; rw [List.length_map]
    obtain ⟨N, hN⟩ : ∃ N, N = (rdyL s1.now s1.l s1.l.length).length := ⟨_, rfl⟩
    have hNl : N ≤ 256 := by rw [hN]; exact Nat.le_trans (rdyL_len _ _ _) hll
    have HN := Lib.hid hN
    have HRI := Lib.hid (show w5.ownsRow w4.heap.size 3 1 (.slice Ai N ci) N (ivals (intsOf (rdyL s1.now s1.l s1.l.length))) by unfold OwnI at hri; rw [hil, ← hN] at hri; exact hri)
    rw [hil, ← hN]
    have hz5 : w.heap.size ≤ w5.heap.size := HB5.out.size
    clear hri hb5 hil hN
    go_wp2_with fail
    go_loopw [6, 37] (fun v6 v37 wr => KyRel w5 s1 v6 v37 wr) (fun _ v37 _ => N - (intOf v37).toNat)
    case atStart => exact ⟨0, Nat.zero_le _, rfl, OwnS.nil _ _, Below.refl _ _⟩
    case round =>
      obtain ⟨k, hk, rfl, hown, hb⟩ := hrel
      obtain ⟨v, rfl⟩ : ∃ v : Value, v = u6 := ⟨_, rfl⟩
      rw [← HN.out] at hk
      have HO := Lib.hid hown
      have HB := Lib.hid hb
      have hzr : w5.heap.size ≤ wr.heap.size := hb.size
      have hQr := HQ5.out.below hb
      clear hown hb
      by_cases hlt : k < N
      · obtain ⟨i, hi⟩ : ∃ i, (rdyL s1.now s1.l s1.l.length)[k]? = some i := ⟨_, List.getElem?_eq_getElem (by rw [← HN.out]; exact hlt)⟩
        have hil := rdy_lt hi
        obtain ⟨gi, ci', e1, hg1, -, -, hgl, hcell, -⟩ := own_at HRI.out (by omega)
        injection e1 with e1 _ e3
        subst e1 e3
        have ei : wr.cell? ⟨gi, k, none⟩ = some (.int .i64 (i : Int)) := (HB.out.cell (p := ⟨gi, k, none⟩) hgl).trans (hcell k _ (by unfold ivals intsOf; rw [List.getElem?_map, List.getElem?_map, hi]; rfl))
        obtain ⟨x, hx⟩ : ∃ x, s1.l[i]? = some x := ⟨_, List.getElem?_eq_getElem hil⟩
        obtain ⟨g, c9, e2, -, -, -, hgl2, -, -⟩ := own_at hQr.row (show 0 < s1.l.length by omega)
        injection e2 with e2 _ e4
        subst e2 e4
        have e4 : wr.cell? ⟨w.heap.size, 3, none⟩ = some (.int .i64 s1.arr) := hQr.blk.cell 3
        have e5 : wr.cell? ⟨w.heap.size, 4, none⟩ = some (.slice (some ⟨g, 0, none⟩) s1.l.length c2) := hQr.blk.cell 4
        obtain ⟨ek, -⟩ := hQr.ecell hx (j := 3) (u := .string x.ev.key) rfl
        have hki : (k : Int) < N := by omega
        have hk0 : (0 : Int) ≤ k := by omega
        have hii : (i : Int) < s1.l.length := by omega
        have hi0 : (0 : Int) ≤ i := by omega
        have hPL : (((rdyL s1.now s1.l s1.l.length).take k).map (keyOf' s1.l)).length ≤ 256 := by rw [List.length_map, List.length_take]; omega
        have HYS := Lib.hid (keys_yes hi hx)
        have HK2 := Lib.hid (show k + 1 ≤ (rdyL s1.now s1.l s1.l.length).length from by rw [← HN.out]; exact hlt)
        have HKW := Lib.hid (w64 (x := (k : Int) + 1) (by omega) (by omega))
        generalize ((rdyL s1.now s1.l s1.l.length).take k).map (keyOf' s1.l) = P at *
        have HA1 := Lib.hid (show P.length + 1 ≤ maxLen by simp only [maxLen]; omega)
        have HA2 := Lib.hid (show (P.length + 1) * 16 ≤ 140737488355328 by omega)
        have HA3 := Lib.hid (show w5.heap.size ≤ (wr.alloc (.cells #[.string x.ev.key] 9)).heap.size by simp; omega)
        clear hi hx hQr hil hcell hPL
        obtain ⟨wk1, wk2⟩ := HKW.out
        go_wp2_with (at_builtin; go_loud (refine wpList_append_own _ rfl (.tmp 41) (.tmp 49) 34 rfl w5.heap.size 9 i0 (.string ⟨#[]⟩) 1 16 Tryz.underlying34 ih iz0 iz1 iz2 rfl (by decide) _ P.length (svals P) rfl (HO.out.alloc _) ⟨wr.heap.size, 0, none⟩ 1 1 [.string x.ev.key] rfl rfl (cells_new_at rfl) (by intro u hu; simp at hu; subst hu; rfl) HA1.out HA2.out HA3.out ?_); intro v' wn hown1 hgr hiff; clear hiff; have HGR := Lib.hid (And.intro hown1 hgr); clear hown1 hgr)
        have hlow : Below w5.heap.size w5 wn := (HB.out.alloc hzr _).grown HGR.out.2 HA3.out (fun q hq => own_ge HO.out q hq)
        have HF := Lib.hid (And.intro (OwnS.push HGR.out.1) hlow)
        clear hlow HGR wk1 wk2
        go_roundw
        case rel => exact ⟨k + 1, HK2.out, by first | rfl | go_num, by rw [HYS.out]; exact HF.out.1, HF.out.2⟩
        case measure => exact meas_lt hlt
      · obtain rfl : k = N := by omega
        go_wp2_with fail
        go_ret
        have hO := HO.out
        rw [HN.out, List.take_length] at hO
        exact ⟨HB5.out.trans (HB.out.mono hz5), .inr ⟨HC.out, s1, _, HAC.out, rfl, own_base hO hz5⟩⟩
  · have d1 : (clkE s.now now != 0) = true := by simpa using hc
    have HC := Lib.hid hc
    clear hc
    go_wp2_with fail
    go_ret
    exact ⟨Below.refl _ _, .inl ⟨HC.out, rfl⟩⟩
theorem KeysN_any {v : Value} (h : NoQ w v) (now : Int) : Calls Tryz.prog 17 #[v, .int .i64 now] w fun e w' => e = .returned (.slice none 0 0) ∧ w' = w := by
  have HQ := Lib.hid h
  clear h
  go_enter Tryz.func17, Tryz.ntmps17
  go_wp2_with fail
  refine (madeN_any HQ.out).mono ?_
  rintro e wq ⟨rfl, hq⟩
  obtain rfl := hq.symm
  go_wp2_with fail
  go_ret
  exact ⟨rfl, rfl⟩
end
end Go.Proofs.YtbofclohnmojmaaGreatDoor
namespace Go.Proofs.YtbofclohnmojmaaGreatDoor
open Go.RowKit
open Go.Sort (grow)

section
variable {w : World}
set_option maxHeartbeats 2000000 in
theorem SendN_any {v : Value} (h : NoQ w v) (x : Ev) (now : Int) : Calls Tryz.prog 28 #[v, .agg #[.string x.id, .string x.tn, .string x.src, .string x.key, .int .i64 x.at_, .string x.cause, .slice x.A x.body.length x.cp], .int .i64 now] w fun e w' => e = .returned (.int .i64 10) ∧ Below w.heap.size w w' := by
  have hb := al_new w (.cells #[.string x.id, .string x.tn, .string x.src, .string x.key, .int .i64 x.at_, .string x.cause, .slice x.A x.body.length x.cp] 40)
  have HQ := Lib.hid (h.on hb)
  have HB := Lib.hid hb
  clear h hb
  go_enter Tryz.func28, Tryz.ntmps28
  go_wp2_with fail
  refine (madeN_any HQ.out).mono ?_
  rintro e wq ⟨rfl, hq⟩
  obtain rfl := hq.symm
  go_wp2_with fail
  go_ret
  exact ⟨rfl, HB.out⟩
theorem ReceiveN_any {v : Value} (h : NoQ w v) (now most : Int) : Calls Tryz.prog 30 #[v, .int .i64 now, .int .i64 most] w fun e w' => e = .returned (.slice none 0 0) ∧ w' = w := by
  have HQ := Lib.hid h
  clear h
  go_enter Tryz.func30, Tryz.ntmps30
  go_wp2_with fail
  refine (madeN_any HQ.out).mono ?_
  rintro e wq ⟨rfl, hq⟩
  obtain rfl := hq.symm
  go_wp2_with fail
  go_ret
  exact ⟨rfl, rfl⟩
theorem DeleteN_any {v : Value} (h : NoQ w v) (rc : ByteArray) (now : Int) : Calls Tryz.prog 31 #[v, .string rc, .int .i64 now] w fun e w' => e = .returned (.int .i64 10) ∧ w' = w := by
  have HQ := Lib.hid h
  clear h
  go_enter Tryz.func31, Tryz.ntmps31
  go_wp2_with fail
  refine (madeN_any HQ.out).mono ?_
  rintro e wq ⟨rfl, hq⟩
  obtain rfl := hq.symm
  go_wp2_with fail
  go_ret
  exact ⟨rfl, rfl⟩
theorem ReturnN_any {v : Value} (h : NoQ w v) (rc : ByteArray) (now d : Int) : Calls Tryz.prog 32 #[v, .string rc, .int .i64 now, .int .i64 d] w fun e w' => e = .returned (.int .i64 10) ∧ w' = w := by
  have HQ := Lib.hid h
  clear h
  go_enter Tryz.func32, Tryz.ntmps32
  go_wp2_with fail
  refine (madeN_any HQ.out).mono ?_
  rintro e wq ⟨rfl, hq⟩
  obtain rfl := hq.symm
  go_wp2_with fail
  go_ret
  exact ⟨rfl, rfl⟩
/-- A new queue. -/
def newQ (v r : Int) : Int := if v < 1 ∨ 1073741824 < v ∨ r < 1 ∨ 10 < r then 2 else 0
def NwPost (w : World) (v r : Int) (e : Ending) (w' : World) : Prop := Below w.heap.size w w' ∧
  ((newQ v r ≠ 0 ∧ e = .returned (.tuple #[.pointer none, .int .i64 (newQ v r)])) ∨
  (newQ v r = 0 ∧ ∃ q, e = .returned (.tuple #[.pointer (some ⟨q, 0, none⟩), .int .i64 0]) ∧ FQ w' w.heap.size q none 0 none 0 ⟨v, r, 0, 0, [], []⟩))
theorem built_q (v r : Int) (W : World) : (Instr.build 57 #[(0, .agg #[.int .i64 v, .int .i64 r])]).run Tryz.prog W = .ok (.agg #[.int .i64 v, .int .i64 r, .int .i64 0, .int .i64 0, .slice none 0 0, .slice none 0 0]) W := run_build W _ _ _ (by kernel_rfl)
attribute [local go_sem ↓] built_q in
set_option maxHeartbeats 2000000 in
theorem New_any (v r : Int) (w : World) : Calls Tryz.prog 7 #[.agg #[.int .i64 v, .int .i64 r]] w (NwPost w v r) := by
  have hb := al_new w (.cells #[.int .i64 v, .int .i64 r] 23)
  have HB := Lib.hid hb
  have HF := Lib.hid (show FQ ((w.alloc (.cells #[.int .i64 v, .int .i64 r] 23)).alloc (.cells #[.int .i64 v, .int .i64 r, .int .i64 0, .int .i64 0, .slice none 0 0, .slice none 0 0] 57)) w.heap.size (w.heap.size + 1) none 0 none 0 ⟨v, r, 0, 0, [], []⟩ from ⟨Blk.new1 w _ _ _, own_nil _ _ _ _, own_nil _ _ _ _, fun x hx => absurd hx (by simp), fun x hx => absurd hx (by simp), by omega⟩)
  clear hb
  by_cases hn : newQ v r = 0
  · have HN := Lib.hid hn
    unfold newQ at hn
    have hh : ¬ (v < 1 ∨ 1073741824 < v ∨ r < 1 ∨ 10 < r) := fun h => by rw [if_pos h] at hn; exact absurd hn (by decide)
    clear hn
    have h1 : ¬ v < 1 := fun h => hh (.inl h)
    have h2 : ¬ 1073741824 < v := fun h => hh (.inr (.inl h))
    have h3 : ¬ r < 1 := fun h => hh (.inr (.inr (.inl h)))
    have h4 : ¬ 10 < r := fun h => hh (.inr (.inr (.inr h)))
    clear hh
    go_enter Tryz.func7, Tryz.ntmps7
    go_wp2_with fail
    all_goals try (exfalso; omega)
    go_ret2
    exact ⟨HB.out.alloc (by simp) _, .inr ⟨HN.out, _, rfl, HF.out⟩⟩
  · have hh : v < 1 ∨ 1073741824 < v ∨ r < 1 ∨ 10 < r := by
      unfold newQ at hn
      by_cases h : v < 1 ∨ 1073741824 < v ∨ r < 1 ∨ 10 < r
      · exact h
      · rw [if_neg h] at hn; exact absurd rfl hn
    have HN := Lib.hid (show newQ v r = 2 by unfold newQ; rw [if_pos hh])
    clear hn
    go_enter Tryz.func7, Tryz.ntmps7
    go_wp2_with fail
    all_goals try (exfalso; omega)
    all_goals (go_ret2; exact ⟨HB.out, .inl ⟨by rw [HN.out]; decide, by rw [HN.out]; rfl⟩⟩)
end
end Go.Proofs.YtbofclohnmojmaaGreatDoor
namespace Go.Proofs.YtbofclohnmojmaaGreatDoor
open Go.RowKit
open Go.Sort (grow)

section
/-- The receipt with a number, counted from the last one. -/
def nthS (T : List ByteArray) (n : Int) : ByteArray := if n < 0 ∨ (T.length : Int) ≤ n then ⟨#[]⟩ else match T[T.length - 1 - n.toNat]? with | none => ⟨#[]⟩ | some x => x
theorem nth_any {w : World} {B : Nat} {v : Value} {T : List ByteArray} (h : OwnS w B v T) (hl : T.length ≤ 9223372036854775807) (n : Int) :
    Calls Tryz.prog 25 #[v, .int .i64 n] w fun e w' => e = .returned (.string (nthS T n)) ∧ w' = w := by
  obtain ⟨A, c, rfl⟩ := own_slice h
  by_cases h0 : n < 0
  · have HR := Lib.hid (show nthS T n = ⟨#[]⟩ by unfold nthS; rw [if_pos (.inl h0)])
    clear h
    go_enter Tryz.func25, Tryz.ntmps25
    go_wp2_with fail
    all_goals try (exfalso; omega)
    go_ret
    exact ⟨by rw [HR.out]; rfl, rfl⟩
  · by_cases h1 : (T.length : Int) ≤ n
    · have HR := Lib.hid (show nthS T n = ⟨#[]⟩ by unfold nthS; rw [if_pos (.inr h1)])
      clear h
      go_enter Tryz.func25, Tryz.ntmps25
      go_wp2_with fail
      all_goals try (exfalso; omega)
      go_ret
      exact ⟨by rw [HR.out]; rfl, rfl⟩
    · obtain ⟨m, rfl⟩ : ∃ m : Nat, n = m := ⟨n.toNat, by omega⟩
      obtain ⟨j, hj⟩ : ∃ j : Nat, j + m + 1 = T.length := ⟨T.length - m - 1, by omega⟩
      obtain ⟨K, hK⟩ : ∃ K : Nat, K = j + m := ⟨_, rfl⟩
      obtain ⟨x, hx⟩ : ∃ x, T[j]? = some x := ⟨_, List.getElem?_eq_getElem (by omega)⟩
      have HR := Lib.hid (show nthS T m = x by unfold nthS; rw [if_neg (by omega), show T.length - 1 - ((m : Nat) : Int).toNat = j by omega, hx])
      obtain ⟨g, c', e1, -, -, -, -, hcell, -⟩ := own_at h (by omega)
      injection e1 with e1 _ e3
      subst e1 e3
      have ej : w.cell? ⟨g, j, none⟩ = some (.string x) := hcell j _ (by unfold svals; rw [List.getElem?_map, hx]; rfl)
      have hm0 : (0 : Int) ≤ m := by omega
      have hml : (m : Int) < T.length := by omega
      have hj0 : (0 : Int) ≤ j := by omega
      have hjl : (j : Int) < T.length := by omega
      have HA := Lib.hid (show wrap64 ((T.length : Int) - 1) = (K : Int) ∧ wrap64 ((K : Int) - m) = (j : Int) ∧ IntKind.i64.wrap ((T.length : Int) - 1) = (K : Int) ∧ IntKind.i64.wrap ((K : Int) - m) = (j : Int) from by
        have ha := w64 (x := (T.length : Int) - 1) (by omega) (by omega)
        have hb := w64 (x := (K : Int) - m) (by omega) (by omega)
        exact ⟨by rw [ha.2]; omega, by rw [hb.2]; omega, by rw [ha.1]; omega, by rw [hb.1]; omega⟩)
      clear hcell hx hj hK h0 h1 h hl
      obtain ⟨wa1, wa2, wa3, wa4⟩ := HA.out
      go_enter Tryz.func25, Tryz.ntmps25
      go_wp2_with fail
      go_ret
      exact ⟨by rw [HR.out]; rfl, rfl⟩
/-- An event of the law's own. -/
def evE (id key : ByteArray) (A : Option Addr) : Ev := ⟨id, ⟨#[116]⟩, ⟨#[115]⟩, key, 0, ⟨#[]⟩, A, 1, [⟨1, 0, ⟨#[]⟩, 0⟩]⟩
theorem built_nul (W : World) : (Instr.build 94 #[(0, .int .i64 1)]).run Tryz.prog W = .ok (.agg #[.int .i64 1, .int .i64 0, .string ⟨#[]⟩, .int .i64 0]) W := run_build W _ _ _ (by kernel_rfl)
theorem built_ev (id key : ByteArray) (A : Option Addr) (W : World) : (Instr.build 40 #[(0, .string id), (1, .string ⟨#[116]⟩), (2, .string ⟨#[115]⟩), (3, .string key), (6, .slice A 1 1)]).run Tryz.prog W = .ok (.agg #[.string id, .string ⟨#[116]⟩, .string ⟨#[115]⟩, .string key, .int .i64 0, .string ⟨#[]⟩, .slice A 1 1]) W := run_build W _ _ _ (by kernel_rfl)
theorem evnew (W : World) {g : Nat} (hg : W.heap.size = g) {B : Nat} (hB : B ≤ g) : (W.alloc (.cells #[.int .i64 1, .int .i64 0, .string ⟨#[]⟩, .int .i64 0] 94)).ownsRow B 94 4 (.slice (some ⟨g, 0, none⟩) 1 1) 1 [.int .i64 1, .int .i64 0, .string ⟨#[]⟩, .int .i64 0] := by
  subst hg
  exact World.ownsRow_lit W #[.int .i64 1, .int .i64 0, .string ⟨#[]⟩, .int .i64 0] 1 hB (by decide) rfl
attribute [local go_sem ↓] built_nul built_ev in
set_option maxHeartbeats 4000000 in
theorem event_any (id key : ByteArray) (w : World) : Calls Tryz.prog 29 #[.string id, .string key] w fun e w' => ∃ A, e = .returned (.agg #[.string id, .string ⟨#[116]⟩, .string ⟨#[115]⟩, .string key, .int .i64 0, .string ⟨#[]⟩, .slice A 1 1]) ∧ EvQ w' w.heap.size (evE id key A) ∧ Below w.heap.size w w' := by
  go_enter Tryz.func29, Tryz.ntmps29
  go_wp2_with fail
  have b0 : Blk ((w.alloc (.cells #[.string id, .string ⟨#[116]⟩, .string ⟨#[115]⟩, .string key, .int .i64 0, .string ⟨#[]⟩, .slice (some ⟨w.heap.size + 1, 0, none⟩) 1 1] 40)).alloc (.cells #[.int .i64 1, .int .i64 0, .string ⟨#[]⟩, .int .i64 0] 94)) w.heap.size 40 #[.string id, .string ⟨#[116]⟩, .string ⟨#[115]⟩, .string key, .int .i64 0, .string ⟨#[]⟩, .slice (some ⟨w.heap.size + 1, 0, none⟩) 1 1] := (Blk.new w _ _).alloc _
  have HR := Lib.hid (show EvQ ((w.alloc (.cells #[.string id, .string ⟨#[116]⟩, .string ⟨#[115]⟩, .string key, .int .i64 0, .string ⟨#[]⟩, .slice (some ⟨w.heap.size + 1, 0, none⟩) 1 1] 40)).alloc (.cells #[.int .i64 1, .int .i64 0, .string ⟨#[]⟩, .int .i64 0] 94)) w.heap.size (evE id key (some ⟨w.heap.size + 1, 0, none⟩)) from evnew (w.alloc (.cells #[.string id, .string ⟨#[116]⟩, .string ⟨#[115]⟩, .string key, .int .i64 0, .string ⟨#[]⟩, .slice (some ⟨w.heap.size + 1, 0, none⟩) 1 1] 40)) (g := w.heap.size + 1) (by simp) (by omega))
  have HB := Lib.hid (show Below w.heap.size w ((w.alloc (.cells #[.string id, .string ⟨#[116]⟩, .string ⟨#[115]⟩, .string key, .int .i64 0, .string ⟨#[]⟩, .slice (some ⟨w.heap.size + 1, 0, none⟩) 1 1] 40)).alloc (.cells #[.int .i64 1, .int .i64 0, .string ⟨#[]⟩, .int .i64 0] 94)) from (al_new w _).alloc (by simp) _)
  have q_b00 : ((w.alloc (.cells #[.string id, .string ⟨#[116]⟩, .string ⟨#[115]⟩, .string key, .int .i64 0, .string ⟨#[]⟩, .slice (some ⟨w.heap.size + 1, 0, none⟩) 1 1] 40)).alloc (.cells #[.int .i64 1, .int .i64 0, .string ⟨#[]⟩, .int .i64 0] 94)).cell? ⟨w.heap.size, 0, none⟩ = some (.string id) := b0.cell 0
  have f_b00 : ((w.alloc (.cells #[.string id, .string ⟨#[116]⟩, .string ⟨#[115]⟩, .string key, .int .i64 0, .string ⟨#[]⟩, .slice (some ⟨w.heap.size + 1, 0, none⟩) 1 1] 40)).alloc (.cells #[.int .i64 1, .int .i64 0, .string ⟨#[]⟩, .int .i64 0] 94)).frozen? ⟨w.heap.size, 0, none⟩ = false := b0.frozen 0
  have q_b01 : ((w.alloc (.cells #[.string id, .string ⟨#[116]⟩, .string ⟨#[115]⟩, .string key, .int .i64 0, .string ⟨#[]⟩, .slice (some ⟨w.heap.size + 1, 0, none⟩) 1 1] 40)).alloc (.cells #[.int .i64 1, .int .i64 0, .string ⟨#[]⟩, .int .i64 0] 94)).cell? ⟨w.heap.size, 1, none⟩ = some (.string ⟨#[116]⟩) := b0.cell 1
  have f_b01 : ((w.alloc (.cells #[.string id, .string ⟨#[116]⟩, .string ⟨#[115]⟩, .string key, .int .i64 0, .string ⟨#[]⟩, .slice (some ⟨w.heap.size + 1, 0, none⟩) 1 1] 40)).alloc (.cells #[.int .i64 1, .int .i64 0, .string ⟨#[]⟩, .int .i64 0] 94)).frozen? ⟨w.heap.size, 1, none⟩ = false := b0.frozen 1
  have q_b02 : ((w.alloc (.cells #[.string id, .string ⟨#[116]⟩, .string ⟨#[115]⟩, .string key, .int .i64 0, .string ⟨#[]⟩, .slice (some ⟨w.heap.size + 1, 0, none⟩) 1 1] 40)).alloc (.cells #[.int .i64 1, .int .i64 0, .string ⟨#[]⟩, .int .i64 0] 94)).cell? ⟨w.heap.size, 2, none⟩ = some (.string ⟨#[115]⟩) := b0.cell 2
  have f_b02 : ((w.alloc (.cells #[.string id, .string ⟨#[116]⟩, .string ⟨#[115]⟩, .string key, .int .i64 0, .string ⟨#[]⟩, .slice (some ⟨w.heap.size + 1, 0, none⟩) 1 1] 40)).alloc (.cells #[.int .i64 1, .int .i64 0, .string ⟨#[]⟩, .int .i64 0] 94)).frozen? ⟨w.heap.size, 2, none⟩ = false := b0.frozen 2
  have q_b03 : ((w.alloc (.cells #[.string id, .string ⟨#[116]⟩, .string ⟨#[115]⟩, .string key, .int .i64 0, .string ⟨#[]⟩, .slice (some ⟨w.heap.size + 1, 0, none⟩) 1 1] 40)).alloc (.cells #[.int .i64 1, .int .i64 0, .string ⟨#[]⟩, .int .i64 0] 94)).cell? ⟨w.heap.size, 3, none⟩ = some (.string key) := b0.cell 3
  have f_b03 : ((w.alloc (.cells #[.string id, .string ⟨#[116]⟩, .string ⟨#[115]⟩, .string key, .int .i64 0, .string ⟨#[]⟩, .slice (some ⟨w.heap.size + 1, 0, none⟩) 1 1] 40)).alloc (.cells #[.int .i64 1, .int .i64 0, .string ⟨#[]⟩, .int .i64 0] 94)).frozen? ⟨w.heap.size, 3, none⟩ = false := b0.frozen 3
  have q_b04 : ((w.alloc (.cells #[.string id, .string ⟨#[116]⟩, .string ⟨#[115]⟩, .string key, .int .i64 0, .string ⟨#[]⟩, .slice (some ⟨w.heap.size + 1, 0, none⟩) 1 1] 40)).alloc (.cells #[.int .i64 1, .int .i64 0, .string ⟨#[]⟩, .int .i64 0] 94)).cell? ⟨w.heap.size, 4, none⟩ = some (.int .i64 0) := b0.cell 4
  have f_b04 : ((w.alloc (.cells #[.string id, .string ⟨#[116]⟩, .string ⟨#[115]⟩, .string key, .int .i64 0, .string ⟨#[]⟩, .slice (some ⟨w.heap.size + 1, 0, none⟩) 1 1] 40)).alloc (.cells #[.int .i64 1, .int .i64 0, .string ⟨#[]⟩, .int .i64 0] 94)).frozen? ⟨w.heap.size, 4, none⟩ = false := b0.frozen 4
  have q_b05 : ((w.alloc (.cells #[.string id, .string ⟨#[116]⟩, .string ⟨#[115]⟩, .string key, .int .i64 0, .string ⟨#[]⟩, .slice (some ⟨w.heap.size + 1, 0, none⟩) 1 1] 40)).alloc (.cells #[.int .i64 1, .int .i64 0, .string ⟨#[]⟩, .int .i64 0] 94)).cell? ⟨w.heap.size, 5, none⟩ = some (.string ⟨#[]⟩) := b0.cell 5
  have f_b05 : ((w.alloc (.cells #[.string id, .string ⟨#[116]⟩, .string ⟨#[115]⟩, .string key, .int .i64 0, .string ⟨#[]⟩, .slice (some ⟨w.heap.size + 1, 0, none⟩) 1 1] 40)).alloc (.cells #[.int .i64 1, .int .i64 0, .string ⟨#[]⟩, .int .i64 0] 94)).frozen? ⟨w.heap.size, 5, none⟩ = false := b0.frozen 5
  have q_b06 : ((w.alloc (.cells #[.string id, .string ⟨#[116]⟩, .string ⟨#[115]⟩, .string key, .int .i64 0, .string ⟨#[]⟩, .slice (some ⟨w.heap.size + 1, 0, none⟩) 1 1] 40)).alloc (.cells #[.int .i64 1, .int .i64 0, .string ⟨#[]⟩, .int .i64 0] 94)).cell? ⟨w.heap.size, 6, none⟩ = some (.slice (some ⟨w.heap.size + 1, 0, none⟩) 1 1) := b0.cell 6
  have f_b06 : ((w.alloc (.cells #[.string id, .string ⟨#[116]⟩, .string ⟨#[115]⟩, .string key, .int .i64 0, .string ⟨#[]⟩, .slice (some ⟨w.heap.size + 1, 0, none⟩) 1 1] 40)).alloc (.cells #[.int .i64 1, .int .i64 0, .string ⟨#[]⟩, .int .i64 0] 94)).frozen? ⟨w.heap.size, 6, none⟩ = false := b0.frozen 6
  generalize ((w.alloc (.cells #[.string id, .string ⟨#[116]⟩, .string ⟨#[115]⟩, .string key, .int .i64 0, .string ⟨#[]⟩, .slice (some ⟨w.heap.size + 1, 0, none⟩) 1 1] 40)).alloc (.cells #[.int .i64 1, .int .i64 0, .string ⟨#[]⟩, .int .i64 0] 94)) = W at *
  refine bodyPost_ret (v := .agg #[.string id, .string ⟨#[116]⟩, .string ⟨#[115]⟩, .string key, .int .i64 0, .string ⟨#[]⟩, .slice (some ⟨w.heap.size + 1, 0, none⟩) 1 1]) (by simp [results, Tryz.results29, go_sem, q_b00, q_b01, q_b02, q_b03, q_b04, q_b05, q_b06]) rfl ?_
  exact ⟨_, rfl, HR.out, HB.out⟩
end
end Go.Proofs.YtbofclohnmojmaaGreatDoor
namespace Go.Proofs.YtbofclohnmojmaaGreatDoor
open Go.RowKit
open Go.Sort (grow)

/-- A call of a script. -/
structure Cl where
  k : Int
  e : Ev
  s : ByteArray
  now : Int
  n : Int
def Cl.at_ (x : Cl) (w : World) : World := w.alloc (.cells #[.int .i64 x.k, .string x.e.id, .string x.e.tn, .string x.e.src, .string x.e.key, .int .i64 x.e.at_, .string x.e.cause, .slice x.e.A x.e.body.length x.e.cp, .string x.s, .int .i64 x.now, .int .i64 x.n] 42)
/-- The block of the call stands. -/
def ClOn (x : Cl) (g : Nat) (w : World) : Prop := w.cell? ⟨g, 9, none⟩ = some (.int .i64 x.now) ∧ w.cell? ⟨g, 10, none⟩ = some (.int .i64 x.n)
/-- The receipt that a call speaks of. -/
def Cl.rc (x : Cl) (T : List ByteArray) : ByteArray := if x.k = 2 ∨ x.k = 3 then x.s else nthS T x.n
section
variable {w : World} {B : Nat} {v t : Value} {T : List ByteArray}
set_option maxHeartbeats 8000000 in
set_option maxRecDepth 20000 in
theorem call_gen (x : Cl) (Ok : Value → Int → World → Prop) (hT : OwnS w B t T) (hl : T.length ≤ 9223372036854775807)
    (h0 : x.k = 0 → Calls Tryz.prog 28 #[v, .agg #[.string x.e.id, .string x.e.tn, .string x.e.src, .string x.e.key, .int .i64 x.e.at_, .string x.e.cause, .slice x.e.A x.e.body.length x.e.cp], .int .i64 x.now] (x.at_ w) fun e w' => ∃ z, e = .returned (.int .i64 z) ∧ Ok (.slice none 0 0) z w')
    (h1 : x.k = 1 → Calls Tryz.prog 30 #[v, .int .i64 x.now, .int .i64 x.n] (x.at_ w) fun e w' => ∃ u, e = .returned u ∧ Ok u 0 w')
    (h2 : ∀ W, (W = x.at_ w ∨ W = (x.at_ w).drew) → x.k = 2 ∨ x.k = 4 → Calls Tryz.prog 31 #[v, .string (x.rc T), .int .i64 x.now] W fun e w' => ∃ z, e = .returned (.int .i64 z) ∧ Ok (.slice none 0 0) z w' ∧ ClOn x w.heap.size w')
    (h3 : ∀ W, (W = x.at_ w ∨ W = (x.at_ w).drew) → x.k = 3 ∨ x.k ≠ 0 ∧ x.k ≠ 1 ∧ x.k ≠ 2 ∧ x.k ≠ 4 → Calls Tryz.prog 32 #[v, .string (x.rc T), .int .i64 x.now, .int .i64 x.n] W fun e w' => ∃ z, e = .returned (.int .i64 z) ∧ Ok (.slice none 0 0) z w' ∧ ClOn x w.heap.size w') :
    Calls Tryz.prog 11 #[v, .agg #[.int .i64 x.k, .string x.e.id, .string x.e.tn, .string x.e.src, .string x.e.key, .int .i64 x.e.at_, .string x.e.cause, .slice x.e.A x.e.body.length x.e.cp, .string x.s, .int .i64 x.now, .int .i64 x.n], t] w fun e w' => ∃ u z, e = .returned (.tuple #[u, .int .i64 z]) ∧ Ok u z w' := by
  have H0 := Lib.hid h0
  have H1 := Lib.hid h1
  have H2 := Lib.hid h2
  have H3 := Lib.hid h3
  have hb := al_new w (.cells #[.int .i64 x.k, .string x.e.id, .string x.e.tn, .string x.e.src, .string x.e.key, .int .i64 x.e.at_, .string x.e.cause, .slice x.e.A x.e.body.length x.e.cp, .string x.s, .int .i64 x.now, .int .i64 x.n] 42)
  have HN := Lib.hid (nth_any (n := x.n) (own_below hT (hb.trans ((below_drew' _).mono hb.size))) hl)
  have bx := Blk.new w 42 #[.int .i64 x.k, .string x.e.id, .string x.e.tn, .string x.e.src, .string x.e.key, .int .i64 x.e.at_, .string x.e.cause, .slice x.e.A x.e.body.length x.e.cp, .string x.s, .int .i64 x.now, .int .i64 x.n]
  have q0 : (w.alloc (.cells #[.int .i64 x.k, .string x.e.id, .string x.e.tn, .string x.e.src, .string x.e.key, .int .i64 x.e.at_, .string x.e.cause, .slice x.e.A x.e.body.length x.e.cp, .string x.s, .int .i64 x.now, .int .i64 x.n] 42)).cell? ⟨w.heap.size, 0, none⟩ = some (.int .i64 x.k) := bx.cell 0
  have q1 : (w.alloc (.cells #[.int .i64 x.k, .string x.e.id, .string x.e.tn, .string x.e.src, .string x.e.key, .int .i64 x.e.at_, .string x.e.cause, .slice x.e.A x.e.body.length x.e.cp, .string x.s, .int .i64 x.now, .int .i64 x.n] 42)).cell? ⟨w.heap.size, 1, none⟩ = some (.string x.e.id) := bx.cell 1
  have q2 : (w.alloc (.cells #[.int .i64 x.k, .string x.e.id, .string x.e.tn, .string x.e.src, .string x.e.key, .int .i64 x.e.at_, .string x.e.cause, .slice x.e.A x.e.body.length x.e.cp, .string x.s, .int .i64 x.now, .int .i64 x.n] 42)).cell? ⟨w.heap.size, 2, none⟩ = some (.string x.e.tn) := bx.cell 2
  have q3 : (w.alloc (.cells #[.int .i64 x.k, .string x.e.id, .string x.e.tn, .string x.e.src, .string x.e.key, .int .i64 x.e.at_, .string x.e.cause, .slice x.e.A x.e.body.length x.e.cp, .string x.s, .int .i64 x.now, .int .i64 x.n] 42)).cell? ⟨w.heap.size, 3, none⟩ = some (.string x.e.src) := bx.cell 3
  have q4 : (w.alloc (.cells #[.int .i64 x.k, .string x.e.id, .string x.e.tn, .string x.e.src, .string x.e.key, .int .i64 x.e.at_, .string x.e.cause, .slice x.e.A x.e.body.length x.e.cp, .string x.s, .int .i64 x.now, .int .i64 x.n] 42)).cell? ⟨w.heap.size, 4, none⟩ = some (.string x.e.key) := bx.cell 4
  have q5 : (w.alloc (.cells #[.int .i64 x.k, .string x.e.id, .string x.e.tn, .string x.e.src, .string x.e.key, .int .i64 x.e.at_, .string x.e.cause, .slice x.e.A x.e.body.length x.e.cp, .string x.s, .int .i64 x.now, .int .i64 x.n] 42)).cell? ⟨w.heap.size, 5, none⟩ = some (.int .i64 x.e.at_) := bx.cell 5
  have q6 : (w.alloc (.cells #[.int .i64 x.k, .string x.e.id, .string x.e.tn, .string x.e.src, .string x.e.key, .int .i64 x.e.at_, .string x.e.cause, .slice x.e.A x.e.body.length x.e.cp, .string x.s, .int .i64 x.now, .int .i64 x.n] 42)).cell? ⟨w.heap.size, 6, none⟩ = some (.string x.e.cause) := bx.cell 6
  have q7 : (w.alloc (.cells #[.int .i64 x.k, .string x.e.id, .string x.e.tn, .string x.e.src, .string x.e.key, .int .i64 x.e.at_, .string x.e.cause, .slice x.e.A x.e.body.length x.e.cp, .string x.s, .int .i64 x.now, .int .i64 x.n] 42)).cell? ⟨w.heap.size, 7, none⟩ = some (.slice x.e.A x.e.body.length x.e.cp) := bx.cell 7
  have q8 : (w.alloc (.cells #[.int .i64 x.k, .string x.e.id, .string x.e.tn, .string x.e.src, .string x.e.key, .int .i64 x.e.at_, .string x.e.cause, .slice x.e.A x.e.body.length x.e.cp, .string x.s, .int .i64 x.now, .int .i64 x.n] 42)).cell? ⟨w.heap.size, 8, none⟩ = some (.string x.s) := bx.cell 8
  have q9 : (w.alloc (.cells #[.int .i64 x.k, .string x.e.id, .string x.e.tn, .string x.e.src, .string x.e.key, .int .i64 x.e.at_, .string x.e.cause, .slice x.e.A x.e.body.length x.e.cp, .string x.s, .int .i64 x.now, .int .i64 x.n] 42)).cell? ⟨w.heap.size, 9, none⟩ = some (.int .i64 x.now) := bx.cell 9
  have q10 : (w.alloc (.cells #[.int .i64 x.k, .string x.e.id, .string x.e.tn, .string x.e.src, .string x.e.key, .int .i64 x.e.at_, .string x.e.cause, .slice x.e.A x.e.body.length x.e.cp, .string x.s, .int .i64 x.now, .int .i64 x.n] 42)).cell? ⟨w.heap.size, 10, none⟩ = some (.int .i64 x.n) := bx.cell 10
  clear h0 h1 h2 h3 hT hb bx
  unfold Cl.at_ at *
  go_enter Tryz.func11, Tryz.ntmps11
  go_upto_region 1 with fail
  generalize hW : w.alloc (.cells #[.int .i64 x.k, .string x.e.id, .string x.e.tn, .string x.e.src, .string x.e.key, .int .i64 x.e.at_, .string x.e.cause, .slice x.e.A x.e.body.length x.e.cp, .string x.s, .int .i64 x.now, .int .i64 x.n] 42) = W at *
  by_cases k0 : x.k = 0
  · have HC := Lib.hid (H0.out k0)
    go_wp2_with fail
    refine HC.out.mono ?_
    rintro e w' ⟨z, rfl, hok⟩
    go_wp2_with fail
    go_ret2
    exact ⟨_, _, rfl, hok⟩
  · by_cases k1 : x.k = 1
    · have HC := Lib.hid (H1.out k1)
      go_wp2_with fail
      refine HC.out.mono ?_
      rintro e w' ⟨u, rfl, hok⟩
      go_wp2_with fail
      go_ret2
      exact ⟨_, _, rfl, hok⟩
    · by_cases k2 : x.k = 2
      · have HC := Lib.hid (H2.out W (.inl rfl) (.inl k2))
        have HRC := Lib.hid (show x.rc T = x.s by unfold Cl.rc; rw [if_pos (.inl k2)])
        rw [HRC.out] at HC
        go_wp2_with fail
        refine HC.out.mono ?_
        rintro e w' ⟨z, rfl, hok, -⟩
        go_wp2_with fail
        go_ret2
        exact ⟨_, _, rfl, hok⟩
      · by_cases k3 : x.k = 3
        · have HC := Lib.hid (H3.out W (.inl rfl) (.inl k3))
          have HRC := Lib.hid (show x.rc T = x.s by unfold Cl.rc; rw [if_pos (.inr k3)])
          rw [HRC.out] at HC
          go_wp2_with fail
          refine HC.out.mono ?_
          rintro e w' ⟨z, rfl, hok, -⟩
          go_wp2_with fail
          go_ret2
          exact ⟨_, _, rfl, hok⟩
        · have HRC := Lib.hid (show x.rc T = nthS T x.n by unfold Cl.rc; rw [if_neg (by rintro (h | h) <;> contradiction)])
          have HS := Lib.hid (show ClOn x w.heap.size W.drew from ⟨q9, q10⟩)
          by_cases k4 : x.k = 4
          · have HC := Lib.hid (H2.out W.drew (.inr rfl) (.inr k4))
            rw [HRC.out] at HC
            go_upto_region 10 with fail
            go_region_held3 (fun w' => w'.cell? ⟨w.heap.size, 9, none⟩ = some (.int .i64 x.now) ∧ w'.cell? ⟨w.heap.size, 10, none⟩ = some (.int .i64 x.n)) (first | assumption | exact HS.out | exact ⟨q9, q10⟩) (first
              | (go_at_call 25; (with_reducible refine HN.out.mono ?_); rintro e wn ⟨rfl, hwn⟩; obtain rfl := hwn.symm)
              | (go_at_call 31; (with_reducible refine HC.out.mono ?_); rintro e w' ⟨z, rfl, hok, hcl⟩; have hcl9 := hcl))
            go_wp2_with fail
            go_ret2
            exact ⟨_, _, rfl, hok⟩
          · have HC := Lib.hid (H3.out W.drew (.inr rfl) (.inr ⟨k0, k1, k2, k4⟩))
            rw [HRC.out] at HC
            go_upto_region 11 with fail
            go_region_held3 (fun w' => w'.cell? ⟨w.heap.size, 9, none⟩ = some (.int .i64 x.now) ∧ w'.cell? ⟨w.heap.size, 10, none⟩ = some (.int .i64 x.n)) (first | assumption | exact HS.out | exact ⟨q9, q10⟩) (first
              | (go_at_call 25; (with_reducible refine HN.out.mono ?_); rintro e wn ⟨rfl, hwn⟩; obtain rfl := hwn.symm)
              | (go_at_call 32; (with_reducible refine HC.out.mono ?_); rintro e w' ⟨z, rfl, hok, hcl⟩; have hcl9 := hcl))
            go_wp2_with fail
            go_ret2
            exact ⟨_, _, rfl, hok⟩
end
end Go.Proofs.YtbofclohnmojmaaGreatDoor
