/- What the walks of the numbers ask of the listed variables; the walk of FormatUint at base 16, and of Hex. -/
import Derived.Test.YtjjmdgiaohmjkaaDoorH2
import Derived.Test.YtjjmdgiaohmjkaaDoorHS
import Derived.Laws.IdiomStrings
import Derived.Lib.LaidTab
import Derived.Lib.SmallJoins
namespace Go.Proofs.YtjjmdgiaohmjkaaDoor
open Go.RowKit
open Go.Sort (grow)

/-- What the walks ask of the listed variables. -/
structure LaidH (w : World) : Prop where
  tab : Lib.TabIs Tryd.prog w "internal/strconv.uint64pow10" .u64 Lib.pow10Tab
  b15 : w.cell? ⟨5, 15, none⟩ = some (.int .u8 4)
  syn : ∃ tp p, w.cell? ⟨1, 0, none⟩ = some (.iface tp p)
theorem var_on {P : Program} {W W' : World} {n : String} {cs : Array Value} (hv : W.var? P n = some cs) (h : Below W.heap.size W W') : W'.var? P n = some cs := by
  unfold World.var? at hv ⊢
  cases hg : P.globalNamed n with
  | none => simp [hg] at hv
  | some g =>
    simp only [hg, Option.bind_some] at hv ⊢
    have hlt : g < W.heap.size := by
      rcases Nat.lt_or_ge g W.heap.size with h | h
      · exact h
      · rw [Array.getElem?_eq_none h] at hv; simp at hv
    rw [h.block g hlt]
    exact hv
theorem LaidH.below {W W' : World} (h : LaidH W) (hb : Below W.heap.size W W') : LaidH W' :=
  ⟨var_on h.tab hb, (hb.cell (p := ⟨_, _, none⟩) (Lib.lt_of_cell h.b15)).trans h.b15, by obtain ⟨tp, p, hv⟩ := h.syn; exact ⟨tp, p, (hb.cell (p := ⟨_, _, none⟩) (Lib.lt_of_cell hv)).trans hv⟩⟩

theorem hexL_top (j : Nat) : ∀ n, hexL n (j + 1) = hexd (n / 16 ^ j % 16) :: hexL n j := by
  induction j with
  | zero => intro n; simp [hexL]
  | succ j ih =>
    intro n
    rw [hexL, ih (n / 16), hexL, Nat.div_div_eq_div_mul, List.cons_append, Nat.pow_succ, Nat.mul_comm 16]
theorem hexL_add (k : Nat) : ∀ d n, n < 16 ^ k → hexL n (k + d) = List.replicate d 48 ++ hexL n k
  | 0, n, _ => by simp
  | d + 1, n, h => by
    rw [← Nat.add_assoc, hexL_top, hexL_add k d n h]
    have : n / 16 ^ (k + d) = 0 := Nat.div_eq_of_lt (Nat.lt_of_lt_of_le h (Nat.pow_le_pow_right (by omega) (by omega)))
    rw [this, List.replicate_succ]
    rfl
/-- The digits in their field of 65 bytes. -/
def dgB (n j : Nat) : Array Value := (List.replicate (65 - j) (Value.int .u8 0) ++ (hexL n j).map fun c => Value.int .u8 (c.toNat : Int)).toArray
theorem dgB_set {n j : Nat} (h : j < 65) : (dgB n j).setIfInBounds (64 - j) (.int .u8 ((hexd (n / 16 ^ j % 16)).toNat : Int)) = dgB n (j + 1) := by
  unfold dgB
  rw [List.setIfInBounds_toArray, hexL_top, List.map_cons]
  congr 1
  rw [show 65 - j = (64 - j) + 1 by omega, List.replicate_succ', List.append_assoc, List.set_append_right _ _ (by simp)]
  simp only [List.length_replicate, Nat.sub_self, List.cons_append, List.nil_append, List.set_cons_zero]
  rw [show 65 - (j + 1) = 64 - j by omega]
theorem dgB_at {n j i : Nat} : (dgB n j)[65 - j + i]? = ((hexL n j)[i]?).map fun c => Value.int .u8 (c.toNat : Int) := by
  unfold dgB
  rw [List.getElem?_toArray, List.getElem?_append_right (by simp), List.getElem?_map]
  simp
theorem trail_any (w : World) (h : w.cell? ⟨5, 15, none⟩ = some (.int .u8 4)) : Calls Tryd.prog 79 #[.int .u64 16] w fun e w' => e = .returned (.int .i64 4) ∧ w = w' := by
  have e : IntKind.u64.wrap (bits .and .u64 16 (IntKind.u64.wrap (-16)) * 285870213051353865) / 288230376151711744 = 15 := by decide +kernel
  go_enter Tryd.func79, Tryd.ntmps79
  go_wp2_with fail
  go_ret
  exact ⟨rfl, rfl⟩
theorem trail2_any (w : World) (h : w.cell? ⟨5, 15, none⟩ = some (.int .u8 4)) : Calls Tryd.prog 72 #[.int .u64 16] w fun e w' => e = .returned (.int .i64 4) ∧ w = w' := by
  go_enter Tryd.func72, Tryd.ntmps72
  go_wp2_with fail
  refine (trail_any w h).mono ?_
  rintro e wq ⟨rfl, rfl⟩
  go_wp2_with fail
  go_ret
  exact ⟨rfl, rfl⟩
theorem and16 : bits .and .i64 16 15 = 0 := by decide +kernel
theorem pow2_any (w : World) : Calls Tryd.prog 71 #[.int .i64 16] w fun e w' => e = .returned (.bool true) ∧ w = w' := by
  have e := and16
  go_enter Tryd.func71, Tryd.ntmps71
  go_wp2_with fail
  go_ret
  exact ⟨rfl, rfl⟩
theorem div_lt16 {n j : Nat} (hn : n < 18446744073709551616) (hj : j ≤ 15) (h : 16 ≤ n / 16 ^ j) : j < 15 := by
  rcases Nat.lt_or_ge j 15 with h1 | h1
  · exact h1
  · have e : j = 15 := by omega
    subst e
    have e2 : (16 : Nat) ^ 15 = 1152921504606846976 := by decide
    rw [e2] at h
    omega
abbrev digs : ByteArray := ⟨#[48, 49, 50, 51, 52, 53, 54, 55, 56, 57, 97, 98, 99, 100, 101, 102, 103, 104, 105, 106, 107, 108, 109, 110, 111, 112, 113, 114, 115, 116, 117, 118, 119, 120, 121, 122]⟩
theorem digs_fin : ∀ d : Fin 16, digs.data.toList[d.val]? = some (hexd d.val) := by decide +kernel
theorem digs_size : digs.size = 36 := rfl
theorem digs_at {d : Nat} (h : d < 16) : digs[d]'(by rw [digs_size]; omega) = hexd d := by
  have h1 := digs_fin ⟨d, h⟩
  rw [byte_at digs d (by rw [digs_size]; omega)] at h1
  exact Option.some.inj h1
set_option maxHeartbeats 4000000 in
set_option maxRecDepth 100000 in
theorem formatBits_any (n : Nat) (hn : n < 18446744073709551616) (w : World) (hX : w.cell? ⟨5, 15, none⟩ = some (.int .u8 4)) :
    Calls Tryd.prog 54 #[.slice none 0 0, .int .u64 (n : Int), .int .i64 16, .bool false, .bool false] w fun e w' =>
      (∃ k, k ≤ 16 ∧ n < 16 ^ k ∧ e = .returned (.tuple #[.slice none 0 0, .string ⟨(hexL n k).toArray⟩])) ∧ Below w.heap.size w w' := by
  have HN := Lib.hid hn
  have hz0 : Tryd.zeroCells99 = dgB n 0 := by kernel_rfl
  have hb0 : Below w.heap.size w (w.alloc (.cells Tryd.zeroCells99 99)) := (Below.refl w.heap.size w).alloc (Nat.le_refl _) _
  have bk0 : Blk (w.alloc (.cells Tryd.zeroCells99 99)) w.heap.size 99 (dgB n 0) := by rw [hz0]; exact Blk.new _ _ _
  have hX1 : (w.alloc (.cells Tryd.zeroCells99 99)).cell? ⟨5, 15, none⟩ = some (.int .u8 4) := (hb0.cell (p := ⟨_, _, none⟩) (Lib.lt_of_cell hX)).trans hX
  have HX := Lib.hid hX1
  have HB0 := Lib.hid hb0
  have BK0 := Lib.hid bk0
  clear hn hX1 hX hz0 hb0 bk0
  go_enter Tryd.func54, Tryd.ntmps54
  go_wp2_with fail
  generalize w.alloc (.cells Tryd.zeroCells99 99) = W at *
  refine (pow2_any W).mono ?_
  rintro e wq ⟨rfl, rfl⟩
  go_wp2_with fail
  refine (trail2_any W HX.out).mono ?_
  rintro e wq ⟨rfl, rfl⟩
  go_wp2_with fail
  have hdg := fun d (hd : d < 16) => digs_at hd
  have HDG := Lib.hid hdg
  clear hdg
  go_loopw [1, 13] (fun u i wr => ∃ j q m : Nat, j ≤ 15 ∧ q + j = 64 ∧ i = .int .i64 ((q : Int) + 1) ∧ u = .int .u64 (m : Int) ∧ m = n / 16 ^ j ∧ Blk wr w.heap.size 99 (dgB n j) ∧ Below w.heap.size w wr) (fun u _ _ => (intOf u).toNat)
  case atStart => exact ⟨0, 64, n, by omega, rfl, rfl, rfl, by simp, BK0.out, HB0.out⟩
  case round =>
    obtain ⟨j, q, m, hj, hq, rfl, rfl, hm, hbk, hbr⟩ := hrel
    have HB := Lib.hid hbr
    have BK := Lib.hid hbk
    have hlb := hbk.lt
    have hfz := hbk.frozen q
    have hce : wr.cell? ⟨w.heap.size, q, none⟩ = some (.int .u8 0) := by
      rw [hbk.cell, dgB, List.getElem?_toArray, List.getElem?_append_left (by simp; omega), List.getElem?_replicate, if_pos (by omega)]
    have hmb : m < 18446744073709551616 := by rw [hm]; exact Nat.lt_of_le_of_lt (Nat.div_le_self _ _) HN.out
    have HMS := Lib.hid (show m / 16 = n / 16 ^ (j + 1) by rw [hm, Nat.div_div_eq_div_mul, Nat.pow_succ])
    have HJ := Lib.hid (fun (h : 16 ≤ m) => div_lt16 HN.out hj (by rw [← hm]; exact h))
    have HST := Lib.hid (show (dgB n j).setIfInBounds q (.int .u8 ((hexd (m % 16)).toNat : Int)) = dgB n (j + 1) by
      have := dgB_set (n := n) (j := j) (by omega)
      rw [show 64 - j = q by omega, ← hm] at this
      exact this)
    have HM := Lib.hid hm
    have ha := a64 m hmb
    have hd16 : m % 16 < 16 := Nat.mod_lt _ (by omega)
    have hdg := HDG.out (m % 16) hd16
    have hq0 : (0 : Int) ≤ q := by omega
    have hq1 : (q : Int) < 65 := by omega
    have hmb' : (m : Int) < 18446744073709551616 := by omega
    clear hbr hbk hm hmb
    by_cases hgo : 16 ≤ m
    · have hgi : decide ((16 : Int) ≤ m) = true := decide_eq_true (by omega)
      generalize hde : m % 16 = d at *
      clear hde
      go_wp2_with fail
      go_roundw
      case rel => exact ⟨j + 1, q - 1, m / 16, by have := HJ.out hgo; omega, by omega, by rw [show (q : Int) = ((q - 1 : Nat) : Int) + 1 by omega], by go_num, HMS.out, by rw [← HST.out]; exact BK.out.set_ q _, HB.out.setCell (p := ⟨_, q, none⟩) (Nat.le_refl _) _⟩
      case measure => simp [intOf]; omega
    · have hgi : decide ((16 : Int) ≤ m) = false := decide_eq_false (by omega)
      generalize hde : m % 16 = d at *
      obtain rfl : m = d := by omega
      clear hde
      have hal : Tryd.prog.arrayLen 99 = 65 := by kernel_rfl
      have hsl : ∀ u, (Instr.sliceAt 99 (.pointer (some ⟨w.heap.size, 0, none⟩)) (some (.int .i64 (q : Int))) none none).run Tryd.prog u = .ok (.slice (some ⟨w.heap.size, q, none⟩) (j + 1) (j + 1)) u := fun u => by
        rw [run_sliceAt_array_l u 99 ⟨w.heap.size, 0, none⟩ (by simp [Program.arrayLen, Program.elem, Tryd.underlying99]) .i64 (q : Int) (by omega) (by rw [hal]; omega)]
        have hel : Tryd.prog.elem 99 = 5 := by kernel_rfl
        rw [hel, Tryd.sizeOf5]
        simp only [Result.andThen_ok, slicedAt, hal, Int.toNat_natCast]
        rw [if_neg (by omega), Addr.add_lit, show 65 - q = j + 1 by omega]
        simp
      have hcv : (convert 58 9 (.slice (some ⟨w.heap.size, q, none⟩) (j + 1) (j + 1))).run Tryd.prog (wr.setCell ⟨w.heap.size, q, none⟩ (.int .u8 ((hexd m).toNat : Int))) = .ok (.string ⟨(hexL n (j + 1)).toArray⟩) (wr.setCell ⟨w.heap.size, q, none⟩ (.int .u8 ((hexd m).toNat : Int))) := by
        have hbk2 : Blk (wr.setCell ⟨w.heap.size, q, none⟩ (.int .u8 ((hexd m).toNat : Int))) w.heap.size 99 (dgB n (j + 1)) := by rw [← HST.out]; exact BK.out.set_ q _
        have h := run_convert_bytes_back (P := Tryd.prog) (wr.setCell ⟨w.heap.size, q, none⟩ (.int .u8 ((hexd m).toNat : Int))) 58 9 5 ⟨w.heap.size, q, none⟩ (j + 1) (hexL n (j + 1)) Tryd.underlying58 Tryd.underlying5 Tryd.underlying9 (fun i hi => by
          rw [hexL_len] at hi
          rw [Addr.add_lit, hbk2.cell, show q + i = 65 - (j + 1) + i by omega, dgB_at]
          rw [List.getElem?_eq_getElem (by rw [hexL_len]; exact hi)]
          rfl)
        rw [hexL_len] at h
        exact h
      have HK := Lib.hid (show n < 16 ^ (j + 1) by
        have h1 := HM.out
        have h2 : n / 16 ^ j < 16 := by omega
        rw [Nat.div_lt_iff_lt_mul (Nat.pow_pos (by omega))] at h2
        rw [Nat.pow_succ, Nat.mul_comm]
        exact h2)
      go_wp2_with fail
      go_ret2
      exact ⟨⟨j + 1, by omega, HK.out, rfl⟩, HB.out.setCell (p := ⟨_, q, none⟩) (Nat.le_refl _) _⟩
theorem FormatUint_any (n : Nat) (hn : n < 18446744073709551616) (w : World) (hX : LaidH w) :
    Calls Tryd.prog 28 #[.int .u64 (n : Int), .int .i64 16] w fun e w' => (∃ k, k ≤ 16 ∧ n < 16 ^ k ∧ e = .returned (.string ⟨(hexL n k).toArray⟩)) ∧ Below w.heap.size w w' := by
  have inner : Calls Tryd.prog 40 #[.int .u64 (n : Int), .int .i64 16] w fun e w' => (∃ k, k ≤ 16 ∧ n < 16 ^ k ∧ e = .returned (.string ⟨(hexL n k).toArray⟩)) ∧ Below w.heap.size w w' := by
    go_enter Tryd.func40, Tryd.ntmps40
    go_wp2_with fail
    refine (formatBits_any n hn w hX.b15).mono ?_
    rintro e w1 ⟨⟨k, h1, h2, rfl⟩, hb⟩
    have H := Lib.hid (And.intro h1 (And.intro h2 hb))
    clear h1 h2 hb
    go_wp2_with fail
    go_ret
    exact ⟨⟨k, H.out.1, H.out.2.1, rfl⟩, H.out.2.2⟩
  have HI := Lib.hid inner
  clear inner
  go_enter Tryd.func28, Tryd.ntmps28
  go_wp2_with fail
  refine HI.out.mono ?_
  rintro e w1 ⟨⟨k, h1, h2, rfl⟩, hb⟩
  have H := Lib.hid (And.intro h1 (And.intro h2 hb))
  clear h1 h2 hb
  go_wp2_with fail
  go_ret
  exact ⟨⟨k, H.out.1, H.out.2.1, rfl⟩, H.out.2.2⟩
theorem repeatL_zero48 (c : Nat) : Lib.repeatL [48] c = List.replicate c 48 := by
  induction c with
  | zero => rfl
  | succ c ih => rw [List.replicate_succ, ← ih]; rfl
def hexS16 (n : Nat) : ByteArray := ⟨(hexL n 16).toArray⟩
set_option maxHeartbeats 1000000 in
theorem Hex_any (n : Nat) (hn : n < 18446744073709551616) (w : World) (hX : LaidH w) :
    Calls Tryd.prog 9 #[.int .u64 (n : Int)] w fun e w' => e = .returned (.string (hexS16 n)) ∧ Below w.heap.size w w' := by
  go_enter Tryd.func9, Tryd.ntmps9
  go_wp2_with fail
  refine (FormatUint_any n hn w hX).mono ?_
  rintro e w1 ⟨⟨k, hk, hk2, rfl⟩, hb⟩
  have HB := Lib.hid hb
  have hsz : (⟨(hexL n k).toArray⟩ : ByteArray).size = k := by rw [← size_len]; simp [hexL_len]
  have HS := Lib.hid (show (⟨(Lib.repeatL [48] (16 - k)).toArray⟩ : ByteArray) ++ ⟨(hexL n k).toArray⟩ = hexS16 n by
    apply ba_ext
    rw [Joins.data_append, repeatL_zero48]
    have := hexL_add k (16 - k) n hk2
    rw [show k + (16 - k) = 16 by omega] at this
    exact this.symm)
  have hz2 : (⟨(Lib.repeatL [48] (16 - k)).toArray⟩ : ByteArray).size ≤ 16 := by rw [← size_len]; simp [repeatL_zero48]
  clear hb hk2
  generalize hs : (⟨(hexL n k).toArray⟩ : ByteArray) = s at *
  clear hs
  obtain ⟨c, hc⟩ : ∃ c : Nat, c = 16 - k := ⟨_, rfl⟩
  have hci : (16 : Int) - (k : Int) = (c : Int) := by omega
  rw [← hc] at hz2
  have HC := Lib.hid hc
  clear hc
  go_wp2_with fail
  refine (Tryd.strings_Repeat ⟨#[48]⟩ c w1 (by omega) (by have : (⟨#[48]⟩ : ByteArray).size = 1 := rfl; rw [this]; omega)).mono ?_
  rintro e w2 ⟨rfl, hb⟩
  have HB2 := Lib.hid (HB.out.trans (hb.mono HB.out.size))
  clear hb
  have hss : s.size ≤ 16 := by omega
  generalize hr : (⟨(Lib.repeatL (⟨#[48]⟩ : ByteArray).data.toList c).toArray⟩ : ByteArray) = r at *
  have hr' : (⟨(Lib.repeatL [48] c).toArray⟩ : ByteArray) = r := hr
  have HR := Lib.hid hr'
  clear hr hr'
  go_wp2_with fail
  go_ret
  exact ⟨ret_str (by rw [← HS.out, ← HC.out, HR.out]), HB2.out⟩
end Go.Proofs.YtjjmdgiaohmjkaaDoor
