/- The walk of the reference's Format. -/
import Derived.Test.YtpkekfhnpcjgkaaDoorI
import Derived.Lib.ItoaLen
import Derived.Lib.SmallJoins
namespace Go.Proofs.YtpkekfhnpcjgkaaDoor
open Go.RowKit

theorem ret_str {a b : ByteArray} (h : a = b) : Ending.returned (.string a) = .returned (.string b) := by rw [h]
def emptyV : Value → Nat
  | .string t => if t.size = 0 then 1 else 0
  | _ => 0
theorem emptyV_yes {t : ByteArray} (h : t.size = 0) : emptyV (.string t) = 1 := by show (if t.size = 0 then 1 else 0) = 1; rw [if_pos h]
theorem emptyV_no {t : ByteArray} (h : 0 < t.size) : emptyV (.string t) = 0 := by show (if t.size = 0 then 1 else 0) = 0; rw [if_neg (by omega)]
/-- The loop of the reference: what is still to be written (m) stands ahead of what is written (t). -/
def FmtR (n m : Int) (t : ByteArray) : Prop :=
  (t.size = 0 ∧ m = n) ∨ (0 < t.size ∧ Lib.decDigits n.natAbs = (if m = 0 then [] else Lib.decDigits m.natAbs) ++ t.data.toList)
abbrev tenDig : ByteArray := ⟨#[48, 49, 50, 51, 52, 53, 54, 55, 56, 57]⟩
theorem ten_fin : ∀ i : Fin 10, (tenDig.data.toList.drop i.val).take 1 = [UInt8.ofNat (48 + i.val)] := by decide +kernel
theorem ten_at (d : Nat) (h : d < 10) : (tenDig.extract d (d + 1)).data.toList = [UInt8.ofNat (48 + d)] := by
  rw [Lib.extract_data, show d + 1 - d = 1 by omega]
  exact ten_fin ⟨d, h⟩
theorem fmt_step {n m m' : Int} {t : ByteArray} {d : Nat} (h : FmtR n m t) (hgo : m ≠ 0 ∨ t.size = 0) (hd : d = m.natAbs % 10) (hm : m'.natAbs = m.natAbs / 10) :
    FmtR n m' (tenDig.extract d (d + 1) ++ t) ∧ 0 < (tenDig.extract d (d + 1) ++ t).size := by
  have hl : (tenDig.extract d (d + 1) ++ t).data.toList = UInt8.ofNat (48 + d) :: t.data.toList := by
    rw [Joins.data_append, ten_at d (by omega)]; rfl
  have hs : 0 < (tenDig.extract d (d + 1) ++ t).size := by rw [← size_len, hl]; simp
  refine ⟨.inr ⟨hs, ?_⟩, hs⟩
  rw [hl]
  have hk : ∀ u : Nat, d = u % 10 → m'.natAbs = u / 10 → Lib.decDigits u = (if m' = 0 then [] else Lib.decDigits m'.natAbs) ++ [UInt8.ofNat (48 + d)] := by
    intro u h1 h2
    rw [Lib.decDigits]
    split
    · rename_i h10
      rw [if_pos (by omega), List.nil_append, h1, Nat.mod_eq_of_lt h10]
    · rw [if_neg (by omega), h2, h1]
  rcases h with ⟨ht, rfl⟩ | ⟨ht, he⟩
  · have : t.data.toList = [] := List.eq_nil_of_length_eq_zero (by rw [size_len, ht])
    rw [this]
    exact hk _ hd hm
  · have hm0 : m ≠ 0 := by rcases hgo with h | h; exact h; omega
    rw [he, if_neg hm0, hk _ hd hm, List.append_assoc]
    rfl
theorem fmt_end {n : Int} {t : ByteArray} (h : FmtR n 0 t) (ht : 0 < t.size) : t.data.toList = Lib.decDigits n.natAbs := by
  rcases h with ⟨h, _⟩ | ⟨_, he⟩
  · omega
  · rw [he, if_pos rfl, List.nil_append]
theorem itoa_abs (n : Int) : Lib.itoa n = if n < 0 then 45 :: Lib.decDigits n.natAbs else Lib.decDigits n.natAbs := by
  unfold Lib.itoa
  split
  · rfl
  · rw [show n.toNat = n.natAbs by omega]
theorem bytes_of {t : ByteArray} {l : List UInt8} (h : t.data.toList = l) : t = ⟨l.toArray⟩ := by subst h; cases t; simp
theorem fmt_len {n m : Int} {t : ByteArray} (h : FmtR n m t) (h0 : -9223372036854775808 ≤ n) (h1 : n ≤ 9223372036854775807) : t.size ≤ 21 := by
  rcases h with ⟨h, _⟩ | ⟨_, he⟩
  · omega
  · have := congrArg List.length he
    rw [List.length_append, size_len] at this
    have hl := Lib.itoa_length_le n h0 h1
    rw [itoa_abs] at hl
    split at hl <;> (try rw [List.length_cons] at hl) <;> omega

theorem tmod10 (m : Int) (h : m < 0) : m.tmod 10 = -((m.natAbs % 10 : Nat) : Int) := by
  obtain ⟨k, rfl⟩ : ∃ k : Nat, m = -(k : Int) := ⟨m.natAbs, by omega⟩
  rw [Int.neg_tmod, Int.natAbs_neg, Int.natAbs_natCast]; rfl
theorem tdiv10 (m : Int) (h : m < 0) : m.tdiv 10 = -((m.natAbs / 10 : Nat) : Int) := by
  obtain ⟨k, rfl⟩ : ∃ k : Nat, m = -(k : Int) := ⟨m.natAbs, by omega⟩
  rw [Int.neg_tdiv, Int.natAbs_neg, Int.natAbs_natCast]; rfl
set_option maxHeartbeats 1000000 in
theorem rFormat_any (n : Int) (w : World) (h0 : -9223372036854775808 ≤ n) (h1 : n ≤ 9223372036854775807) :
    Calls Tryd.prog 75 #[.int .i64 n] w fun e w' => e = .returned (.string ⟨(Lib.itoa n).toArray⟩) ∧ Below w.heap.size w w' := by
  have hfin : ∀ t : ByteArray, FmtR n 0 t → 0 < t.size → (n < 0 → (⟨#[45]⟩ ++ t : ByteArray) = ⟨(Lib.itoa n).toArray⟩) ∧ (¬ n < 0 → t = ⟨(Lib.itoa n).toArray⟩) := by
    intro t ht hs
    have he := fmt_end ht hs
    refine ⟨fun hn => bytes_of ?_, fun hn => bytes_of ?_⟩
    · rw [Joins.data_append, he, itoa_abs, if_pos hn]; rfl
    · rw [he, itoa_abs, if_neg hn]
  have HF := Lib.hid hfin
  clear hfin
  go_enter Tryd.func75, Tryd.ntmps75
  go_wp2_with fail
  go_loop [4, 5] (fun s m => ∃ (k : Int) (t : ByteArray), m = .int .i64 k ∧ s = .string t ∧ FmtR n k t ∧ -9223372036854775808 ≤ k ∧ k ≤ 9223372036854775807) (fun s m => (intOf m).natAbs + emptyV s)
  case atStart => exact ⟨n, ⟨#[]⟩, rfl, rfl, .inl ⟨rfl, rfl⟩, h0, h1⟩
  case round =>
    obtain ⟨m, t, rfl, rfl, hR, b1, b2⟩ := hrel
    have hlen := fmt_len hR h0 h1
    have HR := Lib.hid hR
    clear hR
    by_cases hgo : m ≠ 0 ∨ t.size = 0
    · have hstep := fun (m' : Int) (d : Nat) => fmt_step (m' := m') (d := d) HR.out hgo
      have HS := Lib.hid hstep
      clear hstep
      obtain ⟨d, hd⟩ : ∃ d : Nat, d = m.natAbs % 10 := ⟨_, rfl⟩
      obtain ⟨q, hq⟩ : ∃ q : Nat, q = m.natAbs / 10 := ⟨_, rfl⟩
      have hd10 : d < 10 := by omega
      have HM : Hid (d = m.natAbs % 10 ∧ q = m.natAbs / 10) := ⟨hd, hq⟩
      have hemp : emptyV (.string t) = 1 ∨ m ≠ 0 := by
        rcases hgo with h | h
        · exact .inr h
        · exact .inl (emptyV_yes h)
      have HE := Lib.hid hemp
      clear hemp
      have hgoW : ((m != 0) = true) ∨ ((m != 0) = false ∧ t.toList.isEmpty = true) := by
        by_cases h : m = 0
        · refine .inr ⟨by simpa using h, isEmpty_of ?_⟩
          rcases hgo with h' | h'
          · exact absurd h h'
          · exact h'
        · exact .inl (by simpa using h)
      clear hgo
      rcases hgoW with hne | ⟨hne, hte⟩
      all_goals
        rcases Int.lt_or_le m 0 with hm | hm
        · have e1 := tmod10 m hm
          have e2 := tdiv10 m hm
          rw [← hd] at e1
          rw [← hq] at e2
          have hqb : q ≤ 922337203685477581 := by omega
          clear hd hq
          by_cases hd0 : d = 0
          · subst hd0
            rw [show -((0 : Nat) : Int) = 0 from rfl] at e1
            go_wp2
            go_round
            case rel => exact ⟨_, _, rfl, rfl, (HS.out (-(q : Int)) 0 HM.out.1 (by have := HM.out.2; omega)).1, by have := HM.out.2; omega, by omega⟩
            case measure => rw [show emptyV _ = 0 from emptyV_no (HS.out (-(q : Int)) 0 HM.out.1 (by have := HM.out.2; omega)).2]; have := HM.out.2; rcases HE.out with h | h <;> simp [intOf] <;> omega
          · go_wp2
            go_round
            case rel => exact ⟨_, _, rfl, rfl, (HS.out (-(q : Int)) d HM.out.1 (by have := HM.out.2; omega)).1, by have := HM.out.2; omega, by omega⟩
            case measure => rw [show emptyV _ = 0 from emptyV_no (HS.out (-(q : Int)) d HM.out.1 (by have := HM.out.2; omega)).2]; have := HM.out.2; rcases HE.out with h | h <;> simp [intOf] <;> omega
        · have e1 : m % 10 = (d : Int) := by omega
          clear hd hq
          go_wp2
          go_round
          case rel => exact ⟨_, _, rfl, rfl, (HS.out (m / 10) d HM.out.1 (by omega)).1, by omega, by omega⟩
          case measure => rw [show emptyV _ = 0 from emptyV_no (HS.out (m / 10) d HM.out.1 (by omega)).2]; rcases HE.out with h | h <;> simp [intOf, h] <;> omega
    · have hne : (m != 0) = false := by
        by_cases h : m = 0
        · simpa using h
        · exact absurd (Or.inl h) hgo
      have hm0 : m = 0 := by simpa using hne
      have hts : 0 < t.size := by
        rcases Nat.eq_zero_or_pos t.size with h | h
        · exact absurd (Or.inr h) hgo
        · exact h
      have hte := isEmpty_not hts
      subst hm0
      have HG := Lib.hid (HF.out t HR.out hts)
      clear hgo
      by_cases hn : n < 0
      · go_wp2
        go_ret
        exact ⟨ret_str (HG.out.1 hn), Below.refl _ _⟩
      · go_wp2
        go_ret
        exact ⟨ret_str (HG.out.2 hn), Below.refl _ _⟩
end Go.Proofs.YtpkekfhnpcjgkaaDoor
