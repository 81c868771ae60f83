/- Plain: what Address and Parse accept is what Text and Format write; both Address and both Parse answer alike. -/
import Derived.Test.YtpkekfhnpcjgkaaDoorT2
import Derived.Test.YtpkekfhnpcjgkaaDoorS1
namespace Go.Proofs.YtpkekfhnpcjgkaaDoor
open Nw

theorem ba_ext {s t : ByteArray} (h : s.data.toList = t.data.toList) : s = t := by
  obtain ⟨⟨a⟩⟩ := s; obtain ⟨⟨b⟩⟩ := t
  have : a = b := h
  rw [this]
theorem parts_pcs (s : ByteArray) : parts s = pcs 46 s := split_pcs 46 s
theorem adS_cut (s : ByteArray) : adS s = adL ((cutL 46 s.data.toList).map parI) := by
  unfold adS adT
  rw [parts_pcs, ← pcs_data, List.map_map]
  rfl
theorem parI_itoa {n : Int} (h0 : -1000000000000 ≤ n) (h1 : n ≤ 1000000000000) : parI (Lib.itoa n) = (n, 0) := by
  obtain ⟨h2, h3⟩ := itoa_dec n
  unfold parI
  rw [if_pos h2, h3, if_pos (by simp only [bndB, Bool.and_eq_true, decide_eq_true_eq]; omega)]
theorem parI_inv {l : List UInt8} {n : Int} (h : parI l = (n, 0)) : l = Lib.itoa n := by
  unfold parI at h
  split at h
  · rename_i hd
    split at h
    · rw [Prod.mk.injEq] at h; rw [← h.1, dec_itoa l hd]
    · rw [Prod.mk.injEq] at h; exact absurd h.2 (by omega)
  · rw [Prod.mk.injEq] at h; exact absurd h.2 (by omega)
theorem dec_free {c : UInt8} (hc : ¬ (48 ≤ c.toNat ∧ c.toNat ≤ 57)) (u : Nat) : c ∉ Lib.decDigits u := by
  intro h
  have := List.all_eq_true.1 (dec_digits_all u) c h
  simp only [isDg, Bool.and_eq_true, decide_eq_true_eq] at this
  exact hc this
theorem itoa_free {c : UInt8} (hc : ¬ (48 ≤ c.toNat ∧ c.toNat ≤ 57)) {n : Int} (h : 0 ≤ n) : c ∉ Lib.itoa n := by
  unfold Lib.itoa
  rw [if_neg (by omega)]
  exact dec_free hc _
theorem d46 : ¬ (48 ≤ (46 : UInt8).toNat ∧ (46 : UInt8).toNat ≤ 57) := by decide
theorem d32 : ¬ (48 ≤ (32 : UInt8).toNat ∧ (32 : UInt8).toNat ≤ 57) := by decide
theorem d47 : ¬ (48 ≤ (47 : UInt8).toNat ∧ (47 : UInt8).toNat ≤ 57) := by decide
theorem d45 : ¬ (48 ≤ (45 : UInt8).toNat ∧ (45 : UInt8).toNat ≤ 57) := by decide
theorem txP_data (n : Int) : (txP n 4).data.toList = Lib.itoa (n / 16777216) ++ 46 :: (Lib.itoa (n / 65536 % 256) ++ 46 :: (Lib.itoa (n / 256 % 256) ++ 46 :: Lib.itoa (n % 256))) := by
  have e : txP n 4 = itB (n / 16777216) ++ ⟨#[46]⟩ ++ itB (n / 65536 % 256) ++ ⟨#[46]⟩ ++ itB (n / 256 % 256) ++ ⟨#[46]⟩ ++ itB (n % 256) := rfl
  rw [e]
  simp only [Joins.data_append, itB]
  simp only [List.append_assoc, List.cons_append, List.nil_append]
theorem txP_free {c : UInt8} (hc : ¬ (48 ≤ c.toNat ∧ c.toNat ≤ 57)) (h46 : c ≠ 46) {n : Int} (h : 0 ≤ n) : c ∉ (txP n 4).data.toList := by
  rw [txP_data]
  simp only [List.mem_append, List.mem_cons, not_or]
  exact ⟨itoa_free hc (by omega), h46, itoa_free hc (by omega), h46, itoa_free hc (by omega), h46, itoa_free hc (by omega)⟩
/-- Address undoes Text. -/
theorem ad_tx {n : Int} (h : 0 ≤ n ∧ n ≤ 4294967295) : adS (txP n 4) = (n, 0) := by
  obtain ⟨h0, h1⟩ := h
  rw [adS_cut, txP_data, cutL_hit _ (itoa_free d46 (by omega)), cutL_hit _ (itoa_free d46 (by omega)), cutL_hit _ (itoa_free d46 (by omega)), cutL_no (itoa_free d46 (by omega))]
  simp only [List.map]
  rw [parI_itoa (by omega) (by omega), parI_itoa (by omega) (by omega), parI_itoa (by omega) (by omega), parI_itoa (by omega) (by omega), adL_yes (by omega) (by omega) (by omega) (by omega)]
  exact congrArg (·, 0) (by omega)
theorem map4 {α β : Type} {f : α → β} {l : List α} {a b c d : β} (h : l.map f = [a, b, c, d]) : ∃ p q r t, l = [p, q, r, t] ∧ f p = a ∧ f q = b ∧ f r = c ∧ f t = d := by
  match l, h with
  | [], h => simp at h
  | [_], h => simp at h
  | [_, _], h => simp at h
  | [_, _, _], h => simp at h
  | [p, q, r, t], h => simp at h; exact ⟨p, q, r, t, rfl, h⟩
  | _ :: _ :: _ :: _ :: _ :: _, h => simp at h
theorem adL_ok {l : List (Int × Int)} {m : Int} (h : adL l = (m, 0)) :
    ∃ a b c d : Int, l = [(a, 0), (b, 0), (c, 0), (d, 0)] ∧ (0 ≤ a ∧ a ≤ 255) ∧ (0 ≤ b ∧ b ≤ 255) ∧ (0 ≤ c ∧ c ≤ 255) ∧ (0 ≤ d ∧ d ≤ 255) ∧ m = 16777216 * a + 65536 * b + 256 * c + d := by
  match l, h with
  | [], h => simp [adL] at h
  | [_], h => simp [adL] at h
  | [_, _], h => simp [adL] at h
  | [_, _, _], h => simp [adL] at h
  | [⟨a, ea⟩, ⟨b, eb⟩, ⟨c, ec⟩, ⟨d, ed⟩], h =>
    rw [show adL [(a, ea), (b, eb), (c, ec), (d, ed)] = if ptB (a, ea) && ptB (b, eb) && ptB (c, ec) && ptB (d, ed) then (16777216 * a + 65536 * b + 256 * c + d, 0) else (0, 1) from rfl] at h
    split at h
    · rename_i hp
      simp only [ptB, Bool.and_eq_true, beq_iff_eq, decide_eq_true_eq] at hp
      obtain ⟨⟨⟨⟨⟨rfl, h1⟩, h2⟩, ⟨⟨rfl, h3⟩, h4⟩⟩, ⟨⟨rfl, h5⟩, h6⟩⟩, ⟨⟨rfl, h7⟩, h8⟩⟩ := hp
      rw [Prod.mk.injEq] at h
      exact ⟨a, b, c, d, rfl, ⟨h1, h2⟩, ⟨h3, h4⟩, ⟨h5, h6⟩, ⟨h7, h8⟩, h.1.symm⟩
    · rw [Prod.mk.injEq] at h; exact absurd h.2 (by omega)
  | _ :: _ :: _ :: _ :: _ :: _, h => simp [adL] at h
/-- What Address accepts is what Text writes. -/
theorem ad_ok {s : ByteArray} {m : Int} (h : adS s = (m, 0)) : txS m = (s, 0) := by
  rw [adS_cut] at h
  obtain ⟨a, b, c, d, hl, ha, hb, hc, hd, hm⟩ := adL_ok h
  obtain ⟨p, q, r, t, hp, e1, e2, e3, e4⟩ := map4 hl
  have hj := joinC_cutL 46 s.data.toList
  rw [hp, parI_inv e1, parI_inv e2, parI_inv e3, parI_inv e4] at hj
  rw [txS_yes (by omega)]
  refine congrArg (·, 0) (ba_ext ?_)
  rw [txP_data, ← hj, show m / 16777216 = a by omega, show m / 65536 % 256 = b by omega, show m / 256 % 256 = c by omega, show m % 256 = d by omega]
  simp only [joinC]
/-! ### the texts of rules -/
def wd (al : Bool) : List UInt8 := if al then [97, 108, 108, 111, 119] else [100, 101, 110, 121]
theorem wordB_data (al : Bool) : (wordB al).data.toList = wd al ++ [32] := by cases al <;> rfl
theorem wd_free (al : Bool) : (32 : UInt8) ∉ wd al := by cases al <;> decide
theorem fmP_data (r : Rule) : (fmP r).data.toList = wd r.al ++ 32 :: (((txP r.ad 4).data.toList ++ 47 :: Lib.itoa r.bi) ++ 32 :: (Lib.itoa r.lo ++ 45 :: Lib.itoa r.hi)) := by
  have e : fmP r = wordB r.al ++ txP r.ad 4 ++ ⟨#[47]⟩ ++ itB r.bi ++ ⟨#[32]⟩ ++ itB r.lo ++ ⟨#[45]⟩ ++ itB r.hi := rfl
  rw [e]
  simp only [Joins.data_append, wordB_data]
  simp only [itB, List.append_assoc, List.cons_append, List.nil_append]
theorem ct_hit {c : UInt8} {s : ByteArray} {q r : List UInt8} (h : s.data.toList = q ++ c :: r) (hq : c ∉ q) : ct1 c s = ⟨q.toArray⟩ ∧ ct2 c s = ⟨r.toArray⟩ := by
  unfold ct1 ct2
  rw [h, cut_byte_hit r hq]
  exact ⟨rfl, rfl⟩
theorem isAl_wd (al : Bool) : isAl ⟨(wd al).toArray⟩ = al := by unfold isAl; rw [Lib.toList_data]; cases al <;> rfl
theorem txP_mk (n : Int) : (⟨(txP n 4).data.toList.toArray⟩ : ByteArray) = txP n 4 := by
  apply ba_ext; simp
theorem fm_ck {r : Rule} {s : ByteArray} (h : fmS r = (s, 0)) : r.ck = 0 ∧ s = fmP r := by
  unfold fmS at h
  split at h
  · rename_i hc; rw [Prod.mk.injEq] at h; exact ⟨hc, h.1.symm⟩
  · rename_i hc; rw [Prod.mk.injEq] at h; exact absurd h.2 hc
/-- Parse undoes Format. -/
theorem pn_fm {r : Rule} {s : ByteArray} (h : fmS r = (s, 0)) : pnS s = (r, 0) := by
  obtain ⟨hc, hs⟩ := fm_ck h
  obtain ⟨h1, h2, h3, h4, h5, h6, h7, h8⟩ := ck_rng9 hc
  have hd := fmP_data r
  rw [← hs] at hd
  obtain ⟨e1, e2⟩ := ct_hit hd (wd_free r.al)
  have hd2 : (ct2 32 s).data.toList = ((txP r.ad 4).data.toList ++ 47 :: Lib.itoa r.bi) ++ 32 :: (Lib.itoa r.lo ++ 45 :: Lib.itoa r.hi) := by rw [e2]
  obtain ⟨e3, e4⟩ := ct_hit hd2 (by
    simp only [List.mem_append, List.mem_cons, not_or]
    exact ⟨txP_free d32 (by decide) h1, by decide, itoa_free d32 h3⟩)
  have hd3 : (ct1 32 (ct2 32 s)).data.toList = (txP r.ad 4).data.toList ++ 47 :: Lib.itoa r.bi := by rw [e3]
  obtain ⟨e5, e6⟩ := ct_hit hd3 (txP_free d47 (by decide) h1)
  have hd4 : (ct2 32 (ct2 32 s)).data.toList = Lib.itoa r.lo ++ 45 :: Lib.itoa r.hi := by rw [e4]
  obtain ⟨e7, e8⟩ := ct_hit hd4 (itoa_free d45 (by omega))
  unfold pnS
  rw [e5, e6, e7, e8, e1, isAl_wd, txP_mk, ad_tx ⟨h1, h2⟩]
  have f1 : parI (⟨(Lib.itoa r.bi).toArray⟩ : ByteArray).data.toList = (r.bi, 0) := parI_itoa (by omega) (by omega)
  have f2 : parI (⟨(Lib.itoa r.lo).toArray⟩ : ByteArray).data.toList = (r.lo, 0) := parI_itoa (by omega) (by omega)
  have f3 : parI (⟨(Lib.itoa r.hi).toArray⟩ : ByteArray).data.toList = (r.hi, 0) := parI_itoa (by omega) (by omega)
  rw [f1, f2, f3]
  obtain ⟨al, ad, bi, lo, hi⟩ := r
  exact pn4 rfl h (by simp)
/-- The reference's Parse. -/
def rpnS (s : ByteArray) : Rule × Int :=
  match cutL 32 s.data.toList with
  | [w, n, p] => match cutL 47 n, cutL 45 p with
    | [a, b], [c, d] => pnE (w == [97, 108, 108, 111, 119]) (adS ⟨a.toArray⟩) (parI b) (parI c) (parI d) s
    | _, _ => (⟨false, 0, 0, 0, 0⟩, 1)
  | _ => (⟨false, 0, 0, 0, 0⟩, 1)
theorem rpn_yes {s : ByteArray} {w n p a b c d : List UInt8} (h : cutL 32 s.data.toList = [w, n, p]) (h1 : cutL 47 n = [a, b]) (h2 : cutL 45 p = [c, d]) :
    rpnS s = pnE (w == [97, 108, 108, 111, 119]) (adS ⟨a.toArray⟩) (parI b) (parI c) (parI d) s := by
  unfold rpnS; rw [h]; simp only [h1, h2]
theorem rpn_no3 {s : ByteArray} (h : (cutL 32 s.data.toList).length ≠ 3) : rpnS s = (⟨false, 0, 0, 0, 0⟩, 1) := by
  unfold rpnS
  split
  · rename_i e; rw [e] at h; exact absurd rfl h
  · rfl
theorem rpn_no2 {s : ByteArray} {w n p : List UInt8} (h : cutL 32 s.data.toList = [w, n, p]) (h1 : (cutL 47 n).length ≠ 2 ∨ (cutL 45 p).length ≠ 2) : rpnS s = (⟨false, 0, 0, 0, 0⟩, 1) := by
  unfold rpnS; rw [h]
  simp only
  split
  · rename_i e1 e2; rw [e1, e2] at h1; simp at h1
  · rfl
theorem rpn_fm {r : Rule} {s : ByteArray} (h : fmS r = (s, 0)) : rpnS s = (r, 0) := by
  obtain ⟨hc, hs⟩ := fm_ck h
  obtain ⟨h1, h2, h3, h4, h5, h6, h7, h8⟩ := ck_rng9 hc
  have hd := fmP_data r
  rw [← hs] at hd
  have g1 : (32 : UInt8) ∉ (txP r.ad 4).data.toList ++ 47 :: Lib.itoa r.bi := by
    simp only [List.mem_append, List.mem_cons, not_or]
    exact ⟨txP_free d32 (by decide) h1, by decide, itoa_free d32 h3⟩
  have g2 : (32 : UInt8) ∉ Lib.itoa r.lo ++ 45 :: Lib.itoa r.hi := by
    simp only [List.mem_append, List.mem_cons, not_or]
    exact ⟨itoa_free d32 (by omega), by decide, itoa_free d32 (by omega)⟩
  have c1 : cutL 32 s.data.toList = [wd r.al, (txP r.ad 4).data.toList ++ 47 :: Lib.itoa r.bi, Lib.itoa r.lo ++ 45 :: Lib.itoa r.hi] := by
    rw [hd, cutL_hit _ (wd_free r.al), cutL_hit _ g1, cutL_no g2]
  have c2 : cutL 47 ((txP r.ad 4).data.toList ++ 47 :: Lib.itoa r.bi) = [(txP r.ad 4).data.toList, Lib.itoa r.bi] := by
    rw [cutL_hit _ (txP_free d47 (by decide) h1), cutL_no (itoa_free d47 h3)]
  have c3 : cutL 45 (Lib.itoa r.lo ++ 45 :: Lib.itoa r.hi) = [Lib.itoa r.lo, Lib.itoa r.hi] := by
    rw [cutL_hit _ (itoa_free d45 (by omega)), cutL_no (itoa_free d45 (by omega))]
  rw [rpn_yes c1 c2 c3, txP_mk, ad_tx ⟨h1, h2⟩, parI_itoa (by omega) (by omega), parI_itoa (by omega) (by omega), parI_itoa (by omega) (by omega)]
  have hw : (wd r.al == [97, 108, 108, 111, 119]) = r.al := by cases r.al <;> rfl
  rw [hw]
  obtain ⟨al, ad, bi, lo, hi⟩ := r
  exact pn4 rfl h (by simp)
theorem pnE_no {al : Bool} {A B C D : Int × Int} {s : ByteArray} (h : ∀ r, fmS r ≠ (s, 0)) : pnE al A B C D s = (⟨false, 0, 0, 0, 0⟩, 1) := by
  unfold pnE
  split
  · split
    · rename_i h2
      obtain ⟨h3, h4⟩ := h2
      exfalso
      refine h ⟨al, A.1, B.1, C.1, D.1⟩ (Prod.ext (ba_ext ?_) h3)
      have := eq_of_beq h4
      rw [Lib.toList_data, Lib.toList_data] at this
      exact this
    · rfl
  · rfl
/-- Both Parse answer alike. -/
theorem pn_eq (s : ByteArray) : rpnS s = pnS s := by
  by_cases h : ∃ r, fmS r = (s, 0)
  · obtain ⟨r, hr⟩ := h
    rw [rpn_fm hr, pn_fm hr]
  · have hn : ∀ r, fmS r ≠ (s, 0) := fun r hr => h ⟨r, hr⟩
    have h1 : pnS s = (⟨false, 0, 0, 0, 0⟩, 1) := by unfold pnS; exact pnE_no hn
    rw [h1]
    unfold rpnS
    split
    · split
      · exact pnE_no hn
      · rfl
    · rfl
/-- What Parse accepts is what Format writes. -/
theorem pn_ok {s : ByteArray} {r : Rule} (h : pnS s = (r, 0)) : fmS r = (s, 0) := by
  by_cases hx : ∃ r, fmS r = (s, 0)
  · obtain ⟨q, hq⟩ := hx
    have := pn_fm hq
    rw [h, Prod.mk.injEq] at this
    rw [this.1]; exact hq
  · have hn : ∀ r, fmS r ≠ (s, 0) := fun r hr => hx ⟨r, hr⟩
    have h1 : pnS s = (⟨false, 0, 0, 0, 0⟩, 1) := by unfold pnS; exact pnE_no hn
    rw [h1, Prod.mk.injEq] at h
    exact absurd h.2 (by omega)
end Go.Proofs.YtpkekfhnpcjgkaaDoor
