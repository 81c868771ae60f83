/- Plain: schedules: their texts, what they match, the next time, the times between. -/
import Derived.Test.YtnagnaekcphpiaaDoorCA
namespace Go.Proofs.YtnagnaekcphpiaaDoor
open Go.Lib

structure Cr where
  mi : Nat
  ho : Nat
  da : Nat
def okC (c : Cr) : Bool := decide (0 < c.mi) && decide (c.mi < 2 ^ 60) && (decide (0 < c.ho) && decide (c.ho < 2 ^ 24)) && (decide (0 < c.da) && decide (c.da < 2 ^ 7))
def ckC (c : Cr) : Int := if okC c = true then 0 else 2
theorem okC_iff (c : Cr) : okC c = true ↔ (0 < c.mi ∧ c.mi < 2 ^ 60) ∧ (0 < c.ho ∧ c.ho < 2 ^ 24) ∧ (0 < c.da ∧ c.da < 2 ^ 7) := by
  unfold okC; simp only [Bool.and_eq_true, decide_eq_true_eq]; exact and_assoc
theorem ckC_ok {c : Cr} (h : okC c = true) : ckC c = 0 := by unfold ckC; rw [if_pos h]
theorem ckC_no {c : Cr} (h : okC c = false) : ckC c = 2 := by unfold ckC; rw [if_neg (by rw [h]; exact Bool.false_ne_true)]
/-! ### Parse -/
def foldW (size : Nat) (w : ByteArray) : Nat × Bool := foldS size (partsS w.data.toList).1 0
def parseS (s : ByteArray) : Cr × Int :=
  if 4000 < s.size then (⟨0, 0, 0⟩, 3) else
  match pcs 32 s with
  | [a, b, c] => if ((partsS a.data.toList).2 && (partsS b.data.toList).2 && (partsS c.data.toList).2) = true then
      (if ((foldW 60 a).2 && (foldW 24 b).2 && (foldW 7 c).2) = true then (⟨(foldW 60 a).1, (foldW 24 b).1, (foldW 7 c).1⟩, 0) else (⟨0, 0, 0⟩, 2)) else (⟨0, 0, 0⟩, 1)
  | _ => (⟨0, 0, 0⟩, 1)
theorem parse_long {s : ByteArray} (h : 4000 < s.size) : parseS s = (⟨0, 0, 0⟩, 3) := by unfold parseS; rw [if_pos h]
theorem parse_cnt {s : ByteArray} {L : List ByteArray} (h0 : ¬ 4000 < s.size) (h : pcs 32 s = L) (h3 : L.length ≠ 3) : parseS s = (⟨0, 0, 0⟩, 1) := by
  unfold parseS
  rw [if_neg h0, h]
  match L, h3 with
  | [], _ => rfl
  | [_], _ => rfl
  | [_, _], _ => rfl
  | [_, _, _], h3 => exact absurd rfl h3
  | _ :: _ :: _ :: _ :: _, _ => rfl
theorem parse_syn {s a b c : ByteArray} (h0 : ¬ 4000 < s.size) (h : pcs 32 s = [a, b, c]) (h3 : ((partsS a.data.toList).2 && (partsS b.data.toList).2 && (partsS c.data.toList).2) = false) : parseS s = (⟨0, 0, 0⟩, 1) := by
  unfold parseS; rw [if_neg h0, h]; simp only [h3]; rfl
theorem parse_rng {s a b c : ByteArray} (h0 : ¬ 4000 < s.size) (h : pcs 32 s = [a, b, c]) (h3 : ((partsS a.data.toList).2 && (partsS b.data.toList).2 && (partsS c.data.toList).2) = true) (h4 : ((foldW 60 a).2 && (foldW 24 b).2 && (foldW 7 c).2) = false) : parseS s = (⟨0, 0, 0⟩, 2) := by
  unfold parseS; rw [if_neg h0, h]; simp only [h3, h4]; rfl
theorem parse_ok {s a b c : ByteArray} (h0 : ¬ 4000 < s.size) (h : pcs 32 s = [a, b, c]) (h3 : ((partsS a.data.toList).2 && (partsS b.data.toList).2 && (partsS c.data.toList).2) = true) (h4 : ((foldW 60 a).2 && (foldW 24 b).2 && (foldW 7 c).2) = true) : parseS s = (⟨(foldW 60 a).1, (foldW 24 b).1, (foldW 7 c).1⟩, 0) := by
  unfold parseS; rw [if_neg h0, h]; simp only [h3, h4]; rfl
/-! ### Format -/
def bitsL (size set : Nat) : List Nat := (List.range size).filter fun n => set.testBit n
def numT (n : Nat) : List UInt8 := Lib.itoa (n : Int)
def fieldW (size set : Nat) : List UInt8 := if set = 2 ^ size - 1 then [42] else joinC 44 ((bitsL size set).map numT)
def fmtS (c : Cr) : ByteArray × Int := if okC c = true then (⟨(joinC 32 [fieldW 60 c.mi, fieldW 24 c.ho, fieldW 7 c.da]).toArray⟩, 0) else (⟨#[]⟩, 2)
theorem small_num : ∀ n : Fin 60, numS (numT n.val) = (n.val, true) ∧ (numT n.val).all isDg = true ∧ (numT n.val).length ≤ 2 := by decide +kernel
theorem joinC_ln (c : UInt8) (k : Nat) : ∀ (l : List (List UInt8)), (∀ x ∈ l, x.length ≤ k) → (joinC c l).length ≤ (k + 1) * l.length
  | [], _ => by simp [joinC]
  | [p], h => by have := h p (by simp); simp only [joinC, List.length_cons, List.length_nil]; omega
  | p :: q :: r, h => by
    have h1 := h p (by simp)
    have h2 := joinC_ln c k (q :: r) fun x hx => h x (List.mem_cons_of_mem _ hx)
    rw [joinC, List.length_append, List.length_cons]
    have : (k + 1) * (p :: q :: r).length = (k + 1) * (q :: r).length + (k + 1) := by rw [List.length_cons (a := p), Nat.mul_succ]
    omega
theorem joinC_mem {k c : UInt8} : ∀ (L : List (List UInt8)), c ∈ joinC k L → c = k ∨ ∃ q ∈ L, c ∈ q
  | [], h => by simp [joinC] at h
  | [p], h => .inr ⟨p, by simp, h⟩
  | p :: q :: r, h => by
    rw [joinC] at h
    rcases List.mem_append.1 h with h | h
    · exact .inr ⟨p, by simp, h⟩
    · rcases List.mem_cons.1 h with h | h
      · exact .inl h
      · rcases joinC_mem (q :: r) h with h | ⟨x, hx, h⟩
        · exact .inl h
        · exact .inr ⟨x, List.mem_cons_of_mem _ hx, h⟩
theorem bits_lt {size set n : Nat} (h : n ∈ bitsL size set) : n < size := List.mem_range.1 (List.mem_filter.1 h).1
theorem num_of {size set n : Nat} (hs : size ≤ 60) (h : n ∈ bitsL size set) : numS (numT n) = (n, true) ∧ (numT n).all isDg = true ∧ (numT n).length ≤ 2 := small_num ⟨n, by have := bits_lt h; omega⟩
theorem field_mem {size set : Nat} (hs : size ≤ 60) {c : UInt8} (h : c ∈ fieldW size set) : c = 42 ∨ c = 44 ∨ isDg c = true := by
  unfold fieldW at h
  split at h
  · exact .inl (List.mem_singleton.1 h)
  · rcases joinC_mem _ h with h | ⟨q, hq, h⟩
    · exact .inr (.inl h)
    · obtain ⟨n, hn, rfl⟩ := List.mem_map.1 hq
      exact .inr (.inr (List.all_eq_true.1 (num_of hs hn).2.1 c h))
theorem field_len {size set : Nat} (hs : size ≤ 60) : (fieldW size set).length ≤ 180 := by
  unfold fieldW
  split
  · simp
  · have := joinC_ln 44 2 ((bitsL size set).map numT) fun x hx => by
      obtain ⟨n, hn, rfl⟩ := List.mem_map.1 hx
      exact (num_of hs hn).2.2
    have h2 : (bitsL size set).length ≤ size := by unfold bitsL; have := List.length_filter_le (fun n => set.testBit n) (List.range size); rwa [List.length_range] at this
    rw [List.length_map] at this
    omega
theorem foldl_bit : ∀ (ns : List Nat) (acc k : Nat), (ns.foldl (fun a n => a ||| 2 ^ n) acc).testBit k = (acc.testBit k || decide (k ∈ ns))
  | [], acc, k => by simp
  | n :: r, acc, k => by
    rw [List.foldl_cons, foldl_bit r, Nat.testBit_or, Nat.testBit_two_pow]
    by_cases h : n = k
    · subst h; simp
    · have h' : ¬ k = n := fun e => h e.symm
      simp [h, h']
theorem fold_nums {size : Nat} : ∀ (ns : List Nat) (acc : Nat), (∀ n ∈ ns, n < size) → foldS size (ns.map fun n => ⟨n, n, 1, false⟩) acc = (ns.foldl (fun a n => a ||| 2 ^ n) acc, true)
  | [], _, _ => rfl
  | n :: r, acc, h => by
    have hn := h n (by simp)
    have e : setS ⟨n, n, 1, false⟩ size = (2 ^ n, true) := by
      unfold setS
      have hb : setBad ⟨n, n, 1, false⟩ size = false := by
        unfold setBad
        simp only [Bool.false_and, Bool.false_or, Bool.false_eq_true, if_false, Bool.or_eq_false_iff, decide_eq_false_iff_not]
        omega
      rw [hb, if_neg Bool.false_ne_true]
      show (runS 1 n (n + 1 - n) n 0, true) = _
      rw [runS_step (Nat.le_refl 1) (Nat.le_refl n), runS_stop (by omega), Nat.zero_or]
    rw [List.map_cons, foldS, e, if_pos rfl, fold_nums r _ fun m hm => h m (List.mem_cons_of_mem _ hm), List.foldl_cons]
theorem fold_bits {size set : Nat} (h : set < 2 ^ size) : (bitsL size set).foldl (fun a n => a ||| 2 ^ n) 0 = set := by
  apply Nat.eq_of_testBit_eq
  intro k
  rw [foldl_bit, Nat.zero_testBit, Bool.false_or]
  unfold bitsL
  rw [Bool.eq_iff_iff, decide_eq_true_eq, List.mem_filter, List.mem_range]
  refine ⟨fun hk => hk.2, fun hk => ⟨?_, hk⟩⟩
  rcases Nat.lt_or_ge k size with h1 | h1
  · exact h1
  · rw [Nat.testBit_lt_two_pow (Nat.lt_of_lt_of_le h (Nat.pow_le_pow_right (by omega) h1))] at hk
    cases hk
theorem bits_ne {size set : Nat} (h : set < 2 ^ size) (h0 : 0 < set) : bitsL size set ≠ [] := by
  intro e
  have := fold_bits h
  rw [e] at this
  simp at this
  omega
theorem field_parts {size set : Nat} (hs : size ≤ 60) (h1 : 1 ≤ size) (h : set < 2 ^ size) (h0 : 0 < set) : (partsS (fieldW size set)).2 = true ∧ foldS size (partsS (fieldW size set)).1 0 = (set, true) := by
  unfold fieldW
  split
  · rename_i he
    unfold partsS
    rw [if_pos rfl]
    refine ⟨rfl, ?_⟩
    have e := star_field (st := 1) h1 0
    have hb : rbad (0, size - 1, 1) size = false := by
      unfold rbad
      simp only [Bool.or_eq_false_iff, decide_eq_false_iff_not]
      omega
    rw [hb, if_neg Bool.false_ne_true] at e
    rw [← e, he]
    congr 1
    -- all the bits below size
    have key : ∀ (f n acc k : Nat), f = size - n → n ≤ size → (runS 1 (size - 1) f n acc).testBit k = (acc.testBit k || decide (n ≤ k ∧ k < size)) := by
      intro f
      induction f with
      | zero =>
        intro n acc k hf hn
        have : ¬ (n ≤ k ∧ k < size) := by omega
        rw [runS, decide_eq_false this, Bool.or_false]
      | succ f ih =>
        intro n acc k hf hn
        rw [runS, if_pos (by omega), ih (n + 1) _ k (by omega) (by omega), Nat.testBit_or, Nat.testBit_two_pow]
        by_cases hk : n = k
        · subst hk
          have h2 : n ≤ n ∧ n < size := by omega
          simp [h2]
        · have : (n + 1 ≤ k ∧ k < size) ↔ (n ≤ k ∧ k < size) := by omega
          simp [hk, this]
    apply Nat.eq_of_testBit_eq
    intro k
    rw [key _ 0 0 k (by omega) (by omega), Nat.zero_testBit, Bool.false_or, Nat.testBit_two_pow_sub_one]
    simp
  · rename_i he
    have hne := bits_ne h h0
    have hcut : cutL 44 (joinC 44 ((bitsL size set).map numT)) = (bitsL size set).map numT := by
      refine cutL_join 44 _ (by simpa using hne) fun q hq hm => ?_
      obtain ⟨n, hn, rfl⟩ := List.mem_map.1 hq
      have := List.all_eq_true.1 (num_of hs hn).2.1 _ hm
      exact absurd this (by decide)
    have hno : ∀ c r, joinC 44 ((bitsL size set).map numT) = c :: r → c ≠ 42 := by
      intro c r e hc
      have : c ∈ joinC 44 ((bitsL size set).map numT) := by rw [e]; simp
      rcases joinC_mem _ this with h | ⟨q, hq, h⟩
      · rw [h] at hc; exact absurd hc (by decide)
      · obtain ⟨n, hn, rfl⟩ := List.mem_map.1 hq
        have := List.all_eq_true.1 (num_of hs hn).2.1 _ h
        rw [hc] at this
        exact absurd this (by decide)
    have hpc : ∀ n ∈ bitsL size set, pieceB (numT n) = true ∧ pieceP (numT n) = ⟨n, n, 1, false⟩ := by
      intro n hn
      have h3 := num_of hs hn
      have h45 : (45 : UInt8) ∉ numT n := fun hm => absurd (List.all_eq_true.1 h3.2.1 _ hm) (by decide)
      unfold pieceB pieceP
      rw [(cut_no h45).1, (cut_no h45).2, h3.1]
      exact ⟨rfl, rfl⟩
    unfold partsS
    rw [if_neg (fun e => hno _ _ e rfl), if_neg (fun hp => by obtain ⟨r, e⟩ := star_pre hp; exact hno _ _ e rfl), hcut, if_pos]
    · refine ⟨rfl, ?_⟩
      rw [List.map_map, List.map_congr_left (g := fun n => ⟨n, n, 1, false⟩) fun n hn => (hpc n hn).2, fold_nums _ _ fun n hn => bits_lt hn, fold_bits h]
    · rw [List.all_eq_true]
      intro q hq
      obtain ⟨n, hn, rfl⟩ := List.mem_map.1 hq
      exact (hpc n hn).1
/-- Parse of Format is the schedule. -/
theorem parse_fmt {c : Cr} (h : okC c = true) : parseS (fmtS c).1 = (c, 0) ∧ (fmtS c).2 = 0 ∧ (fmtS c).1.size ≤ 4000 := by
  obtain ⟨⟨a0, a1⟩, ⟨b0, b1⟩, c0, c1⟩ := (okC_iff c).1 h
  have hA := field_parts (size := 60) (by omega) (by omega) a1 a0
  have hB := field_parts (size := 24) (by omega) (by omega) b1 b0
  have hC := field_parts (size := 7) (by omega) (by omega) c1 c0
  unfold fmtS
  rw [if_pos h]
  have hno : ∀ (size set : Nat), size ≤ 60 → (32 : UInt8) ∉ fieldW size set := fun size set hs hm => by
    rcases field_mem hs hm with h | h | h
    · exact absurd h (by decide)
    · exact absurd h (by decide)
    · exact absurd h (by decide)
  have hp : pcs 32 ⟨(joinC 32 [fieldW 60 c.mi, fieldW 24 c.ho, fieldW 7 c.da]).toArray⟩ = [⟨(fieldW 60 c.mi).toArray⟩, ⟨(fieldW 24 c.ho).toArray⟩, ⟨(fieldW 7 c.da).toArray⟩] := by
    unfold pcs
    show (cutL 32 (joinC 32 [fieldW 60 c.mi, fieldW 24 c.ho, fieldW 7 c.da])).map _ = _
    rw [cutL_join 32 _ (by simp) (fun q hq => by
      rcases List.mem_cons.1 hq with rfl | hq
      · exact hno _ _ (by omega)
      rcases List.mem_cons.1 hq with rfl | hq
      · exact hno _ _ (by omega)
      rw [List.mem_singleton.1 hq]
      exact hno _ _ (by omega))]
    rfl
  have hsz : (⟨(joinC 32 [fieldW 60 c.mi, fieldW 24 c.ho, fieldW 7 c.da]).toArray⟩ : ByteArray).size ≤ 4000 := by
    have h1 := field_len (size := 60) (set := c.mi) (by omega)
    have h2 := field_len (size := 24) (set := c.ho) (by omega)
    have h3 := field_len (size := 7) (set := c.da) (by omega)
    show (joinC 32 [fieldW 60 c.mi, fieldW 24 c.ho, fieldW 7 c.da]).toArray.size ≤ 4000
    simp only [joinC, List.size_toArray, List.length_append, List.length_cons]
    omega
  refine ⟨?_, rfl, hsz⟩
  rw [parse_ok (by omega) hp (by show ((partsS (fieldW 60 c.mi)).2 && (partsS (fieldW 24 c.ho)).2 && (partsS (fieldW 7 c.da)).2) = true; rw [hA.1, hB.1, hC.1]; rfl)
    (by show ((foldS 60 (partsS (fieldW 60 c.mi)).1 0).2 && (foldS 24 (partsS (fieldW 24 c.ho)).1 0).2 && (foldS 7 (partsS (fieldW 7 c.da)).1 0).2) = true; rw [hA.2, hB.2, hC.2]; rfl)]
  show ((⟨(foldS 60 (partsS (fieldW 60 c.mi)).1 0).1, (foldS 24 (partsS (fieldW 24 c.ho)).1 0).1, (foldS 7 (partsS (fieldW 7 c.da)).1 0).1⟩ : Cr), (0 : Int)) = _
  rw [hA.2, hB.2, hC.2]
/-- The number of a set's numbers, and the full set. -/
theorem bits_full {size set : Nat} (h : set < 2 ^ size) : (bitsL size set).length = size ↔ set = 2 ^ size - 1 := by
  constructor
  · intro hl
    have hall : ∀ k, k < size → set.testBit k = true := by
      intro k hk
      have : (List.range size).filter (fun n => set.testBit n) = List.range size := by
        refine List.Sublist.eq_of_length (List.filter_sublist) ?_
        rw [List.length_range]; exact hl
      have h2 : k ∈ (List.range size).filter (fun n => set.testBit n) := by rw [this]; exact List.mem_range.2 hk
      exact (List.mem_filter.1 h2).2
    apply Nat.eq_of_testBit_eq
    intro k
    rw [Nat.testBit_two_pow_sub_one]
    rcases Nat.lt_or_ge k size with h1 | h1
    · rw [hall k h1, decide_eq_true h1]
    · rw [Nat.testBit_lt_two_pow (Nat.lt_of_lt_of_le h (Nat.pow_le_pow_right (by omega) h1)), decide_eq_false (by omega)]
  · intro e
    subst e
    unfold bitsL
    rw [List.filter_eq_self.2 (fun k hk => by rw [Nat.testBit_two_pow_sub_one]; exact decide_eq_true (List.mem_range.1 hk)), List.length_range]
/-! ### what a schedule matches -/
def isC (c : Cr) (t : Nat) : Bool := c.mi.testBit (t % 60) && c.ho.testBit (t / 60 % 24) && c.da.testBit (t / 1440 % 7)
def matC (c : Cr) (t : Int) : Bool := okC c && (decide (0 ≤ t) && decide (t ≤ 1073741824)) && isC c t.toNat
theorem isC_week (c : Cr) (t : Nat) : isC c (t + 10080) = isC c t := by
  unfold isC
  rw [show (t + 10080) % 60 = t % 60 from by omega, show (t + 10080) / 60 % 24 = t / 60 % 24 from by omega, show (t + 10080) / 1440 % 7 = t / 1440 % 7 from by omega]
def nxtL (c : Cr) (lo hi : Nat) : Option Nat := (List.range (hi + 1)).find? fun t => decide (lo ≤ t) && isC c t
theorem nxt_hit {c : Cr} {lo hi t : Nat} (h1 : lo ≤ t) (h2 : t ≤ hi) (h3 : isC c t = true) (h4 : ∀ u, lo ≤ u → u < t → isC c u = false) : nxtL c lo hi = some t := by
  unfold nxtL
  rw [List.find?_range_eq_some]
  refine ⟨by rw [decide_eq_true h1, h3]; rfl, List.mem_range.2 (by omega), fun j hj => ?_⟩
  by_cases hl : lo ≤ j
  · rw [h4 j hl hj, Bool.and_false]; rfl
  · rw [decide_eq_false hl]; rfl
theorem nxt_none {c : Cr} {lo hi : Nat} (h4 : ∀ u, lo ≤ u → u ≤ hi → isC c u = false) : nxtL c lo hi = none := by
  unfold nxtL
  rw [List.find?_eq_none]
  intro j hj
  have := List.mem_range.1 hj
  by_cases hl : lo ≤ j
  · rw [h4 j hl (by omega), Bool.and_false]; exact Bool.false_ne_true
  · rw [decide_eq_false hl]; exact Bool.false_ne_true
theorem nxt_some {c : Cr} {lo hi t : Nat} (h : nxtL c lo hi = some t) : lo ≤ t ∧ t ≤ hi ∧ isC c t = true ∧ ∀ u, lo ≤ u → u < t → isC c u = false := by
  unfold nxtL at h
  rw [List.find?_range_eq_some] at h
  obtain ⟨h1, h2, h3⟩ := h
  rw [Bool.and_eq_true, decide_eq_true_eq] at h1
  refine ⟨h1.1, by have := List.mem_range.1 h2; omega, h1.2, fun u hu hut => ?_⟩
  have := h3 u hut
  rw [decide_eq_true hu, Bool.true_and] at this
  simpa using this
theorem nxt_no {c : Cr} {lo hi : Nat} (h : nxtL c lo hi = none) : ∀ u, lo ≤ u → u ≤ hi → isC c u = false := by
  intro u hu hh
  unfold nxtL at h
  rw [List.find?_eq_none] at h
  have := h u (List.mem_range.2 (by omega))
  rw [decide_eq_true hu, Bool.true_and] at this
  simpa using this
/-- Where Next looks last. -/
def endN (after : Int) : Int := if after + 10080 ≤ 1073741824 then after + 10080 else 1073741824
def nxS (c : Cr) (after : Int) : Int × Int :=
  if okC c = false then (0, 2) else if after < -1 ∨ 1073741824 < after then (0, 2) else
  match nxtL c (after + 1).toNat (endN after).toNat with
  | some t => ((t : Int), 0)
  | none => (0, 5)
theorem nx_bad {c : Cr} {a : Int} (h : okC c = false) : nxS c a = (0, 2) := by unfold nxS; rw [if_pos h]
theorem nx_rng {c : Cr} {a : Int} (h : okC c = true) (h1 : a < -1 ∨ 1073741824 < a) : nxS c a = (0, 2) := by unfold nxS; rw [if_neg (by rw [h]; exact fun e => by cases e), if_pos h1]
theorem nx_hit {c : Cr} {a : Int} {t : Nat} (h : okC c = true) (h0 : ¬ (a < -1 ∨ 1073741824 < a)) (h1 : a + 1 ≤ t) (h2 : (t : Int) ≤ endN a) (h3 : isC c t = true) (h4 : ∀ u : Nat, a + 1 ≤ u → u < t → isC c u = false) : nxS c a = ((t : Int), 0) := by
  unfold nxS
  rw [if_neg (by rw [h]; exact fun e => by cases e), if_neg h0, nxt_hit (t := t) (by omega) (by omega) h3 fun u hu hut => h4 u (by omega) hut]
theorem endN_nn {a : Int} (h0 : ¬ (a < -1 ∨ 1073741824 < a)) : 0 ≤ endN a := by unfold endN; split <;> omega
theorem nx_none {c : Cr} {a : Int} (h : okC c = true) (h0 : ¬ (a < -1 ∨ 1073741824 < a)) (h4 : ∀ u : Nat, a + 1 ≤ u → (u : Int) ≤ endN a → isC c u = false) : nxS c a = (0, 5) := by
  have he := endN_nn h0
  unfold nxS
  rw [if_neg (by rw [h]; exact fun e => by cases e), if_neg h0, nxt_none fun u hu hh => h4 u (by omega) (by omega)]
/-- What Next says. -/
theorem nx_cases (c : Cr) (a : Int) : (nxS c a = (0, 2) ∧ (okC c = false ∨ a < -1 ∨ 1073741824 < a)) ∨ (okC c = true ∧ -1 ≤ a ∧ a ≤ 1073741824 ∧
    ((∃ t : Nat, nxS c a = ((t : Int), 0) ∧ a < t ∧ (t : Int) ≤ endN a ∧ isC c t = true ∧ ∀ u : Nat, a < u → u < t → isC c u = false) ∨ (nxS c a = (0, 5) ∧ ∀ u : Nat, a < u → (u : Int) ≤ endN a → isC c u = false))) := by
  cases h : okC c with
  | false => exact .inl ⟨nx_bad h, .inl rfl⟩
  | true =>
    by_cases h0 : a < -1 ∨ 1073741824 < a
    · exact .inl ⟨nx_rng h h0, .inr h0⟩
    · have he : 0 ≤ endN a := by unfold endN; split <;> omega
      refine .inr ⟨rfl, by omega, by omega, ?_⟩
      unfold nxS
      rw [if_neg (by rw [h]; exact fun e => by cases e), if_neg h0]
      cases hn : nxtL c (a + 1).toNat (endN a).toNat with
      | some t =>
        obtain ⟨g1, g2, g3, g4⟩ := nxt_some hn
        exact .inl ⟨t, rfl, by omega, by omega, g3, fun u hu hut => g4 u (by omega) hut⟩
      | none =>
        have g := nxt_no hn
        exact .inr ⟨rfl, fun u hu hh => g u (by omega) (by omega)⟩
end Go.Proofs.YtnagnaekcphpiaaDoor
