/- Plain: the fields of a schedule's text: numbers, parts, sets. -/
import Derived.Test.YtnagnaekcphpiaaDoorS1
import Derived.Test.YtnagnaekcphpiaaDoorP1
namespace Go.Proofs.YtnagnaekcphpiaaDoor
open Go.Lib

/-- A number's text: the number (a great one for more than nine digits), and whether it is one. -/
def numS (l : List UInt8) : Nat × Bool :=
  if (l.isEmpty || (decide (1 < l.length) && (l.head? == some 48)) || !l.all isDg) = true then (0, false) else (if 9 < l.length then 1000000000 else magF 0 l, true)
structure Pt where
  lo : Nat
  hi : Nat
  st : Nat
  sp : Bool
def pcA (x : List UInt8) : List UInt8 := (Lib.cut x [45]).1
def pcB (x : List UInt8) : List UInt8 := if (Lib.cut x [45]).2.2 = true then (Lib.cut x [45]).2.1 else (Lib.cut x [45]).1
def pieceP (x : List UInt8) : Pt := ⟨(numS (pcA x)).1, (numS (pcB x)).1, 1, false⟩
def pieceB (x : List UInt8) : Bool := (numS (pcA x)).2 && (numS (pcB x)).2
def partsS (w : List UInt8) : List Pt × Bool :=
  if w = [42] then ([⟨0, 0, 1, true⟩], true)
  else if [42, 47] <+: w then ([⟨0, 0, (numS (w.drop 2)).1, true⟩], (numS (w.drop 2)).2)
  else if (cutL 44 w).all pieceB = true then ((cutL 44 w).map pieceP, true) else ([], false)
/-- The loop over the numbers of a part. -/
def runS (st hi : Nat) : Nat → Nat → Nat → Nat
  | 0, _, acc => acc
  | f + 1, n, acc => if n ≤ hi then runS st hi f (n + st) (acc ||| 2 ^ n) else acc
def setBad (p : Pt) (size : Nat) : Bool := (p.sp && (decide (p.st < 1) || decide (size < p.st))) || decide (size ≤ p.lo) || decide (size ≤ if p.sp = true then size - 1 else p.hi) || decide ((if p.sp = true then size - 1 else p.hi) < p.lo)
def setHi (p : Pt) (size : Nat) : Nat := if p.sp = true then size - 1 else p.hi
def setS (p : Pt) (size : Nat) : Nat × Bool := if setBad p size = true then (0, false) else (runS p.st (setHi p size) (setHi p size + 1 - p.lo) p.lo 0, true)
def foldS (size : Nat) : List Pt → Nat → Nat × Bool
  | [], acc => (acc, true)
  | p :: r, acc => if (setS p size).2 = true then foldS size r (acc ||| (setS p size).1) else (0, false)
/-- The reference's words. -/
def rpartS (x : List UInt8) (size : Nat) : (Nat × Nat × Nat) × Bool :=
  if x = [42] then ((0, size - 1, 1), true)
  else if 2 < x.length ∧ [42, 47] <+: x then ((0, size - 1, (numS (x.drop 2)).1), (numS (x.drop 2)).2)
  else if 2 < (cutL 45 x).length then ((0, 0, 0), false)
  else (((numS ((cutL 45 x).head?.getD [])).1, (numS ((cutL 45 x).getLast?.getD [])).1, 1), (numS ((cutL 45 x).head?.getD [])).2 && (numS ((cutL 45 x).getLast?.getD [])).2)
def rpieceB (l : List (List UInt8)) (size : Nat) (x : List UInt8) : Bool := (rpartS x size).2 && !(decide (1 < l.length) && (x.head? == some 42))
def rokS (w : List UInt8) (size : Nat) : Bool := (cutL 44 w).all (rpieceB (cutL 44 w) size)
def rbad (q : Nat × Nat × Nat) (size : Nat) : Bool := decide (q.2.2 < 1) || decide (size < q.2.2) || decide (q.2.1 < q.1) || decide (size ≤ q.2.1)
def rfoldS (size : Nat) : List (List UInt8) → Nat → Nat × Bool
  | [], acc => (acc, true)
  | x :: r, acc => if rbad (rpartS x size).1 size = true then (0, false) else rfoldS size r (runS (rpartS x size).1.2.2 (rpartS x size).1.2.1 ((rpartS x size).1.2.1 + 1 - (rpartS x size).1.1) (rpartS x size).1.1 acc)

theorem runS_or (st hi : Nat) : ∀ (f n a b : Nat), runS st hi f n (a ||| b) = a ||| runS st hi f n b
  | 0, _, _, _ => rfl
  | f + 1, n, a, b => by
    unfold runS
    split
    · rw [← runS_or st hi f (n + st) a (b ||| 2 ^ n), Nat.or_assoc]
    · rfl
theorem runS_acc (st hi f n acc : Nat) : runS st hi f n acc = acc ||| runS st hi f n 0 := by rw [← runS_or, Nat.or_zero]
theorem runS_fuel {st hi : Nat} (h : 1 ≤ st) : ∀ (f g n acc : Nat), hi + 1 - n ≤ f → hi + 1 - n ≤ g → runS st hi f n acc = runS st hi g n acc
  | 0, 0, _, _, _, _ => rfl
  | 0, g + 1, n, acc, hf, _ => by rw [runS, runS, if_neg (by omega)]
  | f + 1, 0, n, acc, _, hg => by rw [runS, runS, if_neg (by omega)]
  | f + 1, g + 1, n, acc, hf, hg => by
    rw [runS, runS]
    split
    · exact runS_fuel h f g _ _ (by omega) (by omega)
    · rfl
theorem runS_step {st hi n : Nat} (h : 1 ≤ st) (hn : n ≤ hi) (acc : Nat) : runS st hi (hi + 1 - n) n acc = runS st hi (hi + 1 - (n + st)) (n + st) (acc ||| 2 ^ n) := by
  rw [show hi + 1 - n = (hi - n) + 1 from by omega, runS, if_pos hn]
  exact runS_fuel h _ _ _ _ (by omega) (Nat.le_refl _)
theorem runS_stop {st hi n : Nat} (hn : ¬ n ≤ hi) (acc : Nat) : runS st hi (hi + 1 - n) n acc = acc := by
  rw [show hi + 1 - n = 0 from by omega, runS]
theorem runS_lt {st hi k : Nat} (hk : hi < k) : ∀ (f n acc : Nat), acc < 2 ^ k → runS st hi f n acc < 2 ^ k
  | 0, _, _, h => h
  | f + 1, n, acc, h => by
    unfold runS
    split
    · exact runS_lt hk f _ _ (Nat.or_lt_two_pow h (Nat.pow_lt_pow_right (by omega) (by omega)))
    · exact h
theorem setS_lt (p : Pt) {size : Nat} : (setS p size).1 < 2 ^ size := by
  unfold setS
  split
  · exact Nat.two_pow_pos _
  · rename_i h
    have h1 : setHi p size < size := by
      unfold setBad at h
      unfold setHi
      simp only [Bool.or_eq_true, decide_eq_true_eq, not_or] at h
      omega
    exact runS_lt h1 _ _ _ (Nat.two_pow_pos _)
theorem foldS_lt {size : Nat} : ∀ (l : List Pt) (acc : Nat), acc < 2 ^ size → (foldS size l acc).1 < 2 ^ size
  | [], _, h => h
  | p :: r, acc, h => by
    unfold foldS
    split
    · exact foldS_lt r _ (Nat.or_lt_two_pow h (setS_lt p))
    · exact Nat.two_pow_pos _
/-! ### numbers -/
theorem num_no_head {c : UInt8} {r : List UInt8} (h : isDg c = false) : (numS (c :: r)).2 = false := by
  unfold numS
  rw [if_pos (by simp [h])]
theorem num_nil : numS [] = (0, false) := by unfold numS; rw [if_pos (by rfl)]
theorem num_mem {l : List UInt8} (h : (numS l).2 = true) {c : UInt8} (hc : c ∈ l) : isDg c = true := by
  unfold numS at h
  split at h
  · cases h
  · rename_i h1
    simp only [Bool.or_eq_true, Bool.not_eq_true', not_or, Bool.not_eq_false] at h1
    exact List.all_eq_true.1 h1.2 c hc
theorem num_not {l : List UInt8} {c : UInt8} (hc : c ∈ l) (h : isDg c = false) : (numS l).2 = false := by
  cases hn : (numS l).2 with
  | false => rfl
  | true => rw [num_mem hn hc] at h; cases h
/-! ### both readings of a field are one -/
theorem cut_no {x : List UInt8} (h : (45 : UInt8) ∉ x) : pcA x = x ∧ pcB x = x := by
  unfold pcA pcB
  rw [cut_byte_no h]
  exact ⟨rfl, rfl⟩
theorem cut_hit {q : List UInt8} (r : List UInt8) (h : (45 : UInt8) ∉ q) : pcA (q ++ 45 :: r) = q ∧ pcB (q ++ 45 :: r) = r := by
  unfold pcA pcB
  rw [cut_byte_hit r h]
  exact ⟨rfl, rfl⟩
theorem piece_star {r : List UInt8} : pieceB (42 :: r) = false := by
  unfold pieceB
  rcases byte_cases 45 (42 :: r) with h | ⟨q, r', e, hq⟩
  · rw [(cut_no h).1, num_no_head (by decide), Bool.false_and]
  · rw [e, (cut_hit r' hq).1]
    cases q with
    | nil => injection e with e _; exact absurd e (by decide)
    | cons c q =>
      injection e with e _
      subst e
      rw [num_no_head (by decide), Bool.false_and]
theorem rpart_num {x : List UInt8} (hs : x.head? ≠ some 42) (size : Nat) : (rpartS x size).2 = pieceB x ∧ (pieceB x = true → (rpartS x size).1 = ((pieceP x).lo, (pieceP x).hi, (pieceP x).st)) := by
  have h1 : x ≠ [42] := fun e => hs (by rw [e]; rfl)
  have h2 : ¬ (2 < x.length ∧ [42, 47] <+: x) := fun ⟨_, r, e⟩ => hs (by rw [← e]; rfl)
  unfold rpartS
  rw [if_neg h1, if_neg h2]
  unfold pieceB pieceP
  rcases byte_cases 45 x with h | ⟨q, r, rfl, hq⟩
  · rw [cutL_no h, (cut_no h).1, (cut_no h).2]
    exact ⟨rfl, fun _ => rfl⟩
  · rw [cutL_hit r hq, (cut_hit r hq).1, (cut_hit r hq).2]
    rcases byte_cases 45 r with h | ⟨q', r', rfl, hq'⟩
    · rw [cutL_no h]
      exact ⟨rfl, fun _ => rfl⟩
    · have h3 : (numS (q' ++ 45 :: r')).2 = false := num_not (c := 45) (by simp) (by decide)
      rw [h3, Bool.and_false]
      have h4 : 2 < (q :: cutL 45 (q' ++ 45 :: r')).length := by
        rw [cutL_hit r' hq']
        have : (cutL 45 r').length ≠ 0 := fun e => cutL_ne_nil 45 r' (List.eq_nil_of_length_eq_zero e)
        simp only [List.length_cons]
        omega
      rw [if_pos h4]
      exact ⟨rfl, fun h => by cases h⟩
theorem star_pre {w : List UInt8} (h : [42, 47] <+: w) : ∃ r, w = 42 :: 47 :: r := by
  obtain ⟨r, rfl⟩ := h
  exact ⟨r, rfl⟩
theorem setS_r (p : Pt) (size : Nat) (hp : p.sp = false) (h1 : p.st = 1) (hs : 1 ≤ size) : setBad p size = rbad (p.lo, p.hi, p.st) size := by
  unfold setBad rbad
  rw [hp, h1]
  simp only [Bool.false_and, Bool.false_or, Bool.false_eq_true, if_false]
  rw [Bool.eq_iff_iff]
  simp only [Bool.or_eq_true, decide_eq_true_eq]
  omega
/-- The pieces of a field that is no star: both folds. -/
theorem fold_pieces {size : Nat} (hs : 1 ≤ size) : ∀ (l : List (List UInt8)) (acc : Nat), (∀ x ∈ l, x.head? ≠ some 42 ∧ pieceB x = true) → rfoldS size l acc = foldS size (l.map pieceP) acc
  | [], _, _ => rfl
  | x :: r, acc, h => by
    have hx := h x (by simp)
    have h1 := (rpart_num hx.1 size).2 hx.2
    rw [rfoldS, List.map_cons, foldS, h1]
    unfold setS
    rw [setS_r (pieceP x) size rfl rfl hs]
    split
    · rfl
    · rw [if_pos rfl, fold_pieces hs r _ fun y hy => h y (List.mem_cons_of_mem _ hy)]
      congr 1
      exact runS_acc _ _ _ _ _
theorem star_field {st size : Nat} (hs : 1 ≤ size) (acc : Nat) : (if rbad (0, size - 1, st) size = true then ((0, false) : Nat × Bool) else (runS st (size - 1) (size - 1 + 1 - 0) 0 acc, true)) = foldS size [⟨0, 0, st, true⟩] acc := by
  rw [foldS, foldS]
  unfold setS
  have e : setBad ⟨0, 0, st, true⟩ size = rbad (0, size - 1, st) size := by
    unfold setBad rbad
    rw [Bool.eq_iff_iff]
    simp only [Bool.or_eq_true, Bool.and_eq_true, decide_eq_true_eq, if_true, true_and]
    omega
  rw [e]
  split
  · rfl
  · rw [if_pos rfl]
    show _ = (acc ||| runS st (size - 1) (size - 1 + 1 - 0) 0 0, true)
    rw [← runS_acc]
theorem rok_parts (w : List UInt8) {size : Nat} (hs : 1 ≤ size) : rokS w size = (partsS w).2 ∧ ((partsS w).2 = true → ∀ acc, rfoldS size (cutL 44 w) acc = foldS size (partsS w).1 acc) := by
  unfold partsS
  split
  · rename_i h
    subst h
    have e : cutL 44 [42] = [[42]] := cutL_no (by decide)
    unfold rokS
    rw [e]
    refine ⟨by simp [rpieceB, rpartS], fun _ acc => ?_⟩
    rw [rfoldS, rfoldS, ← star_field hs]
    have e2 : rpartS [42] size = ((0, size - 1, 1), true) := by unfold rpartS; rw [if_pos rfl]
    rw [e2]
  · rename_i h1
    split
    · rename_i h2
      obtain ⟨r, rfl⟩ := star_pre h2
      have hd : (42 :: 47 :: r : List UInt8).drop 2 = r := rfl
      rw [hd]
      unfold rokS
      rcases byte_cases 44 (42 :: 47 :: r) with h | ⟨q, r', e, hq⟩
      · rw [cutL_no h]
        have e2 : (rpartS (42 :: 47 :: r) size).2 = (numS r).2 ∧ ((numS r).2 = true → (rpartS (42 :: 47 :: r) size).1 = (0, size - 1, (numS r).1)) := by
          unfold rpartS
          rw [if_neg h1]
          by_cases hr : r = []
          · subst hr
            rw [if_neg (fun hh => absurd hh.1 (by simp)), num_nil]
            have hc : cutL 45 [42, 47] = [[42, 47]] := cutL_no (by decide)
            rw [hc]
            exact ⟨by decide, fun h => by cases h⟩
          · rw [if_pos ⟨by cases r with | nil => exact absurd rfl hr | cons => simp, h2⟩]
            exact ⟨rfl, fun _ => rfl⟩
        refine ⟨by simp [rpieceB, e2.1], fun hn acc => ?_⟩
        rw [rfoldS, rfoldS, e2.2 hn, ← star_field hs]
      · have h3 : (numS r).2 = false := by
          have : (44 : UInt8) ∈ (42 :: 47 :: r : List UInt8) := by rw [e]; simp
          rcases List.mem_cons.1 this with h | h
          · exact absurd h (by decide)
          · rcases List.mem_cons.1 h with h | h
            · exact absurd h (by decide)
            · exact num_not h (by decide)
        rw [h3]
        refine ⟨?_, fun h => by cases h⟩
        rw [e, cutL_hit r' hq]
        have hh : q.head? = some 42 := by
          cases q with
          | nil => injection e with e _; exact absurd e (by decide)
          | cons c q => injection e with e _; rw [← e]; rfl
        have hl : decide (1 < (q :: cutL 44 r').length) = true := decide_eq_true (by
          have : (cutL 44 r').length ≠ 0 := fun e => cutL_ne_nil 44 r' (List.eq_nil_of_length_eq_zero e)
          simp only [List.length_cons]
          omega)
        rw [List.all_cons]
        have hz : rpieceB (q :: cutL 44 r') size q = false := by unfold rpieceB; rw [hl, hh]; simp
        rw [hz, Bool.false_and]
    · rename_i h2
      -- neither a star nor a stepped one
      have key : ∀ x ∈ cutL 44 w, rpieceB (cutL 44 w) size x = pieceB x ∧ (pieceB x = true → x.head? ≠ some 42) := by
        intro x hx
        by_cases hh : x.head? = some 42
        · obtain ⟨r, rfl⟩ : ∃ r, x = 42 :: r := by
            cases x with
            | nil => cases hh
            | cons c r => injection hh with hh; exact ⟨r, by rw [hh]⟩
          refine ⟨?_, fun h => by rw [piece_star] at h; cases h⟩
          rw [piece_star]
          unfold rpieceB
          by_cases hl : 1 < (cutL 44 w).length
          · rw [decide_eq_true hl]; simp
          · -- one piece alone: the field itself
            have hw : cutL 44 w = [42 :: r] := by
              match hc : cutL 44 w with
              | [] => exact absurd hc (cutL_ne_nil 44 w)
              | [y] => rw [hc] at hx; rw [List.mem_singleton.1 hx]
              | _ :: _ :: _ => rw [hc] at hl; exact absurd (by simp) hl
            have hw2 : w = 42 :: r := by have := joinC_cutL 44 w; rw [hw] at this; exact this.symm
            subst hw2
            have hrn : (rpartS (42 :: r) size).2 = false := by
              unfold rpartS
              rw [if_neg h1, if_neg (fun hq => h2 hq.2)]
              split
              · rfl
              · rcases byte_cases 45 (42 :: r) with h | ⟨q, r', e, hq⟩
                · rw [cutL_no h]
                  show ((numS (42 :: r)).2 && (numS (42 :: r)).2) = false
                  rw [num_no_head (by decide), Bool.false_and]
                · rw [e, cutL_hit r' hq]
                  cases q with
                  | nil => injection e with e _; exact absurd e (by decide)
                  | cons c q =>
                    injection e with e _
                    subst e
                    show ((numS (42 :: q)).2 && _) = false
                    rw [num_no_head (by decide), Bool.false_and]
            rw [hrn, Bool.false_and]
        · refine ⟨?_, fun _ => hh⟩
          unfold rpieceB
          rw [(rpart_num hh size).1]
          have : (x.head? == some 42) = false := by simpa using hh
          rw [this]
          simp
      have hall : rokS w size = (cutL 44 w).all pieceB := by
        unfold rokS
        rw [Bool.eq_iff_iff, List.all_eq_true, List.all_eq_true]
        exact ⟨fun h x hx => by rw [← (key x hx).1]; exact h x hx, fun h x hx => by rw [(key x hx).1]; exact h x hx⟩
      rw [hall]
      split
      · rename_i h3
        refine ⟨h3, fun _ acc => ?_⟩
        exact fold_pieces hs _ _ fun x hx => ⟨(key x hx).2 (List.all_eq_true.1 h3 x hx), List.all_eq_true.1 h3 x hx⟩
      · rename_i h3
        exact ⟨Bool.not_eq_true _ ▸ h3, fun h => by cases h⟩
end Go.Proofs.YtnagnaekcphpiaaDoor
