/- Rendezvous of both sides. -/
import Derived.Test.YtjjmdgiaohmjkaaDoorSG
namespace Go.Proofs.YtjjmdgiaohmjkaaDoor
open Go.RowKit
open Go.Sort (grow)

/-! ### the best one -/
def bstF (S : List Int) (b i : Nat) : Nat := if S.getD b 0 < S.getD i 0 then i else b
def bestK (S : List Int) (i : Nat) : Nat := (List.range i).foldl (bstF S) 0
theorem bestK_succ (S : List Int) (i : Nat) : bestK S (i + 1) = bstF S (bestK S i) i := by unfold bestK; rw [List.range_succ, List.foldl_append]; rfl
theorem bestK_one (S : List Int) : bestK S 1 = 0 := by rw [bestK_succ]; unfold bestK bstF; simp
theorem bestK_lt (S : List Int) : ∀ i, bestK S (i + 1) < i + 1
  | 0 => by rw [bestK_one]; omega
  | i + 1 => by
    have := bestK_lt S i
    rw [bestK_succ]; unfold bstF; split <;> omega
theorem bestK_least (S : List Int) : ∀ i x, x < i + 1 → x ≠ bestK S (i + 1) → Bet S (bestK S (i + 1)) x
  | 0, x, h, hx => by rw [bestK_one] at hx; omega
  | i + 1, x, h, hx => by
    have hl := bestK_lt S i
    have ih := bestK_least S i
    rw [bestK_succ] at hx ⊢
    unfold bstF at hx ⊢
    split
    · rename_i hc
      rw [if_pos hc] at hx
      by_cases e : x = bestK S (i + 1)
      · subst e; exact .inl hc
      · have := ih x (by omega) e
        unfold Bet at this ⊢; omega
    · rename_i hc
      rw [if_neg hc] at hx
      by_cases e : x = i + 1
      · subst e; unfold Bet; omega
      · exact ih x (by omega) hx
def Least (S : List Int) (b : Nat) : Prop := b < S.length ∧ ∀ x, x < S.length → x ≠ b → Bet S b x
theorem Least.uniq {S : List Int} {a b : Nat} (h : Least S a) (g : Least S b) : a = b := by
  by_cases e : a = b
  · exact e
  · exact ((h.2 b g.1 (Ne.symm e)).asymm (g.2 a h.1 e)).elim
def rdB (S : List Int) : Nat := if S.length = 0 ∨ 64 < S.length then 0 else bestK S S.length
def rdC (S : List Int) : Int := if S.length = 0 then 5 else if 64 < S.length then 3 else 0
theorem rdB_least {S : List Int} (h0 : S.length ≠ 0) (h1 : ¬ 64 < S.length) : Least S (rdB S) := by
  unfold rdB
  rw [if_neg (by omega)]
  obtain ⟨n, hn⟩ : ∃ n, S.length = n + 1 := ⟨S.length - 1, by omega⟩
  rw [hn]
  exact ⟨by rw [hn]; exact bestK_lt S n, fun x hx hne => bestK_least S n x (by rw [hn] at hx; exact hx) hne⟩
theorem IsRank.len {S : List Int} {r : List Nat} (h : IsRank S r) : r.length = S.length := by rw [h.1.length_eq, List.length_range]
theorem IsRank.lt {S : List Int} {r : List Nat} (h : IsRank S r) {x : Nat} (hx : x ∈ r) : x < S.length := by simpa using h.1.mem_iff.1 hx
theorem IsRank.mem {S : List Int} {r : List Nat} (h : IsRank S r) {x : Nat} (hx : x < S.length) : x ∈ r := h.1.mem_iff.2 (by simpa using hx)
theorem IsRank.bet {S : List Int} {r : List Nat} (h : IsRank S r) {i j x y : Nat} (hi : r[i]? = some x) (hj : r[j]? = some y) (hij : i < j) : Bet S x y := by
  obtain ⟨h1, e1⟩ := List.getElem?_eq_some_iff.1 hi
  obtain ⟨h2, e2⟩ := List.getElem?_eq_some_iff.1 hj
  have := List.pairwise_iff_getElem.1 h.2 i j h1 h2 hij
  rw [e1, e2] at this; exact this
/-- The element at place k of a ranking is the least of those that do not stand ahead of it. -/
theorem IsRank.next {S : List Int} {r : List Nat} (h : IsRank S r) {k b : Nat} (hk : k < r.length) (hb : b < S.length) (hn : b ∉ r.take k) (hl : ∀ x, x < S.length → x ∉ r.take k → x ≠ b → Bet S b x) : r[k]? = some b := by
  obtain ⟨j, hj⟩ := List.getElem?_of_mem (h.mem hb)
  have hjk : k ≤ j := by
    rcases Nat.lt_or_ge j k with h1 | h1
    · exact absurd (List.mem_of_getElem? (show (r.take k)[j]? = some b by rw [List.getElem?_take, if_pos h1]; exact hj)) hn
    · exact h1
  obtain ⟨x, hx⟩ : ∃ x, r[k]? = some x := ⟨_, List.getElem?_eq_getElem hk⟩
  by_cases e : j = k
  · rw [← e]; exact hj
  · have hxb : Bet S x b := h.bet hx hj (by omega)
    have hxn : x ∉ r.take k := by
      intro hm
      obtain ⟨i, hi⟩ := List.getElem?_of_mem hm
      rw [List.getElem?_take] at hi
      by_cases c : i < k
      · rw [if_pos c] at hi
        exact (h.bet hi hx c).asymm (h.bet hi hx c)
      · rw [if_neg c] at hi; cases hi
    have hne : x ≠ b := by
      intro e2; subst e2; exact hxb.asymm hxb
    exact (hxb.asymm (hl x (h.lt (List.mem_of_getElem? hx)) hxn hne)).elim
theorem IsRank.first {S : List Int} {r : List Nat} (h : IsRank S r) {b : Nat} (hl : Least S b) : r[0]? = some b :=
  h.next (by rw [h.len]; exact Nat.lt_of_le_of_lt (Nat.zero_le _) hl.1) hl.1 (by simp) (fun x hx _ hne => hl.2 x hx hne)

/-! ### Rendezvous -/
set_option maxHeartbeats 2000000 in
theorem Rendezvous_any (key : ByteArray) (A : Option Addr) (c : Nat) (l : List ByteArray) (w : World) (hl : StrL w w.heap.size A l) (hln : l.length ≤ 9223372036854775807) (hsz : ∀ t ∈ l, t.size ≤ 200) (hk : key.size ≤ 200) (hX : LaidH w) :
    Calls Tryd.prog 23 #[.string key, .slice A l.length c] w fun e w' => e = .returned (.tuple #[.int .i64 (rdB (scS key l) : Nat), .int .i64 (rdC (scS key l))]) ∧ Below w.heap.size w w' := by
  obtain ⟨N, hN⟩ : ∃ q, q = l.length := ⟨_, rfl⟩
  have HL := Lib.hid hl
  have HX := Lib.hid hX
  have HS := Lib.hid hsz
  have HK := Lib.hid hk
  clear hl hX hsz hk
  by_cases h0 : N = 0
  · have HE := Lib.hid (show (0 : Nat) = rdB (scS key l) ∧ (5 : Int) = rdC (scS key l) by unfold rdB rdC; rw [scS_len, if_pos (.inl (by omega)), if_pos (by omega)]; exact ⟨rfl, rfl⟩)
    subst h0
    rw [← hN, ← HE.out.1, ← HE.out.2]
    clear hN
    go_enter Tryd.func23, Tryd.ntmps23
    go_wp2_with fail
    exact bodyPost_ret (v := .tuple #[.int .i64 0, .int .i64 5]) (by simp [results, Tryd.results23, go_sem]) rfl ⟨rfl, Below.refl _ _⟩
  · by_cases h1 : 64 < N
    · have HE := Lib.hid (show (0 : Nat) = rdB (scS key l) ∧ (3 : Int) = rdC (scS key l) by unfold rdB rdC; rw [scS_len, if_pos (.inr (by omega)), if_neg (by omega), if_pos (by omega)]; exact ⟨rfl, rfl⟩)
      rw [← hN, ← HE.out.1, ← HE.out.2]
      have d1 : decide ((64 : Int) < (N : Int)) = true := decide_eq_true (by omega)
      have d0 : ((N : Int) == 0) = false := by simpa using h0
      clear h1 h0 hN
      go_enter Tryd.func23, Tryd.ntmps23
      go_wp2_with fail
      exact bodyPost_ret (v := .tuple #[.int .i64 0, .int .i64 3]) (by simp [results, Tryd.results23, go_sem]) rfl ⟨rfl, Below.refl _ _⟩
    · have HD := Lib.hid (rdB_least (S := scS key l) (by rw [scS_len]; omega) (by rw [scS_len]; omega))
      have HC := Lib.hid (show (0 : Int) = rdC (scS key l) by unfold rdC; rw [scS_len, if_neg (by omega), if_neg (by omega)])
      rw [← HC.out]
      obtain ⟨n, hn⟩ : ∃ n, l.length = n + 1 := ⟨l.length - 1, by omega⟩
      have HR := Lib.hid (ranked_any key A c l n hn (by omega) w HL.out HS.out HK.out HX.out)
      rw [← hN] at HR ⊢
      have d1 : decide ((64 : Int) < (N : Int)) = false := decide_eq_false (by omega)
      have d0 : ((N : Int) == 0) = false := by simpa using h0
      have p0 : (0 : Int) < (N : Int) := by omega
      clear h1 h0 hN hn
      go_enter Tryd.func23, Tryd.ntmps23
      go_wp2_with fail
      refine HR.out.mono ?_
      rintro e w1 ⟨hb, r, G, hr, rfl, h2, h3, hc⟩
      have q0 := hc 0 _ (hr.first HD.out)
      have HB := Lib.hid hb
      clear hb hr hc
      go_wp2_with fail
      exact bodyPost_ret (v := .tuple #[.int .i64 (rdB (scS key l) : Nat), .int .i64 0]) (by simp [results, Tryd.results23, go_sem]) rfl ⟨rfl, HB.out⟩
end Go.Proofs.YtjjmdgiaohmjkaaDoor
