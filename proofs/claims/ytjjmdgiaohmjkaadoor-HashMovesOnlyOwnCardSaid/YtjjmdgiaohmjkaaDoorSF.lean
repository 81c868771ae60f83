/- hash.ranked: indices sorted stably by their scores. -/
import Derived.Test.YtjjmdgiaohmjkaaDoorSE
import Derived.Test.YtjjmdgiaohmjkaaDoorHA
import Derived.Lib.OwnBridge
namespace Go.Proofs.YtjjmdgiaohmjkaaDoor
open Go.RowKit
open Go.Sort (grow Holds PermIn putRow putCells mapBlock size_grow cell?_grow)

/-! ### rows being filled -/
def fillA (f : Nat → Value) (z : Value) (n k : Nat) : Array Value := ((List.range n).map fun j => if j < k then f j else z).toArray
section
variable {f : Nat → Value} {z : Value} {n k : Nat}
theorem fillA_at {j : Nat} (hj : j < n) : (fillA f z n k)[j]? = some (if j < k then f j else z) := by
  unfold fillA
  rw [List.getElem?_toArray, List.getElem?_map, List.getElem?_range hj]; rfl
theorem fillA_size : (fillA f z n k).size = n := by simp [fillA]
theorem fillA_set (h : k < n) : (fillA f z n k).setIfInBounds k (f k) = fillA f z n (k + 1) := by
  apply Array.ext_getElem?
  intro j
  rw [Array.getElem?_setIfInBounds]
  by_cases hj : j < n
  · rw [fillA_at hj, fillA_at hj, fillA_size]
    by_cases e : k = j
    · subst e; rw [if_pos rfl, if_pos h, if_pos (by omega)]
    · rw [if_neg e]
      by_cases h1 : j < k
      · rw [if_pos h1, if_pos (by omega)]
      · rw [if_neg h1, if_neg (by omega)]
  · have e1 : (fillA f z n k)[j]? = none := Array.getElem?_eq_none (by rw [fillA_size]; omega)
    have e2 : (fillA f z n (k + 1))[j]? = none := Array.getElem?_eq_none (by rw [fillA_size]; omega)
    rw [e1, e2]
    by_cases e : k = j
    · omega
    · rw [if_neg e]
theorem made_fill (f : Nat → Value) (z : Value) (n : Nat) : madeCells #[z] (n * 1) = fillA f z n 0 := by
  unfold madeCells fillA
  rw [Nat.mul_one]
  apply Array.ext_getElem?
  intro j
  by_cases hj : j < n
  · rw [Array.getElem?_eq_getElem (by simpa using hj), Array.getElem?_eq_getElem (by simpa using hj)]
    simp [Nat.mod_one]
  · rw [Array.getElem?_eq_none (by simp; omega), Array.getElem?_eq_none (by simp; omega)]
end
theorem info2_u64 : (Tryd.prog.info? 22).map (fun i => (i.zero, i.size, i.bytes)) = some (some (.int .u64 0), 1, 8) := by kernel_rfl
theorem info2_int : (Tryd.prog.info? 3).map (fun i => (i.zero, i.size, i.bytes)) = some (some (.int .i64 0), 1, 8) := by kernel_rfl
theorem info2_bool : (Tryd.prog.info? 4).map (fun i => (i.zero, i.size, i.bytes)) = some (some (.bool false), 1, 1) := by kernel_rfl
theorem info_parts2 {t : TypeId} {z : Option Value} {a b : Nat} (h : (Tryd.prog.info? t).map (fun i => (i.zero, i.size, i.bytes)) = some (z, a, b)) : ∃ i, Tryd.prog.info? t = some i ∧ i.zero = z ∧ i.size = a ∧ i.bytes = b := by
  cases hi : Tryd.prog.info? t with
  | none => rw [hi] at h; cases h
  | some i => rw [hi] at h; injection h with h; injection h with h1 h; injection h with h2 h3; exact ⟨i, rfl, h1, h2, h3⟩
theorem run_mkU (f : Nat → Value) (n : Nat) (hn : n ≤ 1000) (W : World) : (Instr.makeSlice 74 (.int .i64 (n : Int)) (.int .i64 (n : Int))).run Tryd.prog W = .ok (.slice (some ⟨W.heap.size, 0, none⟩) n n) (W.alloc (.cells (fillA f (.int .u64 0) n 0) 22)) := by
  obtain ⟨i0, ih, iz0, iz1, iz2⟩ := info_parts2 info2_u64
  have h := run_makeSlice (P := Tryd.prog) W 74 22 i0 (.int .u64 0) Tryd.underlying74 ih iz0 .i64 .i64 n n (by omega) (by omega) (by rw [iz1]; omega) (by rw [iz2]; omega) (by omega)
  rw [iz1, Int.toNat_natCast, show (Value.int IntKind.u64 0).cells = #[Value.int IntKind.u64 0] from rfl, made_fill f] at h
  exact h
theorem run_mkI (f : Nat → Value) (n : Nat) (hn : n ≤ 1000) (W : World) : (Instr.makeSlice 43 (.int .i64 (n : Int)) (.int .i64 (n : Int))).run Tryd.prog W = .ok (.slice (some ⟨W.heap.size, 0, none⟩) n n) (W.alloc (.cells (fillA f (.int .i64 0) n 0) 3)) := by
  obtain ⟨i0, ih, iz0, iz1, iz2⟩ := info_parts2 info2_int
  have h := run_makeSlice (P := Tryd.prog) W 43 3 i0 (.int .i64 0) Tryd.underlying43 ih iz0 .i64 .i64 n n (by omega) (by omega) (by rw [iz1]; omega) (by rw [iz2]; omega) (by omega)
  rw [iz1, Int.toNat_natCast, show (Value.int IntKind.i64 0).cells = #[Value.int IntKind.i64 0] from rfl, made_fill f] at h
  exact h
theorem run_mkB (f : Nat → Value) (n : Nat) (hn : n ≤ 1000) (W : World) : (Instr.makeSlice 45 (.int .i64 (n : Int)) (.int .i64 (n : Int))).run Tryd.prog W = .ok (.slice (some ⟨W.heap.size, 0, none⟩) n n) (W.alloc (.cells (fillA f (.bool false) n 0) 4)) := by
  obtain ⟨i0, ih, iz0, iz1, iz2⟩ := info_parts2 info2_bool
  have h := run_makeSlice (P := Tryd.prog) W 45 4 i0 (.bool false) Tryd.underlying45 ih iz0 .i64 .i64 n n (by omega) (by omega) (by rw [iz1]; omega) (by rw [iz2]; omega) (by omega)
  rw [iz1, Int.toNat_natCast, show (Value.bool false).cells = #[Value.bool false] from rfl, made_fill f] at h
  exact h

/-! ### the comparing closure -/
def cfI (x y : Int) : Int := if y < x then -1 else if x < y then 1 else 0
set_option maxHeartbeats 1000000 in
theorem cmp_walk (i j n c : Nat) (hi : i < n) (hj : j < n) (si sj : Int) (bx sb : Nat) (w : World) (hbx : w.cell? ⟨bx, 0, none⟩ = some (.slice (some ⟨sb, 0, none⟩) n c)) (h1 : w.cell? ⟨sb, i, none⟩ = some (.int .u64 si)) (h2 : w.cell? ⟨sb, j, none⟩ = some (.int .u64 sj)) :
    Calls Tryd.prog 50 #[.int .i64 i, .int .i64 j, .pointer (some ⟨bx, 0, none⟩)] w fun e w' => e = .returned (.int .i64 (cfI si sj)) ∧ ∃ q, w' = w.drewN q := by
  have bi : (i : Int) < n := by omega
  have bj : (j : Int) < n := by omega
  have pi : (0 : Int) ≤ i := by omega
  have pj : (0 : Int) ≤ j := by omega
  go_enter Tryd.func50, Tryd.ntmps50
  by_cases ha : sj < si
  · have d1 : decide (sj < si) = true := decide_eq_true ha
    have HE := Lib.hid (show (-1 : Int) = cfI si sj by unfold cfI; rw [if_pos ha])
    go_wp2_with fail
    go_region
    go_wp2_with fail
    go_ret
    exact ⟨ret_int HE.out, 1, rfl⟩
  · have d1 : decide (sj < si) = false := decide_eq_false ha
    by_cases hb : si < sj
    · have d2 : decide (si < sj) = true := decide_eq_true hb
      have HE := Lib.hid (show (1 : Int) = cfI si sj by unfold cfI; rw [if_neg ha, if_pos hb])
      go_wp2_with fail
      go_region
      go_wp2_with fail
      go_region
      go_wp2_with fail
      go_ret
      exact ⟨ret_int HE.out, 2, rfl⟩
    · have d2 : decide (si < sj) = false := decide_eq_false hb
      have HE := Lib.hid (show (0 : Int) = cfI si sj by unfold cfI; rw [if_neg ha, if_neg hb])
      go_wp2_with fail
      go_region
      go_wp2_with fail
      go_region
      go_wp2_with fail
      go_ret
      exact ⟨ret_int HE.out, 2, rfl⟩

/-! ### worlds of a sort -/
theorem below_SW {α : Type} [Inhabited α] {enc : α → Value} {w0 W : World} {blk off B : Nat} {d : Array α} (h : SW enc w0 blk off d W) (hB : B ≤ blk) (hz : B ≤ w0.heap.size) : Below B w0 W := by
  obtain ⟨m, os, rfl⟩ := h
  unfold sortWorld
  refine ⟨rfl, rfl, rfl, ?_, fun k hk => ?_⟩
  · rw [size_grow, size_putRow]; show w0.heap.size ≤ w0.heap.size + _; omega
  · simp only [grow, putRow, mapBlock, Go.Sort.ahead]
    rw [Array.getElem?_append_left (by simp; omega), Array.getElem?_modify, if_neg (by omega)]

/-! ### scores -/
def scI (key t : ByteArray) : Int := fnv (chT [t, key])
def scS (key : ByteArray) (l : List ByteArray) : List Int := l.map (scI key)
def scA (S : List Int) (j : Nat) : Value := .int .u64 (S.getD j 0)
def ixA (j : Nat) : Value := .int .i64 (j : Nat)
/-- Index x goes before index y. -/
def Bet (S : List Int) (x y : Nat) : Prop := S.getD y 0 < S.getD x 0 ∨ (S.getD x 0 = S.getD y 0 ∧ x < y)
theorem Bet.trans {S : List Int} {x y z : Nat} (h : Bet S x y) (g : Bet S y z) : Bet S x z := by
  unfold Bet at *; omega
theorem Bet.asymm {S : List Int} {x y : Nat} (h : Bet S x y) (g : Bet S y x) : False := by
  unfold Bet at *; omega
theorem Bet.total {S : List Int} {x y : Nat} (h : x ≠ y) : Bet S x y ∨ Bet S y x := by
  unfold Bet; omega
def IsRank (S : List Int) (l : List Nat) : Prop := l.Perm (List.range S.length) ∧ l.Pairwise (Bet S)
def encF (n : Nat) (x : Fin (n + 1)) : Value := .int .i64 ((x : Nat) : Int)
def cfF (S : List Int) (n : Nat) (x y : Fin (n + 1)) : Int := cfI (S.getD x 0) (S.getD y 0)
def betF (S : List Int) (n : Nat) (x y : Fin (n + 1)) : Prop := Bet S x y
theorem betF_before (S : List Int) (n : Nat) : Before (betF S n) := ⟨fun h g => Bet.trans h g⟩
theorem one_encF (n : Nat) : OneCell (encF n) := fun _ => rfl
def rowF (n : Nat) : Array (Fin (n + 1)) := Array.ofFn (fun i : Fin (n + 1) => i)
theorem rowF_size (n : Nat) : (rowF n).size = n + 1 := by simp [rowF]
theorem rowF_at (n j : Nat) (h : j < n + 1) : (rowF n)[j]! = ⟨j, h⟩ := by
  rw [getElem!_pos (rowF n) j (by rw [rowF_size]; exact h)]
  simp [rowF]
theorem rowF_crs (S : List Int) (n : Nat) : ∀ i j, i < j → j < (rowF n).size → Crs (betF S n) (ltOf (cfF S n)) (rowF n)[i]! (rowF n)[j]! := by
  intro i j hij hj
  rw [rowF_size] at hj
  rw [rowF_at n i (by omega), rowF_at n j hj]
  unfold Crs ltOf cfF cfI betF Bet
  simp only []
  refine ⟨fun h => ?_, fun h => ?_⟩
  · have h := of_decide_eq_true h
    by_cases c1 : S.getD i 0 < S.getD j 0
    · exact .inl c1
    · rw [if_neg c1] at h; split at h <;> omega
  · have h := of_decide_eq_false h
    by_cases c1 : S.getD i 0 < S.getD j 0
    · rw [if_pos c1] at h; omega
    · by_cases c2 : S.getD j 0 < S.getD i 0
      · exact .inl c2
      · exact .inr ⟨by omega, hij⟩
/-- What the sort leaves, as a list of numbers. -/
theorem rank_of {S : List Int} {n : Nat} (hn : S.length = n + 1) {d : Array (Fin (n + 1))} (hp : PermIn 0 (rowF n).size (rowF n) d) (hs : Srt (betF S n) 0 (rowF n).size d) : IsRank S (d.toList.map Fin.val) ∧ d.size = n + 1 := by
  rw [rowF_size] at hp hs
  have hz : d.size = n + 1 := hp.1.trans (rowF_size n)
  refine ⟨⟨?_, ?_⟩, hz⟩
  · have h := hp.2.2
    rw [Array.extract_eq_self_of_le (by omega), Array.extract_eq_self_of_le (by rw [rowF_size]; exact Nat.le_refl _)] at h
    have h2 := h.map Fin.val
    have e : (rowF n).toList.map Fin.val = List.range S.length := by
      rw [hn]
      apply List.ext_getElem?
      intro i
      by_cases hi : i < n + 1
      · rw [List.getElem?_range hi, List.getElem?_map, Array.getElem?_toList, Array.getElem?_eq_getElem (by rw [rowF_size]; exact hi)]
        simp [rowF]
      · rw [List.getElem?_eq_none (by simp [rowF_size]; omega), List.getElem?_eq_none (by simp; omega)]
    rw [e] at h2
    exact h2
  · rw [List.pairwise_map, List.pairwise_iff_getElem]
    intro i j hi hj hij
    have h := hs i j (Nat.zero_le _) hij (by simpa [hz] using hj)
    rw [getElem!_pos d i (by simpa using hi), getElem!_pos d j (by simpa using hj)] at h
    simp only [Array.getElem_toList]
    exact h
end Go.Proofs.YtjjmdgiaohmjkaaDoor
