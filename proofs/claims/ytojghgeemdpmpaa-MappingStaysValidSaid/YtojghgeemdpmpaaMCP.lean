/- Blocked of both; the records of the example. -/
import Derived.Test.YtojghgeemdpmpaaMCM
namespace Go.Proofs.Ytojghgeemdpmpaa
open Go.RowKit
open Go.Sort (grow)

def blkB (s : MS) (now : Int) : Bool := s.e == 0 && (s.fl != 0 || decide (now < s.wa))
theorem blk_no {s : MS} {now : Int} (h : s.e ≠ 0) : false = blkB s now := by simp [blkB, h]
theorem blk_1 {s : MS} {now : Int} (h : s.e = 0) (h1 : s.fl ≠ 0) : true = blkB s now := by simp [blkB, h, h1]
theorem blk_2 {s : MS} {now : Int} (h : s.e = 0) (h1 : s.fl = 0) (h2 : now < s.wa) : true = blkB s now := by simp [blkB, h, h1, h2]
theorem blk_3 {s : MS} {now : Int} (h : s.e = 0) (h1 : s.fl = 0) (h2 : ¬ now < s.wa) : false = blkB s now := by simp [blkB, h, h1]; omega
set_option maxHeartbeats 1000000 in
theorem Blocked_any (sh nx fl ac fi wa li now : Int) (w : World) : Calls Try.prog 10 #[.agg #[.int .i64 sh, .int .i64 nx, .int .i64 fl, .int .i64 ac, .int .i64 fi, .int .i64 wa, .int .i64 li], .int .i64 now] w fun e w' => e = .returned (.bool (blkB ⟨sh, nx, fl, ac, fi, wa, li⟩ now)) ∧ Below w.heap.size w w' := by
  have hn0 := Nat.le_refl w.heap.size
  go_enter Try.func10, Try.ntmps10
  go_wp2_with fail
  refine (MCheck_lit sh nx fl ac fi wa li _).mono ?_
  rintro e w1 ⟨rfl, hb⟩
  have bs : Blk w1 (w.heap.size) 23 #[.int .i64 sh, .int .i64 nx, .int .i64 fl, .int .i64 ac, .int .i64 fi, .int .i64 wa, .int .i64 li] := (Blk.new _ _ _).on hb
  have hbz := hb.size
  have HB1 := Lib.hid (((Below.refl w.heap.size w).alloc (by first | exact Nat.le_refl _ | omega | (simp; done) | (simp; omega)) _).trans (hb.mono (by first | exact Nat.le_refl _ | omega | (simp; done) | (simp; omega))))
  have hz1 : w.heap.size ≤ w1.heap.size := HB1.out.size
  clear hb hbz
  by_cases h0 : MS.e ⟨sh, nx, fl, ac, fi, wa, li⟩ = 0
  rotate_left
  · have HD := Lib.hid (blk_no (s := ⟨sh, nx, fl, ac, fi, wa, li⟩) (now := now) h0)
    generalize MS.e ⟨sh, nx, fl, ac, fi, wa, li⟩ = n at *
    have hne : (n == 0) = false := beq_eq_false_iff_ne.2 h0
    clear h0
    have q_bs0 : w1.cell? ⟨w.heap.size, 0, none⟩ = some (.int .i64 sh) := bs.cell 0
    have q_bs1 : w1.cell? ⟨w.heap.size, 1, none⟩ = some (.int .i64 nx) := bs.cell 1
    have q_bs2 : w1.cell? ⟨w.heap.size, 2, none⟩ = some (.int .i64 fl) := bs.cell 2
    have q_bs3 : w1.cell? ⟨w.heap.size, 3, none⟩ = some (.int .i64 ac) := bs.cell 3
    have q_bs4 : w1.cell? ⟨w.heap.size, 4, none⟩ = some (.int .i64 fi) := bs.cell 4
    have q_bs5 : w1.cell? ⟨w.heap.size, 5, none⟩ = some (.int .i64 wa) := bs.cell 5
    have q_bs6 : w1.cell? ⟨w.heap.size, 6, none⟩ = some (.int .i64 li) := bs.cell 6
    go_wp2_with fail
    go_ret
    exact ⟨ret_bool HD.out, HB1.out⟩
  have HE := Lib.hid h0
  have hfl : 0 ≤ fl := (nx_bd h0).2.2.1
  rw [h0]
  clear h0
  by_cases h1 : fl = 0
  rotate_left
  · have HD := Lib.hid (blk_1 (s := ⟨sh, nx, fl, ac, fi, wa, li⟩) (now := now) HE.out h1)
    have g1 : (fl != 0) = true := bne_iff_ne.2 h1
    clear h1
    have q_bs0 : w1.cell? ⟨w.heap.size, 0, none⟩ = some (.int .i64 sh) := bs.cell 0
    have q_bs1 : w1.cell? ⟨w.heap.size, 1, none⟩ = some (.int .i64 nx) := bs.cell 1
    have q_bs2 : w1.cell? ⟨w.heap.size, 2, none⟩ = some (.int .i64 fl) := bs.cell 2
    have q_bs3 : w1.cell? ⟨w.heap.size, 3, none⟩ = some (.int .i64 ac) := bs.cell 3
    have q_bs4 : w1.cell? ⟨w.heap.size, 4, none⟩ = some (.int .i64 fi) := bs.cell 4
    have q_bs5 : w1.cell? ⟨w.heap.size, 5, none⟩ = some (.int .i64 wa) := bs.cell 5
    have q_bs6 : w1.cell? ⟨w.heap.size, 6, none⟩ = some (.int .i64 li) := bs.cell 6
    go_wp2_with fail
    go_ret
    exact ⟨ret_bool HD.out, HB1.out⟩
  · have H1 := Lib.hid h1
    have g1 : (fl != 0) = false := by simp [h1]
    clear h1
    rcases decide_cases (now < wa) with ⟨hw, hwb⟩ | ⟨hw, hwb⟩
    · have HD := Lib.hid (blk_2 (s := ⟨sh, nx, fl, ac, fi, wa, li⟩) (now := now) HE.out H1.out hw)
      have q_bs0 : w1.cell? ⟨w.heap.size, 0, none⟩ = some (.int .i64 sh) := bs.cell 0
      have q_bs1 : w1.cell? ⟨w.heap.size, 1, none⟩ = some (.int .i64 nx) := bs.cell 1
      have q_bs2 : w1.cell? ⟨w.heap.size, 2, none⟩ = some (.int .i64 fl) := bs.cell 2
      have q_bs3 : w1.cell? ⟨w.heap.size, 3, none⟩ = some (.int .i64 ac) := bs.cell 3
      have q_bs4 : w1.cell? ⟨w.heap.size, 4, none⟩ = some (.int .i64 fi) := bs.cell 4
      have q_bs5 : w1.cell? ⟨w.heap.size, 5, none⟩ = some (.int .i64 wa) := bs.cell 5
      have q_bs6 : w1.cell? ⟨w.heap.size, 6, none⟩ = some (.int .i64 li) := bs.cell 6
      go_wp2_with fail
      go_ret
      exact ⟨ret_bool HD.out, HB1.out⟩
    · have HD := Lib.hid (blk_3 (s := ⟨sh, nx, fl, ac, fi, wa, li⟩) (now := now) HE.out H1.out hw)
      have q_bs0 : w1.cell? ⟨w.heap.size, 0, none⟩ = some (.int .i64 sh) := bs.cell 0
      have q_bs1 : w1.cell? ⟨w.heap.size, 1, none⟩ = some (.int .i64 nx) := bs.cell 1
      have q_bs2 : w1.cell? ⟨w.heap.size, 2, none⟩ = some (.int .i64 fl) := bs.cell 2
      have q_bs3 : w1.cell? ⟨w.heap.size, 3, none⟩ = some (.int .i64 ac) := bs.cell 3
      have q_bs4 : w1.cell? ⟨w.heap.size, 4, none⟩ = some (.int .i64 fi) := bs.cell 4
      have q_bs5 : w1.cell? ⟨w.heap.size, 5, none⟩ = some (.int .i64 wa) := bs.cell 5
      have q_bs6 : w1.cell? ⟨w.heap.size, 6, none⟩ = some (.int .i64 li) := bs.cell 6
      go_wp2_with fail
      go_ret
      exact ⟨ret_bool HD.out, HB1.out⟩
set_option maxHeartbeats 1000000 in
theorem rBlocked_any (sh nx fl ac fi wa li now : Int) (w : World) : Calls Try.prog 11 #[.agg #[.int .i64 sh, .int .i64 nx, .int .i64 fl, .int .i64 ac, .int .i64 fi, .int .i64 wa, .int .i64 li], .int .i64 now] w fun e w' => e = .returned (.bool (blkB ⟨sh, nx, fl, ac, fi, wa, li⟩ now)) ∧ Below w.heap.size w w' := by
  have hn0 := Nat.le_refl w.heap.size
  go_enter Try.func11, Try.ntmps11
  go_wp2_with fail
  refine (rMCheck_lit sh nx fl ac fi wa li _).mono ?_
  rintro e w1 ⟨rfl, hb⟩
  have bs : Blk w1 (w.heap.size) 23 #[.int .i64 sh, .int .i64 nx, .int .i64 fl, .int .i64 ac, .int .i64 fi, .int .i64 wa, .int .i64 li] := (Blk.new _ _ _).on hb
  have hbz := hb.size
  have HB1 := Lib.hid (((Below.refl w.heap.size w).alloc (by first | exact Nat.le_refl _ | omega | (simp; done) | (simp; omega)) _).trans (hb.mono (by first | exact Nat.le_refl _ | omega | (simp; done) | (simp; omega))))
  have hz1 : w.heap.size ≤ w1.heap.size := HB1.out.size
  clear hb hbz
  by_cases h0 : MS.e ⟨sh, nx, fl, ac, fi, wa, li⟩ = 0
  rotate_left
  · have HD := Lib.hid (blk_no (s := ⟨sh, nx, fl, ac, fi, wa, li⟩) (now := now) h0)
    generalize MS.e ⟨sh, nx, fl, ac, fi, wa, li⟩ = n at *
    have hne : (n == 0) = false := beq_eq_false_iff_ne.2 h0
    clear h0
    have q_bs0 : w1.cell? ⟨w.heap.size, 0, none⟩ = some (.int .i64 sh) := bs.cell 0
    have q_bs1 : w1.cell? ⟨w.heap.size, 1, none⟩ = some (.int .i64 nx) := bs.cell 1
    have q_bs2 : w1.cell? ⟨w.heap.size, 2, none⟩ = some (.int .i64 fl) := bs.cell 2
    have q_bs3 : w1.cell? ⟨w.heap.size, 3, none⟩ = some (.int .i64 ac) := bs.cell 3
    have q_bs4 : w1.cell? ⟨w.heap.size, 4, none⟩ = some (.int .i64 fi) := bs.cell 4
    have q_bs5 : w1.cell? ⟨w.heap.size, 5, none⟩ = some (.int .i64 wa) := bs.cell 5
    have q_bs6 : w1.cell? ⟨w.heap.size, 6, none⟩ = some (.int .i64 li) := bs.cell 6
    go_wp2_with fail
    go_ret
    exact ⟨ret_bool HD.out, HB1.out⟩
  have HE := Lib.hid h0
  have hfl : 0 ≤ fl := (nx_bd h0).2.2.1
  rw [h0]
  clear h0
  by_cases h1 : fl = 0
  rotate_left
  · have HD := Lib.hid (blk_1 (s := ⟨sh, nx, fl, ac, fi, wa, li⟩) (now := now) HE.out h1)
    have g1 : decide (0 < fl) = true := decide_eq_true (by omega)
    have g2 : 0 < fl := by omega
    clear h1
    have q_bs0 : w1.cell? ⟨w.heap.size, 0, none⟩ = some (.int .i64 sh) := bs.cell 0
    have q_bs1 : w1.cell? ⟨w.heap.size, 1, none⟩ = some (.int .i64 nx) := bs.cell 1
    have q_bs2 : w1.cell? ⟨w.heap.size, 2, none⟩ = some (.int .i64 fl) := bs.cell 2
    have q_bs3 : w1.cell? ⟨w.heap.size, 3, none⟩ = some (.int .i64 ac) := bs.cell 3
    have q_bs4 : w1.cell? ⟨w.heap.size, 4, none⟩ = some (.int .i64 fi) := bs.cell 4
    have q_bs5 : w1.cell? ⟨w.heap.size, 5, none⟩ = some (.int .i64 wa) := bs.cell 5
    have q_bs6 : w1.cell? ⟨w.heap.size, 6, none⟩ = some (.int .i64 li) := bs.cell 6
    go_wp2_with fail
    go_ret
    exact ⟨ret_bool HD.out, HB1.out⟩
  · have H1 := Lib.hid h1
    have g1 : decide (0 < fl) = false := decide_eq_false (by omega)
    have g2 : ¬ 0 < fl := by omega
    clear h1
    rcases decide_cases (now < wa) with ⟨hw, hwb⟩ | ⟨hw, hwb⟩
    · have HD := Lib.hid (blk_2 (s := ⟨sh, nx, fl, ac, fi, wa, li⟩) (now := now) HE.out H1.out hw)
      have q_bs0 : w1.cell? ⟨w.heap.size, 0, none⟩ = some (.int .i64 sh) := bs.cell 0
      have q_bs1 : w1.cell? ⟨w.heap.size, 1, none⟩ = some (.int .i64 nx) := bs.cell 1
      have q_bs2 : w1.cell? ⟨w.heap.size, 2, none⟩ = some (.int .i64 fl) := bs.cell 2
      have q_bs3 : w1.cell? ⟨w.heap.size, 3, none⟩ = some (.int .i64 ac) := bs.cell 3
      have q_bs4 : w1.cell? ⟨w.heap.size, 4, none⟩ = some (.int .i64 fi) := bs.cell 4
      have q_bs5 : w1.cell? ⟨w.heap.size, 5, none⟩ = some (.int .i64 wa) := bs.cell 5
      have q_bs6 : w1.cell? ⟨w.heap.size, 6, none⟩ = some (.int .i64 li) := bs.cell 6
      go_wp2_with fail
      go_ret
      exact ⟨ret_bool HD.out, HB1.out⟩
    · have HD := Lib.hid (blk_3 (s := ⟨sh, nx, fl, ac, fi, wa, li⟩) (now := now) HE.out H1.out hw)
      have q_bs0 : w1.cell? ⟨w.heap.size, 0, none⟩ = some (.int .i64 sh) := bs.cell 0
      have q_bs1 : w1.cell? ⟨w.heap.size, 1, none⟩ = some (.int .i64 nx) := bs.cell 1
      have q_bs2 : w1.cell? ⟨w.heap.size, 2, none⟩ = some (.int .i64 fl) := bs.cell 2
      have q_bs3 : w1.cell? ⟨w.heap.size, 3, none⟩ = some (.int .i64 ac) := bs.cell 3
      have q_bs4 : w1.cell? ⟨w.heap.size, 4, none⟩ = some (.int .i64 fi) := bs.cell 4
      have q_bs5 : w1.cell? ⟨w.heap.size, 5, none⟩ = some (.int .i64 wa) := bs.cell 5
      have q_bs6 : w1.cell? ⟨w.heap.size, 6, none⟩ = some (.int .i64 li) := bs.cell 6
      go_wp2_with fail
      go_ret
      exact ⟨ret_bool HD.out, HB1.out⟩

def rec0 (n : Int) : Rec := ⟨0, n, 0, ⟨#[]⟩, ⟨#[]⟩, ⟨#[]⟩, ⟨#[]⟩, 0, ⟨#[]⟩, [⟨1, 0, ⟨#[]⟩, 0⟩]⟩
/-- The records of the example. -/
def recsR (a : Int) (n : Nat) : List Rec := (List.range n).map fun i : Nat => rec0 (a + (i : Int))
theorem recsR_snoc (a : Int) (k : Nat) : recsR a (k + 1) = recsR a k ++ [rec0 (a + k)] := by
  unfold recsR
  rw [List.range_succ, List.map_append]
  rfl
theorem recsR_length (a : Int) (n : Nat) : (recsR a n).length = n := by simp [recsR]
theorem MineInv.lit0' (w : World) (g base : Nat) (hg : w.heap.size = g) (hb : base ≤ g) : MineInv (w.alloc (.cells #[] 54)) base (.slice (some ⟨g, 0, none⟩) 0 0) [] := by
  subst hg
  exact ⟨World.ownsRow_lit w #[] 0 hb (Nat.zero_le _) (by simp), by simp, by simp⟩
structure RecAt (w1 : World) (a : Int) (k : Nat) (v : Value) (wr : World) : Prop where
  low : Below w1.heap.size w1 wr
  ex : ∃ xs : List RecX, MineInv wr w1.heap.size v xs ∧ xs.map (·.r) = recsR a k
def RecPost (a : Int) (n : Nat) (w : World) (e : Ending) (w' : World) : Prop :=
  ∃ A c l, e = .returned (.slice A (List.length l) c) ∧ RecsAt w' w'.heap.size A l ∧ l.map (·.r) = recsR a n ∧ Below w.heap.size w w'
theorem alP {w : World} (o : Obj) : Below w.heap.size w (w.alloc o) := (Below.refl _ _).alloc (Nat.le_refl _) _
set_option maxHeartbeats 2000000 in
theorem records_any' (a : Int) (n : Nat) (w : World) (ha : 0 ≤ a ∧ a ≤ 1000000) (hn : n ≤ 1000) : Calls Try.prog 23 #[.int .i64 a, .int .i64 n] w (RecPost a n w) := by
  obtain ⟨i1, hi1, hy0, hy1, hy2⟩ := info_parts info39
  obtain ⟨ha0, ha1⟩ := ha
  go_enter Try.func23, Try.ntmps23
  go_wp2_with fail
  go_loopw [5, 6] (fun v i wr => ∃ (k : Nat) (vv : Value), k ≤ n ∧ i = .int .i64 k ∧ vv = v ∧ RecAt w a k vv wr) (fun _ i _ => n - (intOf i).toNat)
  case atStart => exact ⟨0, _, Nat.zero_le _, rfl, rfl, ⟨alP _, [], MineInv.lit0' w _ _ rfl (Nat.le_refl _), rfl⟩⟩
  case round =>
    obtain ⟨k, v, hk, rfl, rfl, hbr, xs, hinv, hxs⟩ := hrel
    have hzr : w.heap.size ≤ wr.heap.size := hbr.size
    have hxl : xs.length = k := by have h1 := congrArg List.length hxs; simpa [recsR_length] using h1
    have hxle : xs.length ≤ 1000 := by omega
    obtain ⟨A', c', rfl⟩ := hinv.shape
    have HX := Lib.hid hxs
    have HXL := Lib.hid hxl
    have HB := Lib.hid hbr
    have HI := Lib.hid hinv
    clear hxs hxl hbr hinv
    by_cases hlt : k < n
    · have hki : (k : Int) < n := by omega
      have HI2 := Lib.hid (HI.out.below (alP (.cells #[.int .i64 1, .int .i64 0, .string ⟨#[]⟩, .int .i64 0] 74)))
      have HXB := Lib.hid (show BodyAt (wr.alloc (.cells #[.int .i64 1, .int .i64 0, .string ⟨#[]⟩, .int .i64 0] 74)) (wr.alloc (.cells #[.int .i64 1, .int .i64 0, .string ⟨#[]⟩, .int .i64 0] 74)).heap.size ⟨rec0 (a + k), some ⟨wr.heap.size, 0, none⟩, 1⟩ from
        ⟨rfl, fun _ => ⟨wr.heap.size, 0, rfl, by simp, fun j u hu => by have := cells_new_at (w := wr) (e := 74) (g := wr.heap.size) rfl j u hu; rwa [Addr.add_lit] at this⟩⟩)
      have HXA := Lib.hid (show 0 < (⟨rec0 (a + k), some ⟨wr.heap.size, 0, none⟩, 1⟩ : RecX).r.body.length → ∀ ad, (⟨rec0 (a + k), some ⟨wr.heap.size, 0, none⟩, 1⟩ : RecX).ba = some ad → (Value.slice A' xs.length c').ownBlock ≠ some ad.block by
        intro _ ad ha e
        injection ha with ha
        subst ha
        exact absurd (HI.out.row.lt _ e).2 (Nat.lt_irrefl _))
      have HLOW := Lib.hid (HB.out.alloc hzr (.cells #[.int .i64 1, .int .i64 0, .string ⟨#[]⟩, .int .i64 0] 74))
      go_wp2_with (at_builtin; go_must (refine wpList_append_any _ rfl (.tmp 13) (.tmp 21) 28 rfl w.heap.size 54 i1 _ 10 136 Try.underlying28 hi1 hy0 hy1 hy2 rfl (by decide) (.slice A' xs.length c') xs.length _ rfl (HI2.out.row.alloc _) (wr.heap.size + 2) (some ⟨wr.heap.size + 1, 0, none⟩) 1 1 (RecX.cells ⟨rec0 (a + k), some ⟨wr.heap.size, 0, none⟩, 1⟩) rfl ⟨rfl, fun _ => ⟨_, _, rfl, by omega, fun j u hu => by have := cells_new_at (w := wr.alloc (.cells #[.int .i64 1, .int .i64 0, .string ⟨#[]⟩, .int .i64 0] 74)) (e := 54) (g := wr.heap.size + 1) (by simp) j u hu; rwa [Addr.add_lit] at this⟩⟩ (RecX.oneCell _) (by simp [maxLen]; omega) (by omega) (by simp; omega) ?_); intro v' w3 hown hgr hblk)
      have hb3 : Below w.heap.size w w3 := (HLOW.out.alloc (by simp; omega) _).grown hgr (by simp; omega) (fun k hk => (HI2.out.row.lt k hk).1)
      go_roundw
      case rel => exact ⟨k + 1, v', by omega, by go_num, rfl, ⟨hb3, xs ++ [⟨rec0 (a + k), some ⟨wr.heap.size, 0, none⟩, 1⟩], MineInv.push HI2.out HXB.out rfl HXA.out hown hgr hblk, by rw [List.map_append, HX.out, recsR_snoc]; rfl⟩⟩
      case measure => simp [intOf]; omega
    · obtain rfl : k = n := by omega
      go_wp2_with fail
      go_ret
      exact ⟨A', c', xs, rfl, HI.out.recs, HX.out, HB.out⟩
end Go.Proofs.Ytojghgeemdpmpaa
