/- The walks of Decide and Dead and their references. -/
import Derived.Test.YtpkekfhnpcjgkaaDoorW4
import Derived.Test.YtpkekfhnpcjgkaaDoorU4
namespace Go.Proofs.YtpkekfhnpcjgkaaDoor
open Go.RowKit
open Nw
open Go.Sort (grow)

def rcells (r : Rule) : List Value := [.bool r.al, .int .i64 r.ad, .int .i64 r.bi, .int .i64 r.lo, .int .i64 r.hi]
theorem rcells_len (r : Rule) : (rcells r).length = 5 := rfl
/-- A slice of rules. -/
def RulesAt (w : World) (B : Nat) (A : Option Addr) (l : List Rule) : Prop := Reads w B 5 A l.length (l.flatMap rcells)
/-- No rule before the k-th matches. -/
def NoM (l : List Rule) (a p : Int) (k : Nat) : Prop := ∀ (j : Nat) (x : Rule), j < k → l[j]? = some x → x.mt a p = false
theorem NoM.zero (l : List Rule) (a p : Int) : NoM l a p 0 := fun j _ h => by omega
theorem NoM.step {l : List Rule} {a p : Int} {k : Nat} {r : Rule} (h : NoM l a p k) (hr : l[k]? = some r) (hm : r.mt a p = false) : NoM l a p (k + 1) := by
  intro j x hj hx
  by_cases e : j = k
  · subst e; rw [hr] at hx; injection hx with hx; rw [← hx]; exact hm
  · exact h j x (by omega) hx
def aggD (x : Bool × Int) : Value := .agg #[.bool x.1, .int .i64 x.2]
theorem ret_aggD {x : Bool × Int} {a : Bool} {b : Int} (h : x = (a, b)) : Ending.returned (.agg #[.bool a, .int .i64 b]) = .returned (aggD x) := by subst h; rfl
/-- The five cells of rule k, as a walk asks for them. -/
theorem rule_cells {w : World} {B : Nat} {A : Option Addr} {l : List Rule} (h : RulesAt w B A l) {k : Nat} {al : Bool} {ad bi lo hi : Int} (hk : l[k]? = some ⟨al, ad, bi, lo, hi⟩) :
    ∃ b o, A = some ⟨b, o, none⟩ ∧ b < B ∧ w.cell? ⟨b, o + k * 5, none⟩ = some (.bool al) ∧ w.cell? ⟨b, o + k * 5 + 1, none⟩ = some (.int .i64 ad) ∧ w.cell? ⟨b, o + k * 5 + 2, none⟩ = some (.int .i64 bi) ∧ w.cell? ⟨b, o + k * 5 + 3, none⟩ = some (.int .i64 lo) ∧ w.cell? ⟨b, o + k * 5 + 4, none⟩ = some (.int .i64 hi) := by
  obtain ⟨b, o, e, hb, hc⟩ := Reads.elem rcells_len h hk
  exact ⟨b, o, e, hb, hc 0 _ rfl, hc 1 _ rfl, hc 2 _ rfl, hc 3 _ rfl, hc 4 _ rfl⟩
theorem RulesAt.below {w w' : World} {B : Nat} {A : Option Addr} {l : List Rule} (h : RulesAt w B A l) (hb : Below B w w') : RulesAt w' B A l := Reads.below h hb
theorem RulesAt.more {w : World} {B B' : Nat} {A : Option Addr} {l : List Rule} (h : RulesAt w B A l) (hb : B ≤ B') : RulesAt w B' A l := Reads.more h hb
set_option maxHeartbeats 2000000 in
theorem Decide_any (A : Option Addr) (c : Nat) (l : List Rule) (a p : Int) (w : World) (hl : RulesAt w w.heap.size A l) (hn : l.length ≤ 1000000) :
    Calls Tryd.prog 51 #[.slice A l.length c, .int .i64 a, .int .i64 p] w fun e w' => e = .returned (aggD (decI l a p)) ∧ Below w.heap.size w w' := by
  have HL := Lib.hid hl
  clear hl
  go_enter Tryd.func51, Tryd.ntmps51
  go_wp2_with fail
  have br : Blk ((w).alloc (.cells #[.bool false, .int .i64 0] 53)) (w.heap.size) 53 #[.bool false, .int .i64 0] := Blk.new _ _ _
  have HB1 := Lib.hid (show Below w.heap.size w ((w).alloc (.cells #[.bool false, .int .i64 0] 53)) from (Below.refl w.heap.size w).alloc (by first | exact Nat.le_refl _ | omega | (simp; done) | (simp; omega)) _)
  generalize (w).alloc (.cells #[.bool false, .int .i64 0] 53) = w1 at *
  have hz1 : w.heap.size ≤ w1.heap.size := HB1.out.size
  go_loopw [11] (fun i wr => ∃ k : Nat, k ≤ l.length ∧ i = .int .i64 k ∧ NoM l a p k ∧ Below w.heap.size w wr ∧ Blk wr w.heap.size 53 #[.bool false, .int .i64 0]) (fun i _ => l.length - (intOf i).toNat)
  case atStart => exact ⟨0, Nat.zero_le _, rfl, NoM.zero _ _ _, HB1.out, br⟩
  case round =>
    obtain ⟨k, hk, rfl, hno, hbr, br⟩ := hrel
    have HR := Lib.hid hbr
    have hzr := hbr.size
    by_cases hlt : k < l.length
    · obtain ⟨r, hr⟩ : ∃ r, l[k]? = some r := ⟨_, List.getElem?_eq_getElem hlt⟩
      obtain ⟨al, ad, bi, lo, hi⟩ := r
      obtain ⟨b, o, rfl, hbl, c0, c1, c2, c3, c4⟩ := rule_cells (HL.out.below hbr) hr
      cases hm : (Rule.mk al ad bi lo hi).mt a p
      · have HN := Lib.hid (NoM.step hno hr hm)
        have HM := Lib.hid hm
        clear hno hr hm hbr
        have l_br := br.lt
        go_wp2_with fail
        refine (Matches_any _ _ _ _ _ _ _ _).mono ?_
        rintro e w2 ⟨rfl, hb⟩
        have br : Blk w2 (w.heap.size) 53 #[.bool false, .int .i64 0] := ((br).alloc _).on hb
        have bl : Blk w2 (wr.heap.size) 42 #[.bool al, .int .i64 ad, .int .i64 bi, .int .i64 lo, .int .i64 hi] := (Blk.new _ _ _).on hb
        have hbz := hb.size
        have HB2 := Lib.hid (((HR.out).alloc (by first | exact Nat.le_refl _ | omega | (simp; done) | (simp; omega)) _).trans (hb.mono (by first | exact Nat.le_refl _ | omega | (simp; done) | (simp; omega))))
        have hz2 : w.heap.size ≤ w2.heap.size := HB2.out.size
        clear hb hbz
        rw [HM.out]
        go_wp2_with fail
        go_roundw
        case rel => exact ⟨k + 1, by omega, by go_num, HN.out, HB2.out, br⟩
        case measure => simp [intOf]; omega
      · have HD := Lib.hid (show decI l a p = (al, (k : Int)) from dec_some hr hm hno)
        have HM := Lib.hid hm
        have HH := Lib.hid hr
        clear hno hr hm hbr
        have l_br := br.lt
        go_wp2_with fail
        refine (Matches_any _ _ _ _ _ _ _ _).mono ?_
        rintro e w2 ⟨rfl, hb⟩
        have br : Blk w2 (w.heap.size) 53 #[.bool false, .int .i64 0] := ((br).alloc _).on hb
        have bl : Blk w2 (wr.heap.size) 42 #[.bool al, .int .i64 ad, .int .i64 bi, .int .i64 lo, .int .i64 hi] := (Blk.new _ _ _).on hb
        have hbz := hb.size
        have HB2 := Lib.hid (((HR.out).alloc (by first | exact Nat.le_refl _ | omega | (simp; done) | (simp; omega)) _).trans (hb.mono (by first | exact Nat.le_refl _ | omega | (simp; done) | (simp; omega))))
        have hz2 : w.heap.size ≤ w2.heap.size := HB2.out.size
        clear hb hbz
        rw [HM.out]
        have q_br0 : w2.cell? ⟨w.heap.size, 0, none⟩ = some (.bool false) := br.cell 0
        have q_br1 : w2.cell? ⟨w.heap.size, 1, none⟩ = some (.int .i64 0) := br.cell 1
        have q_bl0 : w2.cell? ⟨wr.heap.size, 0, none⟩ = some (.bool al) := bl.cell 0
        have q_bl1 : w2.cell? ⟨wr.heap.size, 1, none⟩ = some (.int .i64 ad) := bl.cell 1
        have q_bl2 : w2.cell? ⟨wr.heap.size, 2, none⟩ = some (.int .i64 bi) := bl.cell 2
        have q_bl3 : w2.cell? ⟨wr.heap.size, 3, none⟩ = some (.int .i64 lo) := bl.cell 3
        have q_bl4 : w2.cell? ⟨wr.heap.size, 4, none⟩ = some (.int .i64 hi) := bl.cell 4
        have f_br0 : w2.frozen? ⟨w.heap.size, 0, none⟩ = false := br.frozen 0
        have f_br1 : w2.frozen? ⟨w.heap.size, 1, none⟩ = false := br.frozen 1
        go_wp2_with fail
        exact bodyPost_ret (v := .agg #[.bool al, .int .i64 k]) (by simp [results, Tryd.results51, go_sem, q_br0, q_br1]) rfl ⟨ret_aggD HD.out, below_set2 (HB2.out) (by first | exact Nat.le_refl _ | omega | (simp; done) | (simp; omega)) _ _⟩
    · obtain rfl : k = l.length := by omega
      have HD := Lib.hid (show decI l a p = (false, -1) from dec_none fun j x hx => hno j x (List.getElem?_eq_some_iff.1 hx).1 hx)
      clear hno hbr
      have q_br0 : wr.cell? ⟨w.heap.size, 0, none⟩ = some (.bool false) := br.cell 0
      have q_br1 : wr.cell? ⟨w.heap.size, 1, none⟩ = some (.int .i64 0) := br.cell 1
      have f_br0 : wr.frozen? ⟨w.heap.size, 0, none⟩ = false := br.frozen 0
      have f_br1 : wr.frozen? ⟨w.heap.size, 1, none⟩ = false := br.frozen 1
      go_wp2_with fail
      exact bodyPost_ret (v := .agg #[.bool false, .int .i64 (-1)]) (by simp [results, Tryd.results51, go_sem, q_br0, q_br1]) rfl ⟨ret_aggD HD.out, below_set2 (HR.out) (by first | exact Nat.le_refl _ | omega | (simp; done) | (simp; omega)) _ _⟩
set_option maxHeartbeats 2000000 in
theorem rDecide_any (A : Option Addr) (c : Nat) (l : List Rule) (a p : Int) (w : World) (hl : RulesAt w w.heap.size A l) (hn : l.length ≤ 1000000) :
    Calls Tryd.prog 52 #[.slice A l.length c, .int .i64 a, .int .i64 p] w fun e w' => e = .returned (aggD (decI l a p)) ∧ Below w.heap.size w w' := by
  have HL := Lib.hid hl
  clear hl
  go_enter Tryd.func52, Tryd.ntmps52
  go_wp2_with fail
  have br : Blk ((w).alloc (.cells #[.bool false, .int .i64 0] 53)) (w.heap.size) 53 #[.bool false, .int .i64 0] := Blk.new _ _ _
  have HB1 := Lib.hid (show Below w.heap.size w ((w).alloc (.cells #[.bool false, .int .i64 0] 53)) from (Below.refl w.heap.size w).alloc (by first | exact Nat.le_refl _ | omega | (simp; done) | (simp; omega)) _)
  generalize (w).alloc (.cells #[.bool false, .int .i64 0] 53) = w1 at *
  have hz1 : w.heap.size ≤ w1.heap.size := HB1.out.size
  go_loopw [7] (fun i wr => ∃ k : Nat, k ≤ l.length ∧ i = .int .i64 k ∧ NoM l a p k ∧ Below w.heap.size w wr ∧ Blk wr w.heap.size 53 #[.bool false, .int .i64 0]) (fun i _ => l.length - (intOf i).toNat)
  case atStart => exact ⟨0, Nat.zero_le _, rfl, NoM.zero _ _ _, HB1.out, br⟩
  case round =>
    obtain ⟨k, hk, rfl, hno, hbr, br⟩ := hrel
    have HR := Lib.hid hbr
    have hzr := hbr.size
    by_cases hlt : k < l.length
    · obtain ⟨r, hr⟩ : ∃ r, l[k]? = some r := ⟨_, List.getElem?_eq_getElem hlt⟩
      obtain ⟨al, ad, bi, lo, hi⟩ := r
      obtain ⟨b, o, rfl, hbl, c0, c1, c2, c3, c4⟩ := rule_cells (HL.out.below hbr) hr
      cases hm : (Rule.mk al ad bi lo hi).mt a p
      · have HN := Lib.hid (NoM.step hno hr hm)
        have HM := Lib.hid hm
        clear hno hr hm hbr
        have l_br := br.lt
        go_wp2_with fail
        refine (rMatches_any _ _ _ _ _ _ _ _).mono ?_
        rintro e w2 ⟨rfl, hb⟩
        have br : Blk w2 (w.heap.size) 53 #[.bool false, .int .i64 0] := (br).on hb
        have hbz := hb.size
        have HB2 := Lib.hid ((HR.out).trans (hb.mono (by first | exact Nat.le_refl _ | omega | (simp; done) | (simp; omega))))
        have hz2 : w.heap.size ≤ w2.heap.size := HB2.out.size
        clear hb hbz
        rw [HM.out]
        go_wp2_with fail
        go_roundw
        case rel => exact ⟨k + 1, by omega, by go_num, HN.out, HB2.out, br⟩
        case measure => simp [intOf]; omega
      · have HD := Lib.hid (show decI l a p = (al, (k : Int)) from dec_some hr hm hno)
        have HM := Lib.hid hm
        have HH := Lib.hid hr
        clear hno hr hm hbr
        have l_br := br.lt
        go_wp2_with fail
        refine (rMatches_any _ _ _ _ _ _ _ _).mono ?_
        rintro e w2 ⟨rfl, hb⟩
        have br : Blk w2 (w.heap.size) 53 #[.bool false, .int .i64 0] := (br).on hb
        have hbz := hb.size
        have HB2 := Lib.hid ((HR.out).trans (hb.mono (by first | exact Nat.le_refl _ | omega | (simp; done) | (simp; omega))))
        have hz2 : w.heap.size ≤ w2.heap.size := HB2.out.size
        clear hb hbz
        rw [HM.out]
        have c0' : w2.cell? ⟨b, o + k * 5, none⟩ = some (.bool al) := by
          obtain ⟨b2, o2, e2, -, c5, -⟩ := rule_cells (HL.out.below HB2.out) HH.out
          injection e2 with e2
          injection e2 with e3 e4
          subst e3 e4
          exact c5
        have q_br0 : w2.cell? ⟨w.heap.size, 0, none⟩ = some (.bool false) := br.cell 0
        have q_br1 : w2.cell? ⟨w.heap.size, 1, none⟩ = some (.int .i64 0) := br.cell 1
        have f_br0 : w2.frozen? ⟨w.heap.size, 0, none⟩ = false := br.frozen 0
        have f_br1 : w2.frozen? ⟨w.heap.size, 1, none⟩ = false := br.frozen 1
        go_wp2_with fail
        exact bodyPost_ret (v := .agg #[.bool al, .int .i64 k]) (by simp [results, Tryd.results52, go_sem, q_br0, q_br1]) rfl ⟨ret_aggD HD.out, below_set2 (HB2.out) (by first | exact Nat.le_refl _ | omega | (simp; done) | (simp; omega)) _ _⟩
    · obtain rfl : k = l.length := by omega
      have HD := Lib.hid (show decI l a p = (false, -1) from dec_none fun j x hx => hno j x (List.getElem?_eq_some_iff.1 hx).1 hx)
      clear hno hbr
      have q_br0 : wr.cell? ⟨w.heap.size, 0, none⟩ = some (.bool false) := br.cell 0
      have q_br1 : wr.cell? ⟨w.heap.size, 1, none⟩ = some (.int .i64 0) := br.cell 1
      have f_br0 : wr.frozen? ⟨w.heap.size, 0, none⟩ = false := br.frozen 0
      have f_br1 : wr.frozen? ⟨w.heap.size, 1, none⟩ = false := br.frozen 1
      go_wp2_with fail
      exact bodyPost_ret (v := .agg #[.bool false, .int .i64 (-1)]) (by simp [results, Tryd.results52, go_sem, q_br0, q_br1]) rfl ⟨ret_aggD HD.out, below_set2 (HR.out) (by first | exact Nat.le_refl _ | omega | (simp; done) | (simp; omega)) _ _⟩
end Go.Proofs.YtpkekfhnpcjgkaaDoor
