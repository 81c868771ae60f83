/- The walk of the comparison of lists of batches, and of BatchCut. -/
import Derived.Test.YtfgohjoamifpiaaWH
namespace Go.Proofs.Ytfgohjoamifpiaa
open Go.RowKit
open Go.Sort (grow)

/-- A list of batches in memory. -/
def Bats (w : World) (A : Option Addr) (bs : List BatchX) : Prop := Reads w w.heap.size 1 A bs.length (bs.map BatchX.val) ∧ ∀ b ∈ bs, RecsAt w w.heap.size b.a b.l
theorem Bats.below {w w' : World} {A : Option Addr} {bs : List BatchX} (h : Bats w A bs) (hb : Below w.heap.size w w') : Bats w' A bs :=
  ⟨(h.1.below hb).more hb.size, fun b hbm => ((h.2 b hbm).below hb).more hb.size⟩
theorem Bats.of_out {w : World} {base c : Nat} {A : Option Addr} {bs : List BatchX} (h : OutInv w base (.slice A bs.length c) bs) (hb : ∀ b ∈ bs, ∀ x ∈ b.l, BodyAt w w.heap.size x) : Bats w A bs :=
  ⟨Reads.of_own h.row, fun b hbm => (h.own b hbm).recs (Nat.le_refl _) (hb b hbm)⟩
theorem Bats.nil (w : World) : Bats w none [] := ⟨Reads.none_, by simp⟩
theorem Bats.get {w : World} {A : Option Addr} {bs : List BatchX} (h : Bats w A bs) {k : Nat} (hk : k < bs.length) : ∃ b o, A = some ⟨b, o, none⟩ ∧ b < w.heap.size ∧ w.cell? ⟨b, o + k, none⟩ = some (.slice bs[k].a bs[k].l.length bs[k].c) := by
  obtain ⟨b, o, e, hb, hc⟩ := h.1.2 (by omega)
  exact ⟨b, o, e, hb, hc k _ (by simp [hk, BatchX.val])⟩

theorem Same_out (xs ys : List RecX) (A A' : Option Addr) (c c' : Nat) (W : World) (d : Nat) (os : Array Obj) (h1 : RecsAt W W.heap.size A xs) (h2 : RecsAt W W.heap.size A' ys) (h : xs.map (·.r) = ys.map (·.r)) (hb : sumBody xs ≤ 1000000) (hn : xs.length ≤ 1000000) :
    Calls Try.prog 16 #[.slice A xs.length c, .slice A' ys.length c'] (grow (redrawn W d) os) fun e w' => e = .returned (.bool true) ∧ ∃ p : Regrown, w' = grow (redrawn W p.d) p.os :=
  Calls.regrown_of (Same_any xs ys A A' c c' _ ((h1.below (below_regrown _ _ _)).more (below_regrown _ _ _).size) ((h2.below (below_regrown _ _ _)).more (below_regrown _ _ _).size) h hb hn)

set_option maxHeartbeats 1000000 in
theorem SameB_any (bs bs' : List BatchX) (A A' : Option Addr) (c c' : Nat) (w : World) (h1 : Bats w A bs) (h2 : Bats w A' bs') (h : bs.map (fun b => b.l.map (·.r)) = bs'.map (fun b => b.l.map (·.r))) (hb : ∀ b ∈ bs, sumBody b.l ≤ 1000000 ∧ b.l.length ≤ 1000000) (hn : bs.length ≤ 1000000) :
    Calls Try.prog 14 #[.slice A bs.length c, .slice A' bs'.length c'] w fun e w' => e = .returned (.bool true) ∧ Below w.heap.size w w' := by
  have hlen : bs'.length = bs.length := by have := congrArg List.length h; simpa using this.symm
  rw [hlen]
  have HL := Lib.hid hlen
  have HH := Lib.hid h
  clear hlen h
  go_enter Try.func14, Try.ntmps14
  go_wp2_with fail
  go_loopw [5, 13] (fun _ i wr => ∃ k : Nat, k ≤ bs.length ∧ i = .int .i64 k ∧ Below w.heap.size w wr) (fun _ i _ => bs.length - (intOf i).toNat)
  case atStart => exact ⟨0, Nat.zero_le _, rfl, Below.refl _ _⟩
  case round =>
    obtain ⟨k, hk, rfl, hbr⟩ := hrel
    have hzr := hbr.size
    have h1r := h1.below hbr
    have h2r := h2.below hbr
    clear h1 h2
    by_cases hlt : k < bs.length
    · have hlt' : k < bs'.length := by rw [HL.out]; exact hlt
      have hltI : (k : Int) < bs.length := by omega
      obtain ⟨b, o, hA, hbl, c0⟩ := h1r.get hlt
      obtain ⟨b', o', hA', hbl', d0⟩ := h2r.get hlt'
      subst hA hA'
      have hr : bs[k].l.map (·.r) = bs'[k].l.map (·.r) := by
        have h := HH.out
        have h3 := List.getElem?_eq_getElem hlt
        have h4 := List.getElem?_eq_getElem hlt'
        have h5 : (bs.map (fun b => b.l.map (·.r)))[k]? = (bs'.map (fun b => b.l.map (·.r)))[k]? := by rw [h]
        rw [List.getElem?_map, List.getElem?_map, h3, h4] at h5
        simpa using h5
      have HR := Lib.hid hr
      have Y1 := Lib.hid (h1r.2 _ (List.getElem_mem hlt))
      have Y2 := Lib.hid (h2r.2 _ (List.getElem_mem hlt'))
      have HB := Lib.hid (hb _ (List.getElem_mem hlt))
      clear h1r h2r hr hb
      go_wp2_with fail
      refine wp_region_quiet_below (by kernel_rfl) (by kernel_rfl) ?_
      repeat (go_big_quiet_step ((go_at_call 16; go_must (exact Same_out _ _ _ _ _ _ wr _ _ Y1.out Y2.out HR.out HB.out.1 HB.out.2))))
      refine wpQuiet_nil ?_
      intro _ hw'
      obtain ⟨⟨dq, osq⟩, hw''⟩ := hw'
      subst hw''
      have hbq := below_regrown wr dq osq
      generalize grow (redrawn wr dq) osq = W2 at *
      have HB2 := Lib.hid (hbr.trans (hbq.mono hzr))
      clear c0 d0
      go_wp2
      go_roundw
      case rel => exact ⟨k + 1, by omega, by go_num, HB2.out⟩
      case measure => simp [intOf]; omega
    · go_wp2
      go_ret
      exact ⟨rfl, hbr⟩
end Go.Proofs.Ytfgohjoamifpiaa
