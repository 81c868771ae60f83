/- The walks of the comparisons of lists, where the two are equal. -/
import Derived.Test.YtojghgeemdpmpaaBW9
namespace Go.Proofs.Ytojghgeemdpmpaa
open Go.RowKit
open Go.Sort (grow)

theorem same_out (x y : RecX) (h : x.r = y.r) (W : World) (d : Nat) (os : Array Obj) (h1 : BodyAt W W.heap.size x) (h2 : BodyAt W W.heap.size y) (hn : x.r.body.length ≤ 3518437208780) :
    Calls Try.prog 37 #[.agg #[.int .i64 x.r.shard, .int .i64 x.r.seq, .int .i64 x.r.at_, .string x.r.id, .string x.r.tenant, .string x.r.source, .string x.r.key, .int .i64 x.r.eat, .string x.r.cause, .slice x.ba x.r.body.length x.bc], .agg #[.int .i64 y.r.shard, .int .i64 y.r.seq, .int .i64 y.r.at_, .string y.r.id, .string y.r.tenant, .string y.r.source, .string y.r.key, .int .i64 y.r.eat, .string y.r.cause, .slice y.ba y.r.body.length y.bc]] (grow (redrawn W d) os) fun e w' => e = .returned (.bool true) ∧ ∃ p : Regrown, w' = grow (redrawn W p.d) p.os := by
  obtain ⟨r, a1, c1⟩ := x
  obtain ⟨r', a2, c2⟩ := y
  obtain rfl : r = r' := h
  exact Calls.regrown_of (same_any r a1 a2 c1 c2 _ (Reads.more (Reads.below h1 (below_regrown _ _ _)) (below_regrown _ _ _).size) (Reads.more (Reads.below h2 (below_regrown _ _ _)) (below_regrown _ _ _).size) hn)

set_option maxHeartbeats 1000000 in
theorem Same_any (xs ys : List RecX) (A A' : Option Addr) (c c' : Nat) (w : World) (h1 : RecsAt w w.heap.size A xs) (h2 : RecsAt w w.heap.size A' ys) (h : xs.map (·.r) = ys.map (·.r)) (hb : okB xs) (hn : xs.length ≤ 1034834473170) :
    Calls Try.prog 9 #[.slice A xs.length c, .slice A' ys.length c'] w fun e w' => e = .returned (.bool true) ∧ Below w.heap.size w w' := by
  have hlen : ys.length = xs.length := by have := congrArg List.length h; simpa using this.symm
  rw [hlen]
  have HL := Lib.hid hlen
  have HH := Lib.hid h
  clear hlen h
  go_enter Try.func9, Try.ntmps9
  go_wp2_with fail
  go_loopw [5, 13] (fun _ i wr => ∃ k : Nat, k ≤ xs.length ∧ i = .int .i64 k ∧ Below w.heap.size w wr) (fun _ i _ => xs.length - (intOf i).toNat)
  case atStart => exact ⟨0, Nat.zero_le _, rfl, Below.refl _ _⟩
  case round =>
    obtain ⟨k, hk, rfl, hbr⟩ := hrel
    have hzr := hbr.size
    have h1r := h1.below hbr
    have h2r := h2.below hbr
    clear h1 h2
    by_cases hlt : k < xs.length
    · have hlt' : k < ys.length := by rw [HL.out]; exact hlt
      have hltI : (k : Int) < xs.length := by omega
      obtain ⟨b, o, hA, hbl, ⟨c0, c1, c2, c3, c4, c5, c6, c7, c8, c9⟩⟩ := h1r.ten hlt
      obtain ⟨b', o', hA', hbl', ⟨d0, d1, d2, d3, d4, d5, d6, d7, d8, d9⟩⟩ := h2r.ten hlt'
      subst hA hA'
      have hr : xs[k].r = ys[k].r := by
        have h := HH.out
        have h3 := List.getElem?_eq_getElem hlt
        have h4 := List.getElem?_eq_getElem hlt'
        have h5 : (xs.map (·.r))[k]? = (ys.map (·.r))[k]? := by rw [h]
        rw [List.getElem?_map, List.getElem?_map, h3, h4] at h5
        simpa using h5
      have HR := Lib.hid hr
      have hbk : xs[k].r.body.length ≤ 3518437208780 := hb _ (List.getElem_mem hlt)
      have y1 : BodyAt wr wr.heap.size xs[k] := Reads.more (h1r.2 _ (List.getElem_mem hlt)) hzr
      have y2 : BodyAt wr wr.heap.size ys[k] := Reads.more (h2r.2 _ (List.getElem_mem hlt')) hzr
      have Y1 := Lib.hid y1
      have Y2 := Lib.hid y2
      have hbz : b < wr.heap.size := by omega
      have hbz' : b' < wr.heap.size := by omega
      clear y1 y2 h1r h2r hr
      go_wp2_with fail
      refine wp_region_quiet_below (by kernel_rfl) (by kernel_rfl) ?_
      repeat (go_big_quiet_step ((go_at_call 37; go_must (exact same_out xs[k] ys[k] HR.out wr _ _ Y1.out Y2.out hbk))))
      refine wpQuiet_nil ?_
      intro _ hw'
      obtain ⟨⟨dq, osq⟩, hw''⟩ := hw'
      subst hw''
      have hbq := below_regrown wr dq osq
      generalize grow (redrawn wr dq) osq = W2 at *
      have HB := Lib.hid (hbr.trans (hbq.mono hzr))
      clear c0 c1 c2 c3 c4 c5 c6 c7 c8 c9 d0 d1 d2 d3 d4 d5 d6 d7 d8 d9
      go_wp2
      go_roundw
      case rel => exact ⟨k + 1, by omega, by go_num, HB.out⟩
      case measure => simp [intOf]; omega
    · go_wp2
      go_ret
      exact ⟨rfl, hbr⟩
end Go.Proofs.Ytojghgeemdpmpaa
