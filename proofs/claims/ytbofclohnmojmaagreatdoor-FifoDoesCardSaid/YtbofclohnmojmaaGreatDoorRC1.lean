/- The reference's receipt, blocked, has. -/
import Derived.Test.YtbofclohnmojmaaGreatDoorRC0
namespace Go.Proofs.YtbofclohnmojmaaGreatDoor
open Go.RowKit
open Go.Sort (grow)

section
variable {w : World} {B q c c' : Nat} {A A' : Option Addr} {s : QS}
set_option maxHeartbeats 4000000 in
theorem rreceipt_any (x : En) (w : World) (h0 : 0 ≤ x.rcv) (h1 : x.rcv ≤ 1000) (hs : x.ev.id.size ≤ 1048576) :
    Calls Tryz.prog 60 #[x.rval] w fun e w' => e = .returned (.string (rcpS x.ev.id x.rcv)) ∧ Below w.heap.size w w' := by
  have hl := Lib.itoa_length_le x.rcv (by omega) (by omega)
  have bx := Blk.new w 78 #[.string x.ev.id, .string x.ev.tn, .string x.ev.src, .string x.ev.key, .int .i64 x.ev.at_, .string x.ev.cause, .slice x.ev.A x.ev.body.length x.ev.cp, .int .i64 x.vis, .int .i64 x.rcv, .bool x.held]
  have HB0 := Lib.hid (al_new w (.cells #[.string x.ev.id, .string x.ev.tn, .string x.ev.src, .string x.ev.key, .int .i64 x.ev.at_, .string x.ev.cause, .slice x.ev.A x.ev.body.length x.ev.cp, .int .i64 x.vis, .int .i64 x.rcv, .bool x.held] 78))
  unfold En.rval
  go_enter Tryz.func60, Tryz.ntmps60
  go_upto_region 1 with fail
  generalize w.alloc (.cells #[.string x.ev.id, .string x.ev.tn, .string x.ev.src, .string x.ev.key, .int .i64 x.ev.at_, .string x.ev.cause, .slice x.ev.A x.ev.body.length x.ev.cp, .int .i64 x.vis, .int .i64 x.rcv, .bool x.held] 78) = w1 at *
  have e0 : w1.cell? ⟨w.heap.size, 0, none⟩ = some (.string x.ev.id) := bx.cell 0
  have e8 : w1.cell? ⟨w.heap.size, 8, none⟩ = some (.int .i64 x.rcv) := bx.cell 8
  have r0 := fun d os => cell_regrown e0 d os
  have r8 := fun d os => cell_regrown e8 d os
  have HC := Lib.hid (fun d os => Calls.regrown_of (rFormat_any x.rcv (grow (redrawn w1 d) os) (by omega) (by omega)))
  have hsz : (⟨(Lib.itoa x.rcv).toArray⟩ : ByteArray).size ≤ 21 := by rw [← size_len]; exact hl
  clear bx
  refine wp_region_quiet_below (by kernel_rfl) (by kernel_rfl) ?_
  repeat (go_big_quiet_step (first | (go_at_call 84; go_must (exact HC.out _ _))))
  refine wpQuiet_nil ?_
  intro _ hw'
  obtain ⟨⟨dq, osq⟩, hw''⟩ := hw'
  subst hw''
  have hb4 := below_regrown w1 dq osq
  have HB4 := Lib.hid (HB0.out.trans (hb4.mono HB0.out.size))
  clear hb4 r0 r8 HC
  generalize grow (redrawn w1 dq) osq = w2 at *
  go_wp2_with fail
  go_ret
  exact ⟨rfl, HB4.out⟩
/-- An item of the row. -/
theorem OwnR.item {l : List En} (h : OwnR w B (.slice A l.length c) l) {i : Nat} {x : En} (hx : l[i]? = some x) : ∃ g, A = some ⟨g, 0, none⟩ ∧ g < w.heap.size ∧ l.length ≤ c ∧ ∀ j u, x.rcells[j]? = some u → w.cell? ⟨g, i * 10 + j, none⟩ = some u := by
  have hl : 0 < l.length := by have := (List.getElem?_eq_some_iff.1 hx).1; omega
  obtain ⟨g, c2, e, _, hc, _, hg, hcell, _⟩ := own_at h hl
  injection e with e _ e3
  subst e3
  refine ⟨g, e, hg, hc, fun j u hj => ?_⟩
  have hjk : j < 10 := by rw [← En.rlen x]; exact (List.getElem?_eq_some_iff.1 hj).1
  exact hcell _ _ (by rw [flat_get En.rlen l i j x hx hjk]; exact hj)
def blkB (l : List En) (key : ByteArray) (j : Nat) : Bool := (l.take j).any fun y => eqS y.ev.key key
theorem blk_step {l : List En} {j : Nat} {key : ByteArray} {y : En} (h : l[j]? = some y) : blkB l key (j + 1) = (blkB l key j || eqS y.ev.key key) := by
  unfold blkB
  rw [take_snocs h, List.any_append]
  simp
theorem keyAt_blk {l : List En} {k : Nat} {x : En} : keyAt l k x.ev.key = blkB l x.ev.key k := by
  unfold keyAt blkB
  congr 1
  funext y
  unfold eqS
  rw [Bool.beq_comm]
theorem blk_yes {l : List En} {k j : Nat} {key : ByteArray} {y : En} (h : l[j]? = some y) (hj : j < k) (hy : eqS y.ev.key key = true) : blkB l key k = true := by
  unfold blkB
  rw [List.any_eq_true]
  exact ⟨y, List.mem_of_getElem? (i := j) (by rw [List.getElem?_take_of_lt hj]; exact h), hy⟩
set_option maxHeartbeats 4000000 in
theorem blocked_any {l : List En} (h : OwnR w B (.slice A l.length c) l) (hn : l.length ≤ 1000) {k : Nat} {x : En} (hx : l[k]? = some x) :
    Calls Tryz.prog 59 #[.slice A l.length c, .int .i64 k] w fun e w' => e = .returned (.bool (keyAt l k x.ev.key)) ∧ Below w.heap.size w w' := by
  have HK := Lib.hid (keyAt_blk (l := l) (k := k) (x := x))
  obtain ⟨gk, rfl, hgk, hlc, hck⟩ := h.item hx
  have hkl := (List.getElem?_eq_some_iff.1 hx).1
  have k3 : w.cell? ⟨gk, k * 10 + 3, none⟩ = some (.string x.ev.key) := hck 3 _ rfl
  have HG := Lib.hid (fun j y hy => h.item (i := j) (x := y) hy)
  have hkI : (k : Int) < l.length := by omega
  have hk0 : (0 : Int) ≤ k := by omega
  clear h hx hck
  go_enter Tryz.func59, Tryz.ntmps59
  go_wp2_with fail
  go_loopw [5] (fun v5 wr => ∃ j : Nat, j ≤ k ∧ v5 = .int .i64 j ∧ blkB l x.ev.key j = false ∧ Below w.heap.size w wr) (fun i _ => k - (intOf i).toNat)
  case atStart => exact ⟨0, Nat.zero_le _, rfl, rfl, Below.refl _ _⟩
  case round =>
    obtain ⟨j, hj, rfl, hno, hb⟩ := hrel
    have HN := Lib.hid hno
    have HB := Lib.hid hb
    have k3 := (hb.cell (p := ⟨gk, k * 10 + 3, none⟩) hgk).trans k3
    clear hno
    by_cases hlt : j < k
    · have hy := List.getElem?_eq_getElem (show j < l.length by omega)
      obtain ⟨g2, e2, hg2, -, hc2⟩ := HG.out j _ hy
      injection e2 with e2
      injection e2 with e2 _ _
      subst e2
      have j3 : wr.cell? ⟨gk, j * 10 + 3, none⟩ = some (.string l[j].ev.key) := (hb.cell (p := ⟨gk, j * 10 + 3, none⟩) hgk).trans (hc2 3 _ rfl)
      have HS := Lib.hid (blk_step (key := x.ev.key) hy)
      have HY := Lib.hid (fun h => blk_yes (key := x.ev.key) hy hlt h)
      clear hc2 hy hb
      generalize l[j] = y at *
      have hjI : (j : Int) < l.length := by omega
      have hjk : (j : Int) < k := by omega
      have hj0 : (0 : Int) ≤ j := by omega
      have ht := toL_eq y.ev.key x.ev.key
      have HW := Lib.hid (w64 (x := (j : Int) + 1) (by omega) (by omega))
      cases hq : eqS y.ev.key x.ev.key
      · have HN2 := Lib.hid (show blkB l x.ev.key (j + 1) = false by rw [HS.out, HN.out, hq]; rfl)
        rw [hq] at ht
        clear hq
        go_wp2_with fail
        go_quiet (fail)
        have hbq := below_drewN' wr.heap.size wr nq
        have HB2 := Lib.hid (HB.out.trans (hbq.mono HB.out.size))
        clear hbq
        generalize wr.drewN nq = w2 at *
        obtain ⟨wk1, wk2⟩ := HW.out
        go_wp2_with fail
        clear wk1 wk2
        go_roundw
        case rel => exact ⟨j + 1, by omega, by first | rfl | go_num, HN2.out, HB2.out⟩
        case measure => simp [intOf] <;> omega
      · have HR := Lib.hid (show true = keyAt l k x.ev.key by rw [HK.out, HY.out hq])
        rw [hq] at ht
        clear hq
        go_wp2_with fail
        go_quiet (fail)
        have hbq := below_drewN' wr.heap.size wr nq
        have HB2 := Lib.hid (HB.out.trans (hbq.mono HB.out.size))
        clear hbq
        generalize wr.drewN nq = w2 at *
        go_wp2_with fail
        go_ret
        exact ⟨ret_bool HR.out, HB2.out⟩
    · obtain rfl : j = k := by omega
      have HR := Lib.hid (show false = keyAt l j x.ev.key by rw [HK.out, HN.out])
      clear hb
      go_wp2_with fail
      go_ret
      exact ⟨ret_bool HR.out, HB.out⟩
end
end Go.Proofs.YtbofclohnmojmaaGreatDoor
