/- The program's Acquire. -/
import Derived.Test.YtmpaogmfceldjaaDoorKW9
namespace Go.Proofs.YtmpaogmfceldjaaDoor
open Go.RowKit
open Go.Sort (grow)

theorem acq_now (s : PS) (now : Int) : ((acqG s now).2.2.2 = 0 → (acqG s now).1.now = now) ∧ ((acqG s now).2.2.2 ≠ 0 → (acqG s now).1 = s) := by
  unfold acqG
  split
  · simp
  · split
    · simp
    · split <;> simp
def tup3 (G : PS × ByteArray × Int × Int) : Value := .tuple #[.string G.2.1, .int .i64 G.2.2.1, .int .i64 G.2.2.2]
theorem ret_tup3 {G : PS × ByteArray × Int × Int} {a : ByteArray} {b c : Int} (h : G.2 = (a, b, c)) : Ending.returned (.tuple #[.string a, .int .i64 b, .int .i64 c]) = .returned (tup3 G) := by unfold tup3; rw [h]
set_option maxHeartbeats 4000000 in
set_option maxRecDepth 20000 in
theorem Acquire_any {w : World} {B p m c : Nat} {A : Option Addr} {s : PS} (hP : PoolAt w B p m A c s) (hok : s.ok) (hbt : s.bt ≤ 1000000) (hX : LaidW w) (now : Int) :
    Calls Tryd.prog 11 #[.pointer (some ⟨p, 0, none⟩), .int .i64 now] w fun e w' => e = .returned (tup3 (acqS s now)) ∧ PoolTo w B p m A (acqS s now).1 w' := by
  have HY : rdy s now = 0 → acqS s now = acqG s now := fun h => by unfold acqS; rw [if_pos h]
  have HN : rdy s now ≠ 0 → acqS s now = (s, ⟨#[]⟩, 0, rdy s now) := fun h => by unfold acqS; rw [if_neg h]
  have HGG := Lib.hid (And.intro HY HN)
  have hb1 : Below w.heap.size w ((((w.alloc (.cells #[.pointer (some ⟨p, 0, none⟩)] 25)).alloc (.cells #[.int .i64 now] 3)).alloc (.cells #[.string ⟨#[]⟩] 9)).alloc (.cells #[.int .i64 0] 3)) := ((((Below.refl _ _).alloc (Nat.le_refl _) _).alloc (by simp) _).alloc (by simp; omega) _).alloc (by simp; omega) _
  have hcap : AcqCaps w ((((w.alloc (.cells #[.pointer (some ⟨p, 0, none⟩)] 25)).alloc (.cells #[.int .i64 now] 3)).alloc (.cells #[.string ⟨#[]⟩] 9)).alloc (.cells #[.int .i64 0] 3)) p w.heap.size (w.heap.size + 1) (w.heap.size + 2) (w.heap.size + 3) now ⟨#[]⟩ 0 :=
    ⟨(((Blk.new w _ _).alloc _).alloc _).alloc _, ((Blk.new1 w _ _ _).alloc _).alloc _, (Blk.new2 w _ _ _ _).alloc _, Blk.new3 w _ _ _ _ _, by omega, by omega, by omega, hP.blk.lt⟩
  have hX1 := hX.below hb1
  have hP1 := hP.below hb1
  have hcl : rdy s now = 0 → Calls Tryd.prog 34 #[.pointer (some ⟨w.heap.size, 0, none⟩), .pointer (some ⟨w.heap.size + 1, 0, none⟩), .pointer (some ⟨w.heap.size + 2, 0, none⟩), .pointer (some ⟨w.heap.size + 3, 0, none⟩)] ((((w.alloc (.cells #[.pointer (some ⟨p, 0, none⟩)] 25)).alloc (.cells #[.int .i64 now] 3)).alloc (.cells #[.string ⟨#[]⟩] 9)).alloc (.cells #[.int .i64 0] 3)) (AcqIn s (acqG s now) w B p m A (w.heap.size + 2) (w.heap.size + 3)) := fun hr => by
    rcases wk_cases s.l s.l.length with ⟨h, _⟩ | ⟨j, y, h, _, hj, hy⟩
    · have ht := rdy_now hr
      exact acqf_boot hP hb1 hok now ⟨ht.1, ht.2.1⟩ hX1 hbt hcap (by omega) (by omega) h
    · exact acqf_warm hP hb1 hok now hcap (by omega) (by omega) h hj hy
  have HCL := Lib.hid (call_to (w0 := w) hP1 hok.mx.1 now 34 enters_acq #[.pointer (some ⟨w.heap.size, 0, none⟩), .pointer (some ⟨w.heap.size + 1, 0, none⟩), .pointer (some ⟨w.heap.size + 2, 0, none⟩), .pointer (some ⟨w.heap.size + 3, 0, none⟩)] ((acqG s now).1, (acqG s now).2.2.2) (AcqX (w.heap.size + 2) (w.heap.size + 3) (acqG s now)) (acq_now s now).1 (acq_now s now).2 hcl (fun w' n ⟨h1, h2⟩ => by
    have hpl := hP.blk.lt
    exact ⟨by rw [World.cell?_setCell_other _ _ _ _ (fun e => by have := congrArg Addr.block e; simp at this; omega)]; exact h1, by rw [World.cell?_setCell_other _ _ _ _ (fun e => by have := congrArg Addr.block e; simp at this; omega)]; exact h2⟩))
  have HB1 := Lib.hid hb1
  have HP := Lib.hid hP
  have HC := Lib.hid hcap
  clear HY HN hb1 hX1 hP1 hP hok hcl hcap hX hbt
  go_enter Tryd.func11, Tryd.ntmps11
  go_wp2_with fail
  refine HCL.out.mono ?_
  rintro e W (⟨hr, rfl, rfl⟩ | ⟨hr, rfl, hT, hx1, hx2⟩)
  · have HD := Lib.hid (HGG.out.2 hr)
    clear hr
    have s1 : ((((w.alloc (.cells #[.pointer (some ⟨p, 0, none⟩)] 25)).alloc (.cells #[.int .i64 now] 3)).alloc (.cells #[.string ⟨#[]⟩] 9)).alloc (.cells #[.int .i64 0] 3)).cell? ⟨w.heap.size + 2, 0, none⟩ = some (.string ⟨#[]⟩) := HC.out.s_.cell 0
    have a1 : ((((w.alloc (.cells #[.pointer (some ⟨p, 0, none⟩)] 25)).alloc (.cells #[.int .i64 now] 3)).alloc (.cells #[.string ⟨#[]⟩] 9)).alloc (.cells #[.int .i64 0] 3)).cell? ⟨w.heap.size + 3, 0, none⟩ = some (.int .i64 0) := HC.out.a_.cell 0
    have HT := Lib.hid (PoolTo.stay HP.out HB1.out)
    generalize rdy s now = rr at *
    generalize (((w.alloc (.cells #[.pointer (some ⟨p, 0, none⟩)] 25)).alloc (.cells #[.int .i64 now] 3)).alloc (.cells #[.string ⟨#[]⟩] 9)).alloc (.cells #[.int .i64 0] 3) = W at *
    go_wp2_with fail
    go_quiet (fail)
    go_wp2_with fail
    go_ret3
    refine ⟨ret_tup3 (G := acqS s now) (a := ⟨#[]⟩) (b := 0) (c := rr) (by rw [HD.out]), ?_⟩
    rw [HD.out]
    exact HT.out.below (below_drewN' W.heap.size W _)
  · have HD := Lib.hid (HGG.out.1 hr)
    have HT := Lib.hid hT
    clear hr hT
    generalize hG : acqG s now = G at *
    obtain ⟨t, a, b, n⟩ := G
    simp only at hx1 hx2
    have HG := Lib.hid (HD.out)
    clear hG
    go_wp2_with fail
    go_quiet (fail)
    go_wp2_with fail
    go_ret3
    refine ⟨ret_tup3 (G := acqS s now) (a := a) (b := b) (c := n) (by rw [HD.out]), ?_⟩
    rw [HD.out]
    exact HT.out.below (below_drewN' W.heap.size W _)
end Go.Proofs.YtmpaogmfceldjaaDoor
