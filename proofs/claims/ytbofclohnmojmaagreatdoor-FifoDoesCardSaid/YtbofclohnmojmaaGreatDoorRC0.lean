/- The reference's queue in memory; its small functions. -/
import Derived.Test.YtbofclohnmojmaaGreatDoorGR
import Derived.Test.YtbofclohnmojmaaGreatDoorRB9
import Derived.BigQuiet
namespace Go.Proofs.YtbofclohnmojmaaGreatDoor
open Go.RowKit
open Go.Sort (grow)

def rqC (s : QS) (A : Option Addr) (c : Nat) (A' : Option Addr) (c' : Nat) : Array Value :=
  #[.int .i64 s.v, .int .i64 s.r, .slice A s.l.length c, .slice A' s.d.length c', .int .i64 s.now]
/-- A row of items. -/
def OwnR (w : World) (B : Nat) (v : Value) (l : List En) : Prop := w.ownsRow B 78 10 v l.length (l.flatMap En.rcells)
structure RQ (w : World) (B q : Nat) (A : Option Addr) (c : Nat) (A' : Option Addr) (c' : Nat) (s : QS) : Prop where
  blk : Blk w q 68 (rqC s A c A' c')
  row : OwnR w B (.slice A s.l.length c) s.l
  dead : OwnV w B (.slice A' s.d.length c') s.d
  bl : ∀ x ∈ s.l, EvQ w B x.ev
  bd : ∀ e ∈ s.d, EvQ w B e
  hq : B ≤ q
section
variable {w w' : World} {B q c c' : Nat} {A A' : Option Addr} {s : QS}
theorem RQ.ne (h : RQ w B q A c A' c' s) : A.map (·.block) ≠ some q ∧ A'.map (·.block) ≠ some q ∧ ∀ k, A.map (·.block) = some k → A'.map (·.block) ≠ some k := by
  refine ⟨fun e => ?_, fun e => ?_, fun k e e' => ?_⟩
  · exact h.blk.off h.row (by decide) (k := q) (by rw [own_eq]; exact e) rfl
  · exact h.blk.off h.dead (by decide) (k := q) (by rw [own_eq]; exact e) rfl
  · obtain ⟨cs, hb⟩ := own_blk h.row (k := k) (by rw [own_eq]; exact e)
    exact hb.off h.dead (by decide) (k := k) (by rw [own_eq]; exact e') rfl
theorem RQ.foot_lt (h : RQ w B q A c A' c' s) : ∀ k, ff q A A' k → B ≤ k ∧ k < w.heap.size := by
  rintro k (rfl | e | e)
  · exact ⟨h.hq, h.blk.lt⟩
  · exact own_lt h.row (by rw [own_eq]; exact e)
  · exact own_lt h.dead (by rw [own_eq]; exact e)
theorem RQ.offC (h : RQ w B q A c A' c' s) : OffC w (ff q A A') := by
  rintro k hk cs m e
  have key : ∀ {t : TypeId} {cs' : Array Value}, Blk w k t cs' → t = 94 := fun hb => by
    unfold Blk at hb
    rw [hb] at e
    injection e with e
    injection e with _ e
  rcases hk with rfl | hk | hk
  · exact absurd (key h.blk) (by decide)
  · obtain ⟨cs', hb⟩ := own_blk h.row (k := k) (by rw [own_eq]; exact hk)
    exact absurd (key hb) (by decide)
  · obtain ⟨cs', hb⟩ := own_blk h.dead (k := k) (by rw [own_eq]; exact hk)
    exact absurd (key hb) (by decide)
theorem RQ.chg {S : Nat → Prop} (h : RQ w B q A c A' c' s) (hc : Chg S w w') (hn : ∀ k, ff q A A' k → ¬ S k) (hS : OffC w S) : RQ w' B q A c A' c' s :=
  ⟨hc.blk h.blk (hn _ (.inl rfl)), hc.own h.row (fun k hk => hn k (.inr (.inl (by rw [own_eq] at hk; exact hk)))), hc.own h.dead (fun k hk => hn k (.inr (.inr (by rw [own_eq] at hk; exact hk)))),
    fun x hx => (h.bl x hx).chg hc hS, fun e he => (h.bd e he).chg hc hS, h.hq⟩
theorem RQ.below (h : RQ w B q A c A' c' s) (hb : Below w.heap.size w w') : RQ w' B q A c A' c' s := h.chg (S := fun _ => False) (Chg.of_below hb) (fun _ _ h => h) (fun _ h => h.elim)
end

def En.rval (x : En) : Value := .agg #[.string x.ev.id, .string x.ev.tn, .string x.ev.src, .string x.ev.key, .int .i64 x.ev.at_, .string x.ev.cause, .slice x.ev.A x.ev.body.length x.ev.cp, .int .i64 x.vis, .int .i64 x.rcv, .bool x.held]
section
variable {w : World} {B q c c' : Nat} {A A' : Option Addr} {s : QS}
theorem rtime_any (n : Int) (w : World) : Calls Tryz.prog 63 #[.int .i64 n] w fun e w' => e = .returned (.bool (timeB n)) ∧ w' = w := by
  by_cases h1 : 0 ≤ n
  · by_cases h2 : n ≤ 1073741824
    · have HE := Lib.hid (show true = timeB n from ((timeB_iff n).2 ⟨h1, h2⟩).symm)
      have d1 : decide (0 ≤ n) = true := decide_eq_true h1
      have d2 : decide (n ≤ 1073741824) = true := decide_eq_true h2
      go_enter Tryz.func63, Tryz.ntmps63
      go_wp2_with fail
      go_ret
      exact ⟨ret_bool HE.out, rfl⟩
    · have HE := Lib.hid (show false = timeB n from timeB_no (fun h => h2 h.2))
      have d1 : decide (0 ≤ n) = true := decide_eq_true h1
      have d2 : decide (n ≤ 1073741824) = false := decide_eq_false h2
      go_enter Tryz.func63, Tryz.ntmps63
      go_wp2_with fail
      go_ret
      exact ⟨ret_bool HE.out, rfl⟩
  · have HE := Lib.hid (show false = timeB n from timeB_no (fun h => h1 h.1))
    have d1 : decide (0 ≤ n) = false := decide_eq_false h1
    go_enter Tryz.func63, Tryz.ntmps63
    go_wp2_with fail
    go_ret
    exact ⟨ret_bool HE.out, rfl⟩
theorem rmade_any (hQ : RQ w B q A c A' c' s) (hv : 0 < s.v) : Calls Tryz.prog 39 #[.pointer (some ⟨q, 0, none⟩)] w fun e w' => e = .returned (.bool true) ∧ w' = w := by
  have q0 : w.cell? ⟨q, 0, none⟩ = some (.int .i64 s.v) := hQ.blk.cell 0
  have d1 : decide (0 < s.v) = true := decide_eq_true hv
  clear hQ
  go_enter Tryz.func39, Tryz.ntmps39
  go_wp2_with fail
  go_ret
  exact ⟨rfl, rfl⟩
set_option maxHeartbeats 2000000 in
theorem over_any (x : En) (now : Int) (hr : w.cell? ⟨q, 1, none⟩ = some (.int .i64 s.r)) (hq : q < w.heap.size) :
    Calls Tryz.prog 80 #[.pointer (some ⟨q, 0, none⟩), x.rval, .int .i64 now] w fun e w' => e = .returned (.bool (goneB now s.r x)) ∧ Below w.heap.size w w' := by
  have bx := Blk.new w 78 #[.string x.ev.id, .string x.ev.tn, .string x.ev.src, .string x.ev.key, .int .i64 x.ev.at_, .string x.ev.cause, .slice x.ev.A x.ev.body.length x.ev.cp, .int .i64 x.vis, .int .i64 x.rcv, .bool x.held]
  have hb0 := al_new w (.cells #[.string x.ev.id, .string x.ev.tn, .string x.ev.src, .string x.ev.key, .int .i64 x.ev.at_, .string x.ev.cause, .slice x.ev.A x.ev.body.length x.ev.cp, .int .i64 x.vis, .int .i64 x.rcv, .bool x.held] 78)
  have HB0 := Lib.hid hb0
  have hr2 := (hb0.cell (p := ⟨q, 1, none⟩) hq).trans hr
  unfold En.rval
  go_enter Tryz.func80, Tryz.ntmps80
  go_upto_region 1 with fail
  clear hb0 hr
  generalize w.alloc (.cells #[.string x.ev.id, .string x.ev.tn, .string x.ev.src, .string x.ev.key, .int .i64 x.ev.at_, .string x.ev.cause, .slice x.ev.A x.ev.body.length x.ev.cp, .int .i64 x.vis, .int .i64 x.rcv, .bool x.held] 78) = w1 at *
  have e7 : w1.cell? ⟨w.heap.size, 7, none⟩ = some (.int .i64 x.vis) := bx.cell 7
  have e8 : w1.cell? ⟨w.heap.size, 8, none⟩ = some (.int .i64 x.rcv) := bx.cell 8
  clear bx
  by_cases h1 : x.vis ≤ now
  · have d1 : decide (x.vis ≤ now) = true := decide_eq_true h1
    have HE := Lib.hid (show decide (s.r ≤ x.rcv) = goneB now s.r x by unfold goneB; rw [d1, Bool.true_and])
    clear h1
    go_wp2_with fail
    go_quiet (fail)
    go_wp2_with fail
    go_ret
    exact ⟨ret_bool HE.out, HB0.out.trans ((below_drewN' w1.heap.size w1 _).mono HB0.out.size)⟩
  · have d1 : decide (x.vis ≤ now) = false := decide_eq_false h1
    have HE := Lib.hid (show false = goneB now s.r x by unfold goneB; rw [d1, Bool.false_and])
    clear h1
    go_wp2_with fail
    go_quiet (fail)
    go_wp2_with fail
    go_ret
    exact ⟨ret_bool HE.out, HB0.out.trans ((below_drewN' w1.heap.size w1 _).mono HB0.out.size)⟩
end
end Go.Proofs.YtbofclohnmojmaaGreatDoor
