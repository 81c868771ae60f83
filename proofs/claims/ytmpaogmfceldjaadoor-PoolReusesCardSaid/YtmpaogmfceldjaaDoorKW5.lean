/- What the closures leave; the program's Crash. -/
import Derived.Test.YtmpaogmfceldjaaDoorKW4
namespace Go.Proofs.YtmpaogmfceldjaaDoor
open Go.RowKit
open Go.Sort (grow)

/-- The state at another time. -/
def at_ (t : PS) (n : Int) : PS := ⟨t.nm, t.p, n, t.bt, t.l⟩
theorem at_self (s : PS) : at_ s s.now = s := rfl
/-- What a call leaves of the program's pool: another state, in blocks of its own or new ones. -/
def PoolTo (w : World) (B p m : Nat) (A : Option Addr) (s : PS) (w' : World) : Prop := ∃ A' c', PoolAt w' B p m A' c' s ∧ Chg (pf p m A) w w' ∧ ∀ k, pf p m A' k → pf p m A k ∨ w.heap.size ≤ k
section
variable {w w0 w1 w' : World} {B p m c : Nat} {A : Option Addr} {s t : PS}
theorem PoolTo.stay (h : PoolAt w B p m A c s) (hb : Below w.heap.size w w') : PoolTo w B p m A s w' := ⟨A, c, h.below hb, Chg.of_below hb, fun _ hk => .inl hk⟩
theorem PoolTo.same (h : PoolAt w' B p m A c s) (hc : Chg (pf p m A) w w') : PoolTo w B p m A s w' := ⟨A, c, h, hc, fun _ hk => .inl hk⟩
theorem PoolTo.from_ (hb : Below w0.heap.size w0 w1) (h : PoolTo w1 B p m A s w') : PoolTo w0 B p m A s w' := by
  obtain ⟨A', c', h1, h2, h3⟩ := h
  exact ⟨A', c', h1, (Chg.of_below (S := pf p m A) hb).trans h2 (fun _ _ h => h), fun k hk => by
    rcases h3 k hk with h | h
    · exact .inl h
    · exact .inr (Nat.le_trans hb.size h)⟩
theorem PoolTo.below (h : PoolTo w B p m A s w1) (hb : Below w1.heap.size w1 w') : PoolTo w B p m A s w' := by
  obtain ⟨A', c', h1, h2, h3⟩ := h
  exact ⟨A', c', h1.below hb, h2.below hb, h3⟩
theorem PoolAt.time (h : PoolAt w B p m A c s) (n : Int) : PoolAt (w.setCell ⟨p, 5, none⟩ (.int .i64 n)) B p m A c (at_ s n) := by
  obtain ⟨h1, h2, h3⟩ := h.row_ne
  have hc : Chg (fun k => k = p) w (w.setCell ⟨p, 5, none⟩ (.int .i64 n)) := (Chg.refl (fun k => k = p) w).setCell (p := ⟨p, 5, none⟩) (fun _ => rfl) _
  exact ⟨h.blk.set_ 5 _, hc.own h.row (fun k hk e => by subst e; rw [own_eq] at hk; exact h1 hk), h.map.chg hc (fun e => h3 e.symm), h.hp, h.hm⟩
theorem PoolTo.time (h : PoolTo w B p m A s w') (n : Int) : PoolTo w B p m A (at_ s n) (w'.setCell ⟨p, 5, none⟩ (.int .i64 n)) := by
  obtain ⟨A', c', h1, h2, h3⟩ := h
  exact ⟨A', c', h1.time n, h2.setCell (p := ⟨p, 5, none⟩) (fun _ => .inl rfl) _, h3⟩
/-- A call by way of p.call: G is what the function makes of the state, if the time can be accepted. -/
theorem call_to (hP : PoolAt w B p m A c s) (h0 : 1 ≤ s.p.mx) (now : Int) (K : Nat) (hK : ∀ args w, Sem.run Tryd.prog (callFunc K args) w = .ok (.enter K args) w) (caps : Array Value) (G : PS × Int) (X : World → Prop)
    (hG0 : G.2 = 0 → G.1.now = now) (hG1 : G.2 ≠ 0 → G.1 = s)
    (hf : rdy s now = 0 → Calls Tryd.prog K caps w fun e w' => e = .returned (.int .i64 G.2) ∧ PoolTo w0 B p m A (at_ G.1 s.now) w' ∧ X w')
    (hX : ∀ w' n, X w' → X (w'.setCell ⟨p, 5, none⟩ (.int .i64 n))) :
    Calls Tryd.prog 33 #[.pointer (some ⟨p, 0, none⟩), .int .i64 now, .func (.func K) #[] caps] w fun e w' =>
      (rdy s now ≠ 0 ∧ e = .returned (.int .i64 (rdy s now)) ∧ w' = w) ∨ (rdy s now = 0 ∧ e = .returned (.int .i64 G.2) ∧ PoolTo w0 B p m A G.1 w' ∧ X w') := by
  refine (call_any hP h0 now K hK caps (fun n w' => n = G.2 ∧ PoolTo w0 B p m A (at_ G.1 s.now) w' ∧ X w') (fun h => (hf h).mono fun e w' ⟨h1, h2, h3⟩ => ⟨G.2, h1, rfl, h2, h3⟩) (fun n w' ⟨_, ⟨A', c', h1, _⟩, _⟩ => ⟨_, h1.blk, rfl⟩)).mono ?_
  rintro e w' (h | ⟨h1, n, w1, ⟨rfl, h2, h3⟩, rfl, rfl⟩)
  · exact .inl h
  · refine .inr ⟨h1, rfl, ?_⟩
    by_cases hn : G.2 = 0
    · rw [if_pos hn]
      have := h2.time now
      rw [show at_ (at_ G.1 s.now) now = G.1 by rw [← hG0 hn]; rfl] at this
      exact ⟨this, hX _ _ h3⟩
    · rw [if_neg hn]
      rw [hG1 hn] at h2 ⊢
      exact ⟨h2, h3⟩
end
def CrashIn (s : PS) (id : ByteArray) (now : Int) (w : World) (B p m : Nat) (A : Option Addr) (e : Ending) (w' : World) : Prop := e = .returned (.int .i64 (craG s id now).2) ∧ PoolTo w B p m A (at_ (craG s id now).1 s.now) w' ∧ True
theorem cra_none {s : PS} {id : ByteArray} (now : Int) (h : lk s.l id = none) : craG s id now = (s, 5) := by unfold craG; rw [h]
theorem cra_some {s : PS} {x : Ins} {k : Nat} (now : Int) (h : lk s.l x.id = some x) (hf : fd s.l x.id = k) : craG s x.id now = (⟨s.nm, s.p, now, s.bt, s.l.eraseIdx k⟩, 0) := by unfold craG; rw [h, hf, Int.toNat_natCast]
theorem enters_crash (args : Array Value) (w : World) : Sem.run Tryd.prog (callFunc 45 args) w = .ok (.enter 45 args) w := enters_of Tryd.func45 (by kernel_rfl) rfl args w
set_option maxHeartbeats 4000000 in
set_option maxRecDepth 20000 in
theorem crashf_any {w : World} {B p m c : Nat} {A : Option Addr} {s : PS} (hP : PoolAt w B p m A c s) (hok : s.ok) (id : ByteArray) (hid : id.size ≤ 9223372036854775807) (now : Int) (bp bi : Nat) (hbp : Blk w bp 25 #[.pointer (some ⟨p, 0, none⟩)]) (hbi : Blk w bi 9 #[.string id]) :
    Calls Tryd.prog 45 #[.pointer (some ⟨bp, 0, none⟩), .pointer (some ⟨bi, 0, none⟩)] w (CrashIn s id now w B p m A) := by
  have q8 : w.cell? ⟨p, 8, none⟩ = some (.map (some m)) := hP.blk.cell 8
  have qp : w.cell? ⟨bp, 0, none⟩ = some (.pointer (some ⟨p, 0, none⟩)) := hbp.cell 0
  have qi : w.cell? ⟨bi, 0, none⟩ = some (.string id) := hbi.cell 0
  have l1 := hP.blk.lt
  have l2 := hbp.lt
  have l3 := hbi.lt
  have hb1 : ∀ o, Below w.heap.size w (w.alloc o).drew := fun o => ((Below.refl _ _).alloc (Nat.le_refl _) o).drew
  have hL1 : Sem.run Tryd.prog (Instr.lookup 49 (.map (some m)) (.string id) true) w.drew = .ok (.tuple #[((lk s.l id).getD zeroI).val, .bool (lk s.l id).isSome]) w.drew := (hP.below (below_drewN' _ _ 1)).map.look_ok hid
  have hL2 : ∀ o, Sem.run Tryd.prog (Instr.lookup 49 (.map (some m)) (.string id) true) (w.alloc o).drew = .ok (.tuple #[((lk s.l id).getD zeroI).val, .bool (lk s.l id).isSome]) (w.alloc o).drew := fun o => (hP.below (hb1 o)).map.look_ok hid
  have HB := Lib.hid hb1
  have HP := Lib.hid hP
  have HO := Lib.hid hok
  have HBP := Lib.hid (And.intro hbp hbi)
  rcases fd_cases s.l id with ⟨hf1, hf2, -⟩ | ⟨k, x, hf1, hf2, hf3, hf4, -⟩
  · have HC := Lib.hid (cra_none now hf2)
    rw [hf2] at hL1 hL2
    simp only [Option.getD_none, Option.isSome_none, Ins.val, zeroI] at hL1 hL2
    clear hf1 hf2 hP hok hb1 hbp hbi
    go_enter Tryd.func45, Tryd.ntmps45
    go_wp2_with fail
    go_region
    go_wp2_with fail
    go_ret
    exact ⟨by rw [HC.out]; rfl, by rw [HC.out]; exact PoolTo.stay HP.out (HB.out _), trivial⟩
  · subst hf3
    have HC := Lib.hid (cra_some now hf4 hf1)
    have HK := Lib.hid hf2
    rw [hf4] at hL1 hL2
    simp only [Option.getD_some, Option.isSome_some, Ins.val] at hL1 hL2
    clear hf1 hf2 hf4 hP hok hb1 hbp hbi
    go_enter Tryd.func45, Tryd.ntmps45
    go_wp2_with fail
    go_region
    have hb := HB.out (.cells #[.string x.id, .int .i64 x.st, .int .i64 x.since, .int .i64 x.uses] 56)
    have hPw := HP.out.below hb
    have HBw := Lib.hid hb
    have qp' : (w.alloc (.cells #[.string x.id, .int .i64 x.st, .int .i64 x.since, .int .i64 x.uses] 56)).drew.cell? ⟨bp, 0, none⟩ = some (.pointer (some ⟨p, 0, none⟩)) := (HBP.out.1.on hb).cell 0
    have qi' : (w.alloc (.cells #[.string x.id, .int .i64 x.st, .int .i64 x.since, .int .i64 x.uses] 56)).drew.cell? ⟨bi, 0, none⟩ = some (.string x.id) := (HBP.out.2.on hb).cell 0
    have HPw := Lib.hid hPw
    clear hb hPw hL1 hL2 q8 qp qi
    generalize (w.alloc (.cells #[.string x.id, .int .i64 x.st, .int .i64 x.since, .int .i64 x.uses] 56)).drew = W at *
    go_wp2_with fail
    refine (stop_any HPw.out HO.out HK.out).mono ?_
    rintro e W1 ⟨rfl, hP1, hC1⟩
    have HP1 := Lib.hid hP1
    have HC1 := Lib.hid hC1
    clear hP1 hC1
    go_wp2_with fail
    go_ret
    exact ⟨by rw [HC.out]; rfl, by rw [HC.out]; exact PoolTo.from_ HBw.out (PoolTo.same HP1.out HC1.out), trivial⟩
set_option maxHeartbeats 4000000 in
set_option maxRecDepth 20000 in
theorem Crash_any {w : World} {B p m c : Nat} {A : Option Addr} {s : PS} (hP : PoolAt w B p m A c s) (hok : s.ok) (id : ByteArray) (hid : id.size ≤ 9223372036854775807) (now : Int) :
    Calls Tryd.prog 18 #[.pointer (some ⟨p, 0, none⟩), .string id, .int .i64 now] w fun e w' => e = .returned (.int .i64 (craS s id now).2) ∧ PoolTo w B p m A (craS s id now).1 w' := by
  have HY : rdy s now = 0 → craS s id now = craG s id now := fun h => by unfold craS; rw [if_pos h]
  have HN : rdy s now ≠ 0 → craS s id now = (s, rdy s now) := fun h => by unfold craS; rw [if_neg h]
  have hG : ((craG s id now).2 = 0 → (craG s id now).1.now = now) ∧ ((craG s id now).2 ≠ 0 → (craG s id now).1 = s) := by
    unfold craG
    split <;> simp
  have HGG := Lib.hid (And.intro HY (And.intro HN hG))
  have hb1 : Below w.heap.size w ((w.alloc (.cells #[.pointer (some ⟨p, 0, none⟩)] 25)).alloc (.cells #[.string id] 9)) := ((Below.refl _ _).alloc (Nat.le_refl _) _).alloc (by simp) _
  have bp : Blk ((w.alloc (.cells #[.pointer (some ⟨p, 0, none⟩)] 25)).alloc (.cells #[.string id] 9)) w.heap.size 25 #[.pointer (some ⟨p, 0, none⟩)] := (Blk.new w 25 _).alloc _
  have bi : Blk ((w.alloc (.cells #[.pointer (some ⟨p, 0, none⟩)] 25)).alloc (.cells #[.string id] 9)) (w.heap.size + 1) 9 #[.string id] := Blk.new1 w _ _ _
  have hP1 := hP.below hb1
  have HCL := Lib.hid (call_to hP1 hok.mx.1 now 45 enters_crash #[.pointer (some ⟨w.heap.size, 0, none⟩), .pointer (some ⟨w.heap.size + 1, 0, none⟩)] (craG s id now) (fun _ => True) hG.1 hG.2 (fun _ => crashf_any hP1 hok id hid now _ _ bp bi) (fun _ _ _ => trivial))
  have HB1 := Lib.hid hb1
  have HP := Lib.hid hP
  clear HY HN hG hb1 bp bi hP1 hP hok
  go_enter Tryd.func18, Tryd.ntmps18
  go_wp2_with fail
  refine HCL.out.mono ?_
  rintro e W (⟨hr, rfl, rfl⟩ | ⟨hr, rfl, hT, -⟩)
  · have HD := Lib.hid (HGG.out.2.1 hr)
    clear hr
    go_wp2_with fail
    go_ret
    exact ⟨by rw [HD.out]; rfl, by rw [HD.out]; exact PoolTo.stay HP.out HB1.out⟩
  · have HD := Lib.hid (HGG.out.1 hr)
    have HT := Lib.hid hT
    clear hr hT
    go_wp2_with fail
    go_ret
    exact ⟨by rw [HD.out]; rfl, by rw [HD.out]; exact PoolTo.from_ HB1.out HT.out⟩
end Go.Proofs.YtmpaogmfceldjaaDoor
