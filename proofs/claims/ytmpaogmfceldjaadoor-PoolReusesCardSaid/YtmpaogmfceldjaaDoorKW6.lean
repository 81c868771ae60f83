/- The program's Release. -/
import Derived.Test.YtmpaogmfceldjaaDoorKW5
namespace Go.Proofs.YtmpaogmfceldjaaDoor
open Go.RowKit
open Go.Sort (grow)

/-- An instance is stored anew. -/
theorem PoolAt.put {w : World} {B p m c : Nat} {A : Option Addr} {s : PS} (hP : PoolAt w B p m A c s) (hok : s.ok) {k : Nat} {x : Ins} (hk : s.l[k]? = some x) (f : Ins → Ins) (hf : ∀ y, (f y).id = y.id) :
    ∃ w', (Instr.mapUpdate 49 (.map (some m)) (.string x.id) (f x).val).run Tryd.prog w = .ok () w' ∧ PoolAt w' B p m A c (lst s (s.l.modify k f)) ∧ w.grownBy w' (some m) := by
  have hsz : x.id.size ≤ 9223372036854775807 := by have := (hok.els x (List.mem_of_getElem? hk)).sz; omega
  obtain ⟨h1, h2, h3⟩ := hP.row_ne
  obtain ⟨w', hrun, hM, hg⟩ := hP.map.put (s := x.id) (x := f x) (l' := s.l.modify k f) hsz (fun t => lk_mod hok.nodup hk hf t) (by rw [lk_at hok.nodup hk, Option.isSome_some, if_pos rfl, List.length_modify]) (by have := hok.len32; omega)
  refine ⟨w', hrun, ⟨?_, ?_, hM, hP.hp, hP.hm⟩, hg⟩
  · have := (hg.block p hP.blk.lt (fun e => h3 (by injection e))).trans hP.blk
    unfold Blk
    rw [this]
    simp [poolC, lst]
  · have := hP.row.kept hg (.inr (fun e => h2 (by rw [own_eq] at e; exact e)))
    show World.ownsRow w' B _ 1 (.slice A (s.l.modify k f).length c) (s.l.modify k f).length (svals (ids (s.l.modify k f)))
    unfold ids
    rw [List.length_modify, mod_ids hf]
    exact this
theorem PoolTo.put {w w1 w' : World} {B p m c : Nat} {A : Option Addr} {s : PS} (hb : Below w.heap.size w w1) (h : PoolAt w' B p m A c s) (hg : w1.grownBy w' (some m)) : PoolTo w B p m A s w' :=
  PoolTo.same h ((Chg.of_below (S := pf p m A) hb).grown hg (fun k hk _ => by injection hk with hk; exact .inr (.inl hk.symm)))
def RelIn (s : PS) (id : ByteArray) (now : Int) (w : World) (B p m : Nat) (A : Option Addr) (e : Ending) (w' : World) : Prop := e = .returned (.int .i64 (relG s id now).2) ∧ PoolTo w B p m A (at_ (relG s id now).1 s.now) w' ∧ True
theorem rel_none {s : PS} {id : ByteArray} (now : Int) (h : lk s.l id = none) : relG s id now = (s, 5) := by unfold relG; rw [h]
theorem rel_some {s : PS} {x : Ins} {k : Nat} (now : Int) (h : lk s.l x.id = some x) (hf : fd s.l x.id = k) : relG s x.id now = relX s x k now := by unfold relG; rw [h, hf, Int.toNat_natCast]
theorem rel_1 {s : PS} {x : Ins} (k : Nat) (now : Int) (h : x.st = 2) : relX s x k now = (s, 10) := if_pos h
theorem rel_2 {s : PS} {x : Ins} (k : Nat) {now : Int} (h : x.st ≠ 2) (h2 : now < x.since) : relX s x k now = (s, 11) := by unfold relX; rw [if_neg h, if_pos h2]
theorem rel_3 {s : PS} {x : Ins} (k : Nat) {now : Int} (h : x.st ≠ 2) (h2 : ¬ now < x.since) (h3 : s.p.us ≤ x.uses) : relX s x k now = (⟨s.nm, s.p, now, s.bt, s.l.eraseIdx k⟩, 0) := by unfold relX; rw [if_neg h, if_neg h2, if_pos h3]
theorem rel_4 {s : PS} {x : Ins} (k : Nat) {now : Int} (h : x.st ≠ 2) (h2 : ¬ now < x.since) (h3 : ¬ s.p.us ≤ x.uses) : relX s x k now = (⟨s.nm, s.p, now, s.bt, s.l.modify k (bck now)⟩, 0) := by unfold relX; rw [if_neg h, if_neg h2, if_neg h3]
theorem enters_rel (args : Array Value) (w : World) : Sem.run Tryd.prog (callFunc 40 args) w = .ok (.enter 40 args) w := enters_of Tryd.func40 (by kernel_rfl) rfl args w
set_option maxHeartbeats 8000000 in
set_option maxRecDepth 20000 in
theorem relf_any {w : World} {B p m c : Nat} {A : Option Addr} {s : PS} (hP : PoolAt w B p m A c s) (hok : s.ok) (id : ByteArray) (hid : id.size ≤ 9223372036854775807) (now : Int) (bp bi bn : Nat) (hbp : Blk w bp 25 #[.pointer (some ⟨p, 0, none⟩)]) (hbi : Blk w bi 9 #[.string id]) (hbn : Blk w bn 3 #[.int .i64 now]) :
    Calls Tryd.prog 40 #[.pointer (some ⟨bp, 0, none⟩), .pointer (some ⟨bi, 0, none⟩), .pointer (some ⟨bn, 0, none⟩)] w (RelIn s id now w B p m A) := by
  have q8 : w.cell? ⟨p, 8, none⟩ = some (.map (some m)) := hP.blk.cell 8
  have qp : w.cell? ⟨bp, 0, none⟩ = some (.pointer (some ⟨p, 0, none⟩)) := hbp.cell 0
  have qi : w.cell? ⟨bi, 0, none⟩ = some (.string id) := hbi.cell 0
  have l1 := hP.blk.lt
  have l2 := hbp.lt
  have l3 := hbi.lt
  have hb1 : ∀ o, Below w.heap.size w (w.alloc o).drew := fun o => ((Below.refl _ _).alloc (Nat.le_refl _) o).drew
  have hL1 : Sem.run Tryd.prog (Instr.lookup 49 (.map (some m)) (.string id) true) w.drew = .ok (.tuple #[((lk s.l id).getD zeroI).val, .bool (lk s.l id).isSome]) w.drew := (hP.below (below_drewN' _ _ 1)).map.look_ok hid
  have hL2 : ∀ o, Sem.run Tryd.prog (Instr.lookup 49 (.map (some m)) (.string id) true) (w.alloc o).drew = .ok (.tuple #[((lk s.l id).getD zeroI).val, .bool (lk s.l id).isSome]) (w.alloc o).drew := fun o => (hP.below (hb1 o)).map.look_ok hid
  have HB := Lib.hid hb1
  have HP := Lib.hid hP
  have HO := Lib.hid hok
  have HBP := Lib.hid (And.intro hbp (And.intro hbi hbn))
  rcases fd_cases s.l id with ⟨hf1, hf2, -⟩ | ⟨k, x, hf1, hf2, hf3, hf4, -⟩
  · have HC := Lib.hid (rel_none now hf2)
    rw [hf2] at hL1 hL2
    simp only [Option.getD_none, Option.isSome_none, Ins.val, zeroI] at hL1 hL2
    clear hf1 hf2 hP hok hb1 hbp hbi hbn
    go_enter Tryd.func40, Tryd.ntmps40
    go_wp2_with fail
    go_region
    go_wp2_with fail
    go_ret
    exact ⟨by rw [HC.out]; rfl, by rw [HC.out]; exact PoolTo.stay HP.out (HB.out _), trivial⟩
  · subst hf3
    have HC := Lib.hid (rel_some now hf4 hf1)
    have HK := Lib.hid hf2
    rw [hf4] at hL1 hL2
    simp only [Option.getD_some, Option.isSome_some, Ins.val] at hL1 hL2
    have hb := HB.out (.cells #[.string x.id, .int .i64 x.st, .int .i64 x.since, .int .i64 x.uses] 56)
    have hPw := HP.out.below hb
    have HBw := Lib.hid hb
    have hbx : Blk (w.alloc (.cells #[.string x.id, .int .i64 x.st, .int .i64 x.since, .int .i64 x.uses] 56)).drew w.heap.size 56 #[.string x.id, .int .i64 x.st, .int .i64 x.since, .int .i64 x.uses] := (Blk.new w 56 _).drew
    have HPw := Lib.hid hPw
    have HBX := Lib.hid hbx
    have hbp' := HBP.out.1.on hb
    have hbi' := HBP.out.2.1.on hb
    have hbn' := HBP.out.2.2.on hb
    clear hf1 hf2 hf4 hP hok hb1 hbp hbi hbn hb hPw hbx
    have qs : (w.alloc (.cells #[.string x.id, .int .i64 x.st, .int .i64 x.since, .int .i64 x.uses] 56)).drew.cell? ⟨w.heap.size, 1, none⟩ = some (.int .i64 x.st) := HBX.out.cell 1
    have qc : (w.alloc (.cells #[.string x.id, .int .i64 x.st, .int .i64 x.since, .int .i64 x.uses] 56)).drew.cell? ⟨w.heap.size, 2, none⟩ = some (.int .i64 x.since) := HBX.out.cell 2
    have qu : (w.alloc (.cells #[.string x.id, .int .i64 x.st, .int .i64 x.since, .int .i64 x.uses] 56)).drew.cell? ⟨w.heap.size, 3, none⟩ = some (.int .i64 x.uses) := HBX.out.cell 3
    have qn' : (w.alloc (.cells #[.string x.id, .int .i64 x.st, .int .i64 x.since, .int .i64 x.uses] 56)).drew.cell? ⟨bn, 0, none⟩ = some (.int .i64 now) := hbn'.cell 0
    have qp' : (w.alloc (.cells #[.string x.id, .int .i64 x.st, .int .i64 x.since, .int .i64 x.uses] 56)).drew.cell? ⟨bp, 0, none⟩ = some (.pointer (some ⟨p, 0, none⟩)) := hbp'.cell 0
    have qi' : (w.alloc (.cells #[.string x.id, .int .i64 x.st, .int .i64 x.since, .int .i64 x.uses] 56)).drew.cell? ⟨bi, 0, none⟩ = some (.string x.id) := hbi'.cell 0
    have qus' : (w.alloc (.cells #[.string x.id, .int .i64 x.st, .int .i64 x.since, .int .i64 x.uses] 56)).drew.cell? ⟨p, 3, none⟩ = some (.int .i64 s.p.us) := HPw.out.blk.cell 3
    have HBS := Lib.hid (And.intro hbp' (And.intro hbi' hbn'))
    have HQ := Lib.hid (And.intro qs (And.intro qc (And.intro qu (And.intro qn' (And.intro qp' (And.intro qi' qus'))))))
    clear hbp' hbi' hbn' qs qc qu qn' qp' qi' qus'
    go_enter Tryd.func40, Tryd.ntmps40
    go_wp2_with fail
    go_region
    clear hL1 hL2 q8 qp qi
    generalize (w.alloc (.cells #[.string x.id, .int .i64 x.st, .int .i64 x.since, .int .i64 x.uses] 56)).drew = W at *
    obtain ⟨qs, qc, qu, qn, qp, qi, qus⟩ := HQ.out
    rcases beqs x.st 2 with ⟨hq, hs⟩ | ⟨hq, hs⟩
    · have HD := Lib.hid (HC.out.trans (rel_1 k now hs))
      clear hs
      go_wp2_with fail
      go_ret
      exact ⟨by rw [HD.out]; rfl, by rw [HD.out]; exact PoolTo.stay HP.out HBw.out, trivial⟩
    · rcases decide_cases (now < x.since) with ⟨h2, h2b⟩ | ⟨h2, h2b⟩
      · have HD := Lib.hid (HC.out.trans (rel_2 k hs h2))
        clear hs
        go_wp2_with fail
        go_ret
        exact ⟨by rw [HD.out]; rfl, by rw [HD.out]; exact PoolTo.stay HP.out HBw.out, trivial⟩
      · rcases decide_cases (s.p.us ≤ x.uses) with ⟨h3, h3b⟩ | ⟨h3, h3b⟩
        · have HD := Lib.hid (HC.out.trans (rel_3 k hs h2 h3))
          clear hs h3
          go_wp2_with fail
          go_quiet (fail)
          have hb := below_drewN' W.heap.size W nq
          have HPq := Lib.hid (HPw.out.below hb)
          have qp2 : (W.drewN nq).cell? ⟨bp, 0, none⟩ = some (.pointer (some ⟨p, 0, none⟩)) := qp
          have qi2 : (W.drewN nq).cell? ⟨bi, 0, none⟩ = some (.string x.id) := qi
          have HBq := Lib.hid (HBw.out.trans (hb.mono HBw.out.size))
          clear hb
          generalize W.drewN nq = W2 at *
          go_wp2_with fail
          refine (stop_any HPq.out HO.out HK.out).mono ?_
          rintro e W1 ⟨rfl, hP1, hC1⟩
          have HP1 := Lib.hid hP1
          have HC1 := Lib.hid hC1
          clear hP1 hC1
          go_wp2_with fail
          go_ret
          exact ⟨by rw [HD.out]; rfl, by rw [HD.out]; exact PoolTo.from_ HBq.out (PoolTo.same HP1.out HC1.out), trivial⟩
        · have HD := Lib.hid (HC.out.trans (rel_4 k hs h2 h3))
          clear hs h3
          go_wp2_with fail
          go_quiet (fail)
          have hb := below_drewN' W.heap.size W nq
          have HPq := Lib.hid (HPw.out.below hb)
          have HBXq := Lib.hid (HBX.out.on hb)
          have HBSq := Lib.hid (And.intro (HBS.out.1.on hb) (And.intro (HBS.out.2.1.on hb) (HBS.out.2.2.on hb)))
          have HBq := Lib.hid (HBw.out.trans (hb.mono HBw.out.size))
          clear hb qs qc qu qn qp qi qus HQ
          generalize W.drewN nq = W2 at *
          have q1 : W2.cell? ⟨bn, 0, none⟩ = some (.int .i64 now) := HBSq.out.2.2.cell 0
          have x1 : W2.cell? ⟨w.heap.size, 1, none⟩ = some (.int .i64 x.st) := HBXq.out.cell 1
          have x2 : W2.cell? ⟨w.heap.size, 2, none⟩ = some (.int .i64 x.since) := HBXq.out.cell 2
          have y1 := HBXq.out.frozen 1
          have y2 := HBXq.out.frozen 2
          have n1 : bn < w.heap.size := by have := HBP.out.2.2.lt; omega
          go_wp2_with fail
          go_region
          have hB3 : Below w.heap.size w ((W2.setCell ⟨w.heap.size, 1, none⟩ (.int .i64 2)).setCell ⟨w.heap.size, 2, none⟩ (.int .i64 now)).drew := (((HBq.out).setCell (p := ⟨w.heap.size, 1, none⟩) (Nat.le_refl _) _).setCell (p := ⟨w.heap.size, 2, none⟩) (Nat.le_refl _) _).drew
          have hX3 : Blk ((W2.setCell ⟨w.heap.size, 1, none⟩ (.int .i64 2)).setCell ⟨w.heap.size, 2, none⟩ (.int .i64 now)).drew w.heap.size 56 #[.string x.id, .int .i64 2, .int .i64 now, .int .i64 x.uses] := (((HBXq.out).set_ 1 _).set_ 2 _).drew
          have hp3 := HBP.out.1.on hB3
          have hi3 := HBP.out.2.1.on hB3
          clear q1 x1 x2 y1 y2 n1
          generalize ((W2.setCell ⟨w.heap.size, 1, none⟩ (.int .i64 2)).setCell ⟨w.heap.size, 2, none⟩ (.int .i64 now)).drew = W3 at *
          have hP3 := HP.out.below hB3
          have q8 : W3.cell? ⟨p, 8, none⟩ = some (.map (some m)) := hP3.blk.cell 8
          have qp : W3.cell? ⟨bp, 0, none⟩ = some (.pointer (some ⟨p, 0, none⟩)) := hp3.cell 0
          have qi : W3.cell? ⟨bi, 0, none⟩ = some (.string x.id) := hi3.cell 0
          have z0 : W3.cell? ⟨w.heap.size, 0, none⟩ = some (.string x.id) := hX3.cell 0
          have z1 : W3.cell? ⟨w.heap.size, 1, none⟩ = some (.int .i64 2) := hX3.cell 1
          have z2 : W3.cell? ⟨w.heap.size, 2, none⟩ = some (.int .i64 now) := hX3.cell 2
          have z3 : W3.cell? ⟨w.heap.size, 3, none⟩ = some (.int .i64 x.uses) := hX3.cell 3
          have HB3 := Lib.hid hB3
          clear hB3 hX3 hp3 hi3
          go_wp2_with fail
          go_still_tail 6, (by kernel_rfl)
          change wpList _ _ _ _ _ W3.drew
          have hd : Below W3.heap.size W3 W3.drew := below_drewN' W3.heap.size W3 1
          have HB4 := Lib.hid (HB3.out.trans (hd.mono HB3.out.size))
          have HP4 := Lib.hid (hP3.below hd)
          clear q8 qp qi z0 z1 z2 z3 hd hP3
          generalize W3.drew = W4 at *
          obtain ⟨W5, hrun, hP5, hg5⟩ := HP4.out.put HO.out HK.out (bck now) (fun _ => rfl)
          simp only [Ins.val, bck] at hrun
          have HT := Lib.hid (PoolTo.put HB4.out hP5 hg5)
          clear hP5 hg5
          go_wp2_with fail
          go_ret
          exact ⟨by rw [HD.out]; rfl, by rw [HD.out]; exact HT.out, trivial⟩
set_option maxHeartbeats 4000000 in
set_option maxRecDepth 20000 in
theorem Release_any {w : World} {B p m c : Nat} {A : Option Addr} {s : PS} (hP : PoolAt w B p m A c s) (hok : s.ok) (id : ByteArray) (hid : id.size ≤ 9223372036854775807) (now : Int) :
    Calls Tryd.prog 13 #[.pointer (some ⟨p, 0, none⟩), .string id, .int .i64 now] w fun e w' => e = .returned (.int .i64 (relS s id now).2) ∧ PoolTo w B p m A (relS s id now).1 w' := by
  have HY : rdy s now = 0 → relS s id now = relG s id now := fun h => by unfold relS; rw [if_pos h]
  have HN : rdy s now ≠ 0 → relS s id now = (s, rdy s now) := fun h => by unfold relS; rw [if_neg h]
  have hG : ((relG s id now).2 = 0 → (relG s id now).1.now = now) ∧ ((relG s id now).2 ≠ 0 → (relG s id now).1 = s) := by
    unfold relG
    split
    · unfold relX
      split
      · simp
      · split
        · simp
        · split <;> simp
    · simp
  have HGG := Lib.hid (And.intro HY (And.intro HN hG))
  have hb1 : Below w.heap.size w (((w.alloc (.cells #[.pointer (some ⟨p, 0, none⟩)] 25)).alloc (.cells #[.string id] 9)).alloc (.cells #[.int .i64 now] 3)) := (((Below.refl _ _).alloc (Nat.le_refl _) _).alloc (by simp) _).alloc (by simp; omega) _
  have bp : Blk (((w.alloc (.cells #[.pointer (some ⟨p, 0, none⟩)] 25)).alloc (.cells #[.string id] 9)).alloc (.cells #[.int .i64 now] 3)) w.heap.size 25 #[.pointer (some ⟨p, 0, none⟩)] := ((Blk.new w 25 _).alloc _).alloc _
  have bi : Blk (((w.alloc (.cells #[.pointer (some ⟨p, 0, none⟩)] 25)).alloc (.cells #[.string id] 9)).alloc (.cells #[.int .i64 now] 3)) (w.heap.size + 1) 9 #[.string id] := (Blk.new1 w _ _ _).alloc _
  have bn : Blk (((w.alloc (.cells #[.pointer (some ⟨p, 0, none⟩)] 25)).alloc (.cells #[.string id] 9)).alloc (.cells #[.int .i64 now] 3)) (w.heap.size + 2) 3 #[.int .i64 now] := Blk.new2 w _ _ _ _
  have hP1 := hP.below hb1
  have HCL := Lib.hid (call_to hP1 hok.mx.1 now 40 enters_rel #[.pointer (some ⟨w.heap.size, 0, none⟩), .pointer (some ⟨w.heap.size + 1, 0, none⟩), .pointer (some ⟨w.heap.size + 2, 0, none⟩)] (relG s id now) (fun _ => True) hG.1 hG.2 (fun _ => relf_any hP1 hok id hid now _ _ _ bp bi bn) (fun _ _ _ => trivial))
  have HB1 := Lib.hid hb1
  have HP := Lib.hid hP
  clear HY HN hG hb1 bp bi bn hP1 hP hok
  go_enter Tryd.func13, Tryd.ntmps13
  go_wp2_with fail
  refine HCL.out.mono ?_
  rintro e W (⟨hr, rfl, rfl⟩ | ⟨hr, rfl, hT, -⟩)
  · have HD := Lib.hid (HGG.out.2.1 hr)
    clear hr
    go_wp2_with fail
    go_ret
    exact ⟨by rw [HD.out]; rfl, by rw [HD.out]; exact PoolTo.stay HP.out HB1.out⟩
  · have HD := Lib.hid (HGG.out.1 hr)
    have HT := Lib.hid hT
    clear hr hT
    go_wp2_with fail
    go_ret
    exact ⟨by rw [HD.out]; rfl, by rw [HD.out]; exact PoolTo.from_ HB1.out HT.out⟩
end Go.Proofs.YtmpaogmfceldjaaDoor
