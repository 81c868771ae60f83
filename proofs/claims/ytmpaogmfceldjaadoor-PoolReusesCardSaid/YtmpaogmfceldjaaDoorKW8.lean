/- The program's Acquire: an instance is idle. -/
import Derived.Test.YtmpaogmfceldjaaDoorKW7
namespace Go.Proofs.YtmpaogmfceldjaaDoor
open Go.RowKit
open Go.Sort (grow)

/-- The captured variables of Acquire. -/
structure AcqCaps (w0 w : World) (p bp bn bs ba : Nat) (now : Int) (v : ByteArray) (n : Int) : Prop where
  p_ : Blk w bp 25 #[.pointer (some ⟨p, 0, none⟩)]
  n_ : Blk w bn 3 #[.int .i64 now]
  s_ : Blk w bs 9 #[.string v]
  a_ : Blk w ba 3 #[.int .i64 n]
  hs : w0.heap.size ≤ bs
  ha : w0.heap.size ≤ ba
  hn : bn ≠ ba
  lo : p < w0.heap.size
section
variable {w0 w w' : World} {p bp bn bs ba : Nat} {now n : Int} {v : ByteArray}
theorem AcqCaps.on (h : AcqCaps w0 w p bp bn bs ba now v n) (hb : Below w.heap.size w w') : AcqCaps w0 w' p bp bn bs ba now v n := ⟨h.p_.on hb, h.n_.on hb, h.s_.on hb, h.a_.on hb, h.hs, h.ha, h.hn, h.lo⟩
theorem AcqCaps.far (h : AcqCaps w0 w p bp bn bs ba now v n) {g j : Nat} (hg : w.heap.size ≤ g ∨ g = p) (u : Value) (h0 : bp ≠ p) (h1 : bn ≠ p) : AcqCaps w0 (w.setCell ⟨g, j, none⟩ u) p bp bn bs ba now v n := by
  have l1 := h.p_.lt
  have l2 := h.n_.lt
  have l3 := h.s_.lt
  have l4 := h.a_.lt
  have hs := h.hs
  have ha := h.ha
  have lo := h.lo
  exact ⟨h.p_.far (p := ⟨g, j, none⟩) (by show bp ≠ g; omega) u, h.n_.far (p := ⟨g, j, none⟩) (by show bn ≠ g; omega) u, h.s_.far (p := ⟨g, j, none⟩) (by show bs ≠ g; omega) u, h.a_.far (p := ⟨g, j, none⟩) (by show ba ≠ g; omega) u, h.hs, h.ha, h.hn, h.lo⟩
theorem AcqCaps.grown {m : Nat} (h : AcqCaps w0 w p bp bn bs ba now v n) (hg : w.grownBy w' (some m)) (h0 : bp ≠ m) (h1 : bn ≠ m) (hm : m < w0.heap.size) : AcqCaps w0 w' p bp bn bs ba now v n := by
  have hs := h.hs
  have ha := h.ha
  exact ⟨(hg.block bp h.p_.lt (fun e => h0 (by injection e))).trans h.p_, (hg.block bn h.n_.lt (fun e => h1 (by injection e))).trans h.n_, (hg.block bs h.s_.lt (fun e => by injection e; omega)).trans h.s_, (hg.block ba h.a_.lt (fun e => by injection e; omega)).trans h.a_, h.hs, h.ha, h.hn, h.lo⟩
end
theorem PoolTo.store2 {w0 w1 : World} {B p m c bs ba : Nat} {A A' : Option Addr} {s : PS} (hP : PoolAt w1 B p m A' c s) (hC : Chg (pf p m A) w0 w1) (hA : ∀ k, pf p m A' k → pf p m A k ∨ w0.heap.size ≤ k) (h1 : w0.heap.size ≤ bs) (h2 : w0.heap.size ≤ ba) (hn : ∀ k, pf p m A' k → k ≠ bs ∧ k ≠ ba) (u v : Value) :
    PoolTo w0 B p m A s ((w1.setCell ⟨bs, 0, none⟩ u).setCell ⟨ba, 0, none⟩ v).drew := by
  have hc : Chg (fun k => k = bs ∨ k = ba) w1 ((w1.setCell ⟨bs, 0, none⟩ u).setCell ⟨ba, 0, none⟩ v).drew := (((Chg.refl (fun k => k = bs ∨ k = ba) w1).setCell (p := ⟨bs, 0, none⟩) (fun _ => .inl rfl) u).setCell (p := ⟨ba, 0, none⟩) (fun _ => .inr rfl) v).drew
  refine ⟨A', c, hP.chg hc (fun k hk => ?_), hC.trans hc (fun k hk e => ?_), hA⟩
  · rintro (e | e)
    · exact (hn k hk).1 e
    · exact (hn k hk).2 e
  · rcases e with e | e <;> omega
theorem cell_two {w : World} {bs ba : Nat} {u v u' v' : Value} (h1 : w.cell? ⟨bs, 0, none⟩ = some u') (h2 : w.cell? ⟨ba, 0, none⟩ = some v') (hne : bs ≠ ba) : ((w.setCell ⟨bs, 0, none⟩ u).setCell ⟨ba, 0, none⟩ v).drew.cell? ⟨bs, 0, none⟩ = some u ∧ ((w.setCell ⟨bs, 0, none⟩ u).setCell ⟨ba, 0, none⟩ v).drew.cell? ⟨ba, 0, none⟩ = some v := by
  constructor
  · show ((w.setCell ⟨bs, 0, none⟩ u).setCell ⟨ba, 0, none⟩ v).cell? ⟨bs, 0, none⟩ = some u
    rw [World.cell?_setCell_other _ _ _ _ (fun e => hne (congrArg Addr.block e).symm)]
    go_simp
  · show ((w.setCell ⟨bs, 0, none⟩ u).setCell ⟨ba, 0, none⟩ v).cell? ⟨ba, 0, none⟩ = some v
    have : (w.setCell ⟨bs, 0, none⟩ u).cell? ⟨ba, 0, none⟩ = some v' := by rw [World.cell?_setCell_other _ _ _ _ (fun e => hne (congrArg Addr.block e))]; exact h2
    go_simp
def AcqX (bs ba : Nat) (G : PS × ByteArray × Int × Int) (w' : World) : Prop := w'.cell? ⟨bs, 0, none⟩ = some (.string G.2.1) ∧ w'.cell? ⟨ba, 0, none⟩ = some (.int .i64 G.2.2.1)
def AcqIn (s : PS) (G : PS × ByteArray × Int × Int) (w0 : World) (B p m : Nat) (A : Option Addr) (bs ba : Nat) (e : Ending) (w' : World) : Prop := e = .returned (.int .i64 G.2.2.2) ∧ PoolTo w0 B p m A (at_ G.1 s.now) w' ∧ AcqX bs ba G w'
theorem acq_warm {s : PS} (now : Int) {j : Nat} {y : Ins} (h : wrm s.l = j) (hj : s.l[j]? = some y) : acqG s now = (⟨s.nm, s.p, now, s.bt, s.l.modify j (tak now)⟩, y.id, now, 0) := by
  unfold acqG
  rw [h, if_pos (by omega), Int.toNat_natCast]
  unfold idAt
  rw [hj]
theorem enters_acq (args : Array Value) (w : World) : Sem.run Tryd.prog (callFunc 34 args) w = .ok (.enter 34 args) w := enters_of Tryd.func34 (by kernel_rfl) rfl args w
set_option maxHeartbeats 8000000 in
set_option maxRecDepth 20000 in
theorem acqf_warm {w0 w : World} {B p m c : Nat} {A : Option Addr} {s : PS} (hP0 : PoolAt w0 B p m A c s) (hb0 : Below w0.heap.size w0 w) (hok : s.ok) (now : Int) {bp bn bs ba : Nat} {v : ByteArray} {n : Int} (hcap : AcqCaps w0 w p bp bn bs ba now v n) (hbp : w0.heap.size ≤ bp) (hbn : w0.heap.size ≤ bn) {j : Nat} {y : Ins} (hw : wrm s.l = j) (hj : s.l[j]? = some y) (hy : y.st = 2) :
    Calls Tryd.prog 34 #[.pointer (some ⟨bp, 0, none⟩), .pointer (some ⟨bn, 0, none⟩), .pointer (some ⟨bs, 0, none⟩), .pointer (some ⟨ba, 0, none⟩)] w (AcqIn s (acqG s now) w0 B p m A bs ba) := by
  have HD := Lib.hid (acq_warm now hw hj)
  have hP := hP0.below hb0
  have qp : w.cell? ⟨bp, 0, none⟩ = some (.pointer (some ⟨p, 0, none⟩)) := hcap.p_.cell 0
  have HID := idle_any hP hok
  rw [hw, (idl_yes (l := s.l) rfl hj).1, (idl_yes (l := s.l) rfl hj).2] at HID
  have hyo := hok.els y (List.mem_of_getElem? hj)
  have u1 := hyo.u0
  have u2 := hyo.u2 hy
  have u3 := hok.us.2
  have hus : y.uses ≤ 1073741824 := by omega
  have hpm := hP0.foot_lt m (.inr (.inl rfl))
  have hpp := hP0.foot_lt p (.inl rfl)
  have HH := Lib.hid HID
  have HP := Lib.hid hP
  have HP0 := Lib.hid hP0
  have HO := Lib.hid hok
  have HJ := Lib.hid hj
  have HB0 := Lib.hid hb0
  have HCP := Lib.hid hcap
  have hz0 : w0.heap.size ≤ w.heap.size := hb0.size
  clear hP HID hP0 hok hj hb0 hcap hw hyo u2 u3 hy
  go_enter Tryd.func34, Tryd.ntmps34
  go_wp2_with fail
  refine HH.out.mono ?_
  rintro e w1 ⟨rfl, hb1⟩
  have hz1 := hb1.size
  have HCP1 := Lib.hid (HCP.out.on hb1)
  have hP1 := HP.out.below hb1
  have HB1 := Lib.hid (HB0.out.trans (hb1.mono hz0))
  have qp1 : w1.cell? ⟨bp, 0, none⟩ = some (.pointer (some ⟨p, 0, none⟩)) := HCP1.out.p_.cell 0
  have q81 : w1.cell? ⟨p, 8, none⟩ = some (.map (some m)) := hP1.blk.cell 8
  obtain ⟨g, hA, -, -, -, hlook⟩ := hP1.elem HO.out HJ.out
  simp only [Ins.val] at hlook
  have HP1 := Lib.hid hP1
  clear hb1 hP1 qp
  go_wp2_with fail
  have hb2 : Below w1.heap.size w1 (w1.alloc (.cells #[.string y.id, .int .i64 y.st, .int .i64 y.since, .int .i64 y.uses] 56)) := (Below.refl _ _).alloc (Nat.le_refl _) _
  have hx2 := Blk.new w1 56 #[.string y.id, .int .i64 y.st, .int .i64 y.since, .int .i64 y.uses]
  have HCP2 := Lib.hid (HCP1.out.on hb2)
  have HB2 := Lib.hid (HB1.out.trans (hb2.mono (by omega)))
  have HX2 := Lib.hid hx2
  have hs2 := hx2.lt
  clear qp1 q81 hlook hb2 hx2
  generalize w1.alloc (.cells #[.string y.id, .int .i64 y.st, .int .i64 y.since, .int .i64 y.uses] 56) = W2 at *
  have qn : W2.cell? ⟨bn, 0, none⟩ = some (.int .i64 now) := HCP2.out.n_.cell 0
  have x1 : W2.cell? ⟨w1.heap.size, 1, none⟩ = some (.int .i64 y.st) := HX2.out.cell 1
  have x2 : W2.cell? ⟨w1.heap.size, 2, none⟩ = some (.int .i64 y.since) := HX2.out.cell 2
  have f1 := HX2.out.frozen 1
  have f2 := HX2.out.frozen 2
  have n1 : bn < w1.heap.size := HCP1.out.n_.lt
  have n0 : bp < w1.heap.size := HCP1.out.p_.lt
  have n2 : bs < w1.heap.size := HCP1.out.s_.lt
  have n3 : ba < w1.heap.size := HCP1.out.a_.lt
  go_region
  have HB3 := Lib.hid (show Below w0.heap.size w0 ((W2.setCell ⟨w1.heap.size, 1, none⟩ (.int .i64 3)).setCell ⟨w1.heap.size, 2, none⟩ (.int .i64 now)).drew from (((HB2.out).setCell (p := ⟨w1.heap.size, 1, none⟩) (by show w0.heap.size ≤ w1.heap.size; omega) _).setCell (p := ⟨w1.heap.size, 2, none⟩) (by show w0.heap.size ≤ w1.heap.size; omega) _).drew)
  have HX3 := Lib.hid (show Blk ((W2.setCell ⟨w1.heap.size, 1, none⟩ (.int .i64 3)).setCell ⟨w1.heap.size, 2, none⟩ (.int .i64 now)).drew w1.heap.size 56 #[.string y.id, .int .i64 3, .int .i64 now, .int .i64 y.uses] from (((HX2.out).set_ 1 _).set_ 2 _).drew)
  have HCP3 := Lib.hid (show AcqCaps w0 ((W2.setCell ⟨w1.heap.size, 1, none⟩ (.int .i64 3)).setCell ⟨w1.heap.size, 2, none⟩ (.int .i64 now)).drew p bp bn bs ba now v n from
    ⟨(((HCP2.out.p_).far (p := ⟨w1.heap.size, 1, none⟩) (by show bp ≠ w1.heap.size; omega) _).far (p := ⟨w1.heap.size, 2, none⟩) (by show bp ≠ w1.heap.size; omega) _).drew,
     (((HCP2.out.n_).far (p := ⟨w1.heap.size, 1, none⟩) (by show bn ≠ w1.heap.size; omega) _).far (p := ⟨w1.heap.size, 2, none⟩) (by show bn ≠ w1.heap.size; omega) _).drew,
     (((HCP2.out.s_).far (p := ⟨w1.heap.size, 1, none⟩) (by show bs ≠ w1.heap.size; omega) _).far (p := ⟨w1.heap.size, 2, none⟩) (by show bs ≠ w1.heap.size; omega) _).drew,
     (((HCP2.out.a_).far (p := ⟨w1.heap.size, 1, none⟩) (by show ba ≠ w1.heap.size; omega) _).far (p := ⟨w1.heap.size, 2, none⟩) (by show ba ≠ w1.heap.size; omega) _).drew, HCP2.out.hs, HCP2.out.ha, HCP2.out.hn, HCP2.out.lo⟩)
  clear qn x1 x2 f1 f2
  generalize ((W2.setCell ⟨w1.heap.size, 1, none⟩ (.int .i64 3)).setCell ⟨w1.heap.size, 2, none⟩ (.int .i64 now)).drew = W3 at *
  have x3 : W3.cell? ⟨w1.heap.size, 3, none⟩ = some (.int .i64 y.uses) := HX3.out.cell 3
  have f3 := HX3.out.frozen 3
  go_wp2_with fail
  have HB4 := Lib.hid (show Below w0.heap.size w0 (W3.setCell ⟨w1.heap.size, 3, none⟩ (.int .i64 (y.uses + 1))) from (HB3.out).setCell (p := ⟨w1.heap.size, 3, none⟩) (by show w0.heap.size ≤ w1.heap.size; omega) _)
  have HX4 := Lib.hid (show Blk (W3.setCell ⟨w1.heap.size, 3, none⟩ (.int .i64 (y.uses + 1))) w1.heap.size 56 #[.string y.id, .int .i64 3, .int .i64 now, .int .i64 (y.uses + 1)] from (HX3.out).set_ 3 _)
  have HCP4 := Lib.hid (show AcqCaps w0 (W3.setCell ⟨w1.heap.size, 3, none⟩ (.int .i64 (y.uses + 1))) p bp bn bs ba now v n from
    ⟨(HCP3.out.p_).far (p := ⟨w1.heap.size, 3, none⟩) (by show bp ≠ w1.heap.size; omega) _, (HCP3.out.n_).far (p := ⟨w1.heap.size, 3, none⟩) (by show bn ≠ w1.heap.size; omega) _, (HCP3.out.s_).far (p := ⟨w1.heap.size, 3, none⟩) (by show bs ≠ w1.heap.size; omega) _, (HCP3.out.a_).far (p := ⟨w1.heap.size, 3, none⟩) (by show ba ≠ w1.heap.size; omega) _, HCP3.out.hs, HCP3.out.ha, HCP3.out.hn, HCP3.out.lo⟩)
  clear x3 f3
  generalize W3.setCell ⟨w1.heap.size, 3, none⟩ (.int .i64 (y.uses + 1)) = W4 at *
  have hP4 := HP0.out.below HB4.out
  have q8 : W4.cell? ⟨p, 8, none⟩ = some (.map (some m)) := hP4.blk.cell 8
  have qp : W4.cell? ⟨bp, 0, none⟩ = some (.pointer (some ⟨p, 0, none⟩)) := HCP4.out.p_.cell 0
  have z0 : W4.cell? ⟨w1.heap.size, 0, none⟩ = some (.string y.id) := HX4.out.cell 0
  have z1 : W4.cell? ⟨w1.heap.size, 1, none⟩ = some (.int .i64 3) := HX4.out.cell 1
  have z2 : W4.cell? ⟨w1.heap.size, 2, none⟩ = some (.int .i64 now) := HX4.out.cell 2
  have z3 : W4.cell? ⟨w1.heap.size, 3, none⟩ = some (.int .i64 (y.uses + 1)) := HX4.out.cell 3
  go_still_tail 6, (by kernel_rfl)
  change wpList _ _ _ _ _ W4.drew
  have hd : Below W4.heap.size W4 W4.drew := below_drewN' W4.heap.size W4 1
  have HB5 := Lib.hid (HB4.out.trans (hd.mono HB4.out.size))
  have HP5 := Lib.hid (hP4.below hd)
  have HCP5 := Lib.hid (HCP4.out.on hd)
  clear q8 qp z0 z1 z2 z3 hd hP4
  generalize W4.drew = W5 at *
  obtain ⟨W6, hrun, hP6, hg6⟩ := HP5.out.put HO.out HJ.out (tak now) (fun _ => rfl)
  simp only [Ins.val, tak] at hrun
  have HP6 := Lib.hid hP6
  have HC6 := Lib.hid ((Chg.of_below (S := pf p m A) HB5.out).grown hg6 (fun k hk _ => by injection hk with hk; exact .inr (.inl hk.symm)))
  have HCP6 := Lib.hid (HCP5.out.grown hg6 (by omega) (by omega) hpm.2)
  clear hP6 hg6
  have qn : W6.cell? ⟨bn, 0, none⟩ = some (.int .i64 now) := HCP6.out.n_.cell 0
  have s1 : W6.cell? ⟨bs, 0, none⟩ = some (.string v) := HCP6.out.s_.cell 0
  have a1 : W6.cell? ⟨ba, 0, none⟩ = some (.int .i64 n) := HCP6.out.a_.cell 0
  have s2 := HCP6.out.s_.frozen 0
  have a2 := HCP6.out.a_.frozen 0
  have d1 : bn ≠ bs := fun e => HCP6.out.n_.ne_ HCP6.out.s_ (by decide) e
  have d2 := HCP6.out.hn
  have d3 : bs ≠ ba := fun e => HCP6.out.s_.ne_ HCP6.out.a_ (by decide) e
  go_wp2_with fail
  go_region
  have HZ := Lib.hid (cell_two (u := .string y.id) (v := .int .i64 now) s1 a1 d3)
  have HT := Lib.hid (PoolTo.store2 (bs := bs) (ba := ba) HP6.out HC6.out (fun _ hk => .inl hk) HCP6.out.hs HCP6.out.ha (fun k hk => by
    have h1 := (HP0.out.foot_lt k hk).2
    have h2 := HCP6.out.hs
    have h3 := HCP6.out.ha
    omega) (.string y.id) (.int .i64 now))
  go_wp2_with fail
  go_ret
  exact ⟨by rw [HD.out]; rfl, by rw [HD.out]; exact HT.out, by rw [HD.out]; exact HZ.out⟩
end Go.Proofs.YtmpaogmfceldjaaDoor
