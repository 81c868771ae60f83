/- The comparisons of the law file, at equal arguments. -/
import Derived.Test.YtbofclohnmojmaaGreatDoorRD8
import Derived.Test.YtbofclohnmojmaaGreatDoorRD1
import Derived.Test.YtbofclohnmojmaaGreatDoorY9
namespace Go.Proofs.YtbofclohnmojmaaGreatDoor
open Go.RowKit
open Go.Sort (grow)

theorem fieldsCe : Tryz.prog.underlying 94 = some (.struct (Tryz.prog.fieldsOf 94)) := by kernel_rfl
theorem stoodCe : Tryz.prog.stoodInHeld 94 = false := by kernel_rfl
theorem run_neq_Ce (W : World) (a b d : Int) (c : ByteArray) : (binOp .neq 94 (.agg #[.int .i64 a, .int .i64 b, .string c, .int .i64 d]) (.agg #[.int .i64 a, .int .i64 b, .string c, .int .i64 d])).run Tryz.prog W = .ok (.bool false) W := by
  rw [run_neq_struct, run_equalIn_struct _ _ _ _ _ fieldsCe stoodCe]
  simp [go_sem]
attribute [go_sem ↓] run_neq_Ce
theorem ev_core {x y : Ev} (h : y.core = x.core) : y = { x with A := y.A, cp := y.cp } := by
  cases x
  cases y
  simp only [Ev.core, Ev.mk.injEq] at h
  obtain ⟨h1, h2, h3, h4, h5, h6, -, -, h9⟩ := h
  subst h1 h2 h3 h4 h5 h6 h9
  rfl
set_option maxHeartbeats 4000000 in
theorem sameC_any (A A2 : Option Addr) (c c2 : Nat) (l : List Cel) (w : World) (h : CelL w w.heap.size A l) (h2 : CelL w w.heap.size A2 l) (hn : l.length ≤ 1048576) :
    Calls Tryz.prog 64 #[.slice A l.length c, .slice A2 l.length c2] w fun e w' => e = .returned (.bool true) ∧ Below w.heap.size w w' := by
  have HG := Lib.hid (fun k x (hk : l[k]? = some x) => h.cell hk)
  have HG2 := Lib.hid (fun k x (hk : l[k]? = some x) => h2.cell hk)
  clear h h2
  go_enter Tryz.func64, Tryz.ntmps64
  go_wp2_with fail
  go_loopw [5] (fun i wr => ∃ k n : Nat, k ≤ l.length ∧ i = .int .i64 k ∧ wr = w.drewN n) (fun i _ => l.length - (intOf i).toNat)
  case atStart => exact ⟨0, 0, Nat.zero_le _, rfl, rfl⟩
  case round =>
    obtain ⟨k, nq, hk, rfl, rfl⟩ := hrel
    by_cases hlt : k < l.length
    · obtain ⟨g, o1, rfl, -, p0, p1, p2, p3⟩ := HG.out k l[k] (List.getElem?_eq_getElem hlt)
      obtain ⟨g', o2, rfl, -, q0, q1, q2, q3⟩ := HG2.out k l[k] (List.getElem?_eq_getElem hlt)
      have hltI : (k : Int) < l.length := by omega
      have hk0 : (0 : Int) ≤ k := by omega
      have HKW := Lib.hid (w64 (x := (k : Int) + 1) (by omega) (by omega))
      generalize l[k] = x at *
      go_wp2_with fail
      go_quiet (fail)
      obtain ⟨wk1, wk2⟩ := HKW.out
      go_wp2_with fail
      clear wk1 wk2
      go_roundw
      case rel => exact ⟨k + 1, _, by omega, by first | rfl | go_num, by first | rfl | rw [World.drewN_drewN]⟩
      case measure => simp [intOf] <;> omega
    · go_wp2_with fail
      go_ret
      exact ⟨rfl, below_drewN' _ _ _⟩
set_option maxHeartbeats 4000000 in
theorem sameE_any (x : Ev) (A2 : Option Addr) (c2 : Nat) (w : World) (h : EvIn w w.heap.size x) (h2 : EvIn w w.heap.size { x with A := A2, cp := c2 }) (hn : x.body.length ≤ 1048576) :
    Calls Tryz.prog 37 #[.agg #[.string x.id, .string x.tn, .string x.src, .string x.key, .int .i64 x.at_, .string x.cause, .slice x.A x.body.length x.cp], .agg #[.string x.id, .string x.tn, .string x.src, .string x.key, .int .i64 x.at_, .string x.cause, .slice A2 x.body.length c2]] w fun e w' => e = .returned (.bool true) ∧ Below w.heap.size w w' := by
  have hb1 := al_new w (.cells #[.string x.id, .string x.tn, .string x.src, .string x.key, .int .i64 x.at_, .string x.cause, .slice x.A x.body.length x.cp] 40)
  have hb2 : Below w.heap.size w ((w.alloc (.cells #[.string x.id, .string x.tn, .string x.src, .string x.key, .int .i64 x.at_, .string x.cause, .slice x.A x.body.length x.cp] 40)).alloc (.cells #[.string x.id, .string x.tn, .string x.src, .string x.key, .int .i64 x.at_, .string x.cause, .slice A2 x.body.length c2] 40)) := hb1.alloc hb1.size _
  have b1 := (Blk.new w 40 #[.string x.id, .string x.tn, .string x.src, .string x.key, .int .i64 x.at_, .string x.cause, .slice x.A x.body.length x.cp]).alloc (.cells #[.string x.id, .string x.tn, .string x.src, .string x.key, .int .i64 x.at_, .string x.cause, .slice A2 x.body.length c2] 40)
  have b2 := Blk.new1 w (.cells #[.string x.id, .string x.tn, .string x.src, .string x.key, .int .i64 x.at_, .string x.cause, .slice x.A x.body.length x.cp] 40) 40 #[.string x.id, .string x.tn, .string x.src, .string x.key, .int .i64 x.at_, .string x.cause, .slice A2 x.body.length c2]
  have HB2 := Lib.hid hb2
  have HC := Lib.hid (sameC_any x.A A2 x.cp c2 x.body _ ((show EvIn _ _ _ from h.keep hb2).more hb2.size) ((show EvIn _ _ _ from h2.keep hb2).more hb2.size) hn)
  clear h h2 hb1 hb2
  go_enter Tryz.func37, Tryz.ntmps37
  go_upto_region 1 with fail
  generalize (w.alloc (.cells #[.string x.id, .string x.tn, .string x.src, .string x.key, .int .i64 x.at_, .string x.cause, .slice x.A x.body.length x.cp] 40)).alloc (.cells #[.string x.id, .string x.tn, .string x.src, .string x.key, .int .i64 x.at_, .string x.cause, .slice A2 x.body.length c2] 40) = w2 at *
  have p0 : w2.cell? ⟨w.heap.size, 0, none⟩ = some (.string x.id) := b1.cell 0
  have p1 : w2.cell? ⟨w.heap.size, 1, none⟩ = some (.string x.tn) := b1.cell 1
  have p2 : w2.cell? ⟨w.heap.size, 2, none⟩ = some (.string x.src) := b1.cell 2
  have p3 : w2.cell? ⟨w.heap.size, 3, none⟩ = some (.string x.key) := b1.cell 3
  have p4 : w2.cell? ⟨w.heap.size, 4, none⟩ = some (.int .i64 x.at_) := b1.cell 4
  have p5 : w2.cell? ⟨w.heap.size, 5, none⟩ = some (.string x.cause) := b1.cell 5
  have p6 : w2.cell? ⟨w.heap.size, 6, none⟩ = some (.slice x.A x.body.length x.cp) := b1.cell 6
  have q0 : w2.cell? ⟨w.heap.size + 1, 0, none⟩ = some (.string x.id) := b2.cell 0
  have q1 : w2.cell? ⟨w.heap.size + 1, 1, none⟩ = some (.string x.tn) := b2.cell 1
  have q2 : w2.cell? ⟨w.heap.size + 1, 2, none⟩ = some (.string x.src) := b2.cell 2
  have q3 : w2.cell? ⟨w.heap.size + 1, 3, none⟩ = some (.string x.key) := b2.cell 3
  have q4 : w2.cell? ⟨w.heap.size + 1, 4, none⟩ = some (.int .i64 x.at_) := b2.cell 4
  have q5 : w2.cell? ⟨w.heap.size + 1, 5, none⟩ = some (.string x.cause) := b2.cell 5
  have q6 : w2.cell? ⟨w.heap.size + 1, 6, none⟩ = some (.slice A2 x.body.length c2) := b2.cell 6
  clear b1 b2
  go_wp2_with fail
  refine HC.out.mono ?_
  rintro e w3 ⟨rfl, hb⟩
  have HB3 := Lib.hid (HB2.out.trans (hb.mono HB2.out.size))
  clear hb p0 p1 p2 p3 p4 p5 p6 q0 q1 q2 q3 q4 q5 q6
  go_wp2_with fail
  go_ret
  exact ⟨rfl, HB3.out⟩
attribute [local go_sem ↓] run_lc7
theorem de_core {x y : De} (h : y.core = x.core) : y.rc = x.rc ∧ y.cnt = x.cnt ∧ y.ev.core = x.ev.core := by
  have h1 := congrArg De.rc h
  have h2 := congrArg De.cnt h
  have h3 := congrArg De.ev h
  exact ⟨h1, h2, h3⟩
theorem map_at {α β : Type} {f : α → β} {l m : List α} (h : l.map f = m.map f) {k : Nat} {x : α} (hx : l[k]? = some x) : ∃ y, m[k]? = some y ∧ f y = f x := by
  have h1 := congrArg (fun t => t[k]?) h
  simp only [List.getElem?_map, hx, Option.map_some] at h1
  cases hy : m[k]? with
  | none => rw [hy] at h1; simp at h1
  | some y => rw [hy] at h1; exact ⟨y, rfl, (Option.some.inj h1).symm⟩
theorem map_len {α β : Type} {f : α → β} {l m : List α} (h : l.map f = m.map f) : m.length = l.length := by
  have := congrArg List.length h
  simpa using this.symm
/-- The event of a delivery, loaded whole. -/
theorem de_load {w w' : World} {g k : Nat} {r : List De} {x : De} (hx : r[k]? = some x) (hc : ∀ j u, (r.flatMap De.cells)[j]? = some u → w.cell? ⟨g, j, none⟩ = some u) (hw : ∀ j, w'.cell? ⟨g, j, none⟩ = w.cell? ⟨g, j, none⟩) :
    Sem.run Tryz.prog (lc7 ⟨g, k * 9 + 1, none⟩) w' = .ok #[.string x.ev.id, .string x.ev.tn, .string x.ev.src, .string x.ev.key, .int .i64 x.ev.at_, .string x.ev.cause, .slice x.ev.A x.ev.body.length x.ev.cp] w' := by
  have := run_loadCellsFrom_list Tryz.prog w' ⟨g, k * 9 + 1, none⟩ x.ev.cells 7 rfl (fun j u hj => by
    rw [Addr.add_lit, hw, Nat.add_assoc]
    have hjk : j < 7 := by rw [← Ev.len x.ev]; exact (List.getElem?_eq_some_iff.1 hj).1
    refine hc _ _ ?_
    rw [flat_get De.len r k (1 + j) x hx (by omega)]
    rw [Nat.add_comm 1 j]
    show (De.cells x)[j + 1]? = some u
    show (x.ev.cells ++ [.int .i64 x.cnt])[j]? = some u
    rw [List.getElem?_append_left (by rw [Ev.len]; exact hjk)]
    exact hj)
  exact this
set_option maxHeartbeats 8000000 in
set_option maxRecDepth 20000 in
theorem sameD_any {w : World} {B B2 b b2 c c2 : Nat} {A A2 : Option Addr} {r r2 : List De} (h : OwnD w B (.slice A r.length c) r) (h2 : OwnD w B2 (.slice A2 r2.length c2) r2) (he : r.map De.core = r2.map De.core) (hn : r.length ≤ 1000000) (hbd : ∀ d ∈ r, EvQ w b d.ev ∧ d.ev.body.length ≤ 1048576) (hbd2 : ∀ d ∈ r2, EvQ w b2 d.ev) :
    Calls Tryz.prog 13 #[.slice A r.length c, .slice A2 r2.length c2] w fun e w' => e = .returned (.bool true) ∧ Below w.heap.size w w' := by
  have hl2 := map_len he
  rw [hl2] at h2 ⊢
  have HO := Lib.hid h
  have HO2 := Lib.hid h2
  have HE := Lib.hid he
  have HBD := Lib.hid hbd
  have HBD2 := Lib.hid hbd2
  have HL2 := Lib.hid hl2
  clear h h2 he hbd hbd2 hl2
  go_enter Tryz.func13, Tryz.ntmps13
  go_wp2_with fail
  go_loopw [5] (fun i wx => ∃ k : Nat, k ≤ r.length ∧ i = .int .i64 k ∧ Below w.heap.size w wx) (fun i _ => r.length - (intOf i).toNat)
  case atStart => exact ⟨0, Nat.zero_le _, rfl, Below.refl _ _⟩
  case round =>
    obtain ⟨k, hk, rfl, hb⟩ := hrel
    have HB := Lib.hid hb
    have hzr : w.heap.size ≤ wr.heap.size := hb.size
    by_cases hlt : k < r.length
    · obtain ⟨x, hx⟩ : ∃ t, r[k]? = some t := ⟨_, List.getElem?_eq_getElem hlt⟩
      obtain ⟨y, hy, hxy⟩ := map_at HE.out hx
      obtain ⟨e1, e2, e3⟩ := de_core hxy
      obtain ⟨g, c5, ea, -, -, -, hgl, hcell, -⟩ := own_at (own_below HO.out hb) (by omega)
      injection ea with ea _ ec
      subst ea
      subst ec
      obtain ⟨g2, c6, ea, -, -, -, hgl2, hcell2, -⟩ := own_at (show wr.ownsRow B2 46 9 (.slice A2 r.length c2) r.length (r2.flatMap De.cells) by have := own_below HO2.out hb; unfold OwnD at this; rw [HL2.out] at this; exact this) (by omega)
      injection ea with ea _ ec
      subst ea
      subst ec
      have p0 : wr.cell? ⟨g, k * 9, none⟩ = some (.string x.rc) := by have := hcell (k * 9 + 0) _ (by rw [flat_get De.len r k 0 x hx (by omega)]; rfl); rwa [Nat.add_zero] at this
      have p8 : wr.cell? ⟨g, k * 9 + 8, none⟩ = some (.int .i64 x.cnt) := hcell (k * 9 + 8) _ (by rw [flat_get De.len r k 8 x hx (by omega)]; rfl)
      have q0 : wr.cell? ⟨g2, k * 9, none⟩ = some (.string x.rc) := by have := hcell2 (k * 9 + 0) _ (by rw [flat_get De.len r2 k 0 y hy (by omega)]; rfl); rwa [Nat.add_zero, e1] at this
      have q8 : wr.cell? ⟨g2, k * 9 + 8, none⟩ = some (.int .i64 x.cnt) := by have := hcell2 (k * 9 + 8) _ (by rw [flat_get De.len r2 k 8 y hy (by omega)]; rfl); rwa [e2] at this
      have hye := ev_core e3
      obtain ⟨A3, c3, hye⟩ : ∃ A3 c3, y.ev = { x.ev with A := A3, cp := c3 } := ⟨_, _, hye⟩
      have hbx := HBD.out x (List.mem_of_getElem? hx)
      have hby := HBD2.out y (List.mem_of_getElem? hy)
      rw [hye] at hby
      have HC := Lib.hid (fun d os => Calls.regrown_of (sameE_any x.ev A3 c3 (grow (redrawn wr d) os) ((hbx.1.below hb).below (below_regrown wr d os)).inn ((hby.below hb).below (below_regrown wr d os)).inn hbx.2))
      have rl : ∀ d os, Sem.run Tryz.prog (lc7 ⟨g, k * 9 + 1, none⟩) (grow (redrawn wr d) os) = .ok #[.string x.ev.id, .string x.ev.tn, .string x.ev.src, .string x.ev.key, .int .i64 x.ev.at_, .string x.ev.cause, .slice x.ev.A x.ev.body.length x.ev.cp] (grow (redrawn wr d) os) := fun d os => de_load hx hcell (fun j => (below_regrown wr d os).cell (p := ⟨g, j, none⟩) hgl)
      have rl2 : ∀ d os, Sem.run Tryz.prog (lc7 ⟨g2, k * 9 + 1, none⟩) (grow (redrawn wr d) os) = .ok #[.string x.ev.id, .string x.ev.tn, .string x.ev.src, .string x.ev.key, .int .i64 x.ev.at_, .string x.ev.cause, .slice A3 x.ev.body.length c3] (grow (redrawn wr d) os) := fun d os => by
        have := de_load hy hcell2 (w' := grow (redrawn wr d) os) (fun j => (below_regrown wr d os).cell (p := ⟨g2, j, none⟩) hgl2)
        rw [hye] at this
        exact this
      have r0 := fun d os => cell_regrown p0 d os
      have r8 := fun d os => cell_regrown p8 d os
      have s0 := fun d os => cell_regrown q0 d os
      have s8 := fun d os => cell_regrown q8 d os
      have hki : (k : Int) < r.length := by omega
      have hk0 : (0 : Int) ≤ k := by omega
      have HKW := Lib.hid (w64 (x := (k : Int) + 1) (by omega) (by omega))
      clear hcell hcell2 hbx hby hye hx hy hxy e1 e2 e3 p0 p8 q0 q8 hb
      go_upto_region 6 with fail
      refine wp_region_quiet_below (by kernel_rfl) (by kernel_rfl) ?_
      repeat (go_big_quiet_step (first | (go_at_call 37; go_must (exact HC.out _ _))))
      refine wpQuiet_nil ?_
      intro _ hw'
      obtain ⟨⟨dq, osq⟩, hw''⟩ := hw'
      subst hw''
      have hb4 := below_regrown wr dq osq
      have HB4 := Lib.hid (HB.out.trans (hb4.mono hzr))
      clear hb4 HC rl rl2 r0 r8 s0 s8
      generalize grow (redrawn wr dq) osq = w4 at *
      obtain ⟨wk1, wk2⟩ := HKW.out
      go_wp2_with fail
      clear wk1 wk2
      go_roundw
      case rel => exact ⟨k + 1, by omega, by first | rfl | go_num, HB4.out⟩
      case measure => exact meas_lt hlt
    · go_wp2_with fail
      go_ret
      exact ⟨rfl, HB.out⟩
set_option maxHeartbeats 8000000 in
set_option maxRecDepth 20000 in
theorem sameV_any {w : World} {B B2 b b2 c c2 : Nat} {A A2 : Option Addr} {r r2 : List Ev} (h : OwnV w B (.slice A r.length c) r) (h2 : OwnV w B2 (.slice A2 r2.length c2) r2) (he : r.map Ev.core = r2.map Ev.core) (hn : r.length ≤ 1000000) (hbd : ∀ d ∈ r, EvQ w b d ∧ d.body.length ≤ 1048576) (hbd2 : ∀ d ∈ r2, EvQ w b2 d) :
    Calls Tryz.prog 21 #[.slice A r.length c, .slice A2 r2.length c2] w fun e w' => e = .returned (.bool true) ∧ Below w.heap.size w w' := by
  have hl2 := map_len he
  have HO := Lib.hid h
  have HO2 := Lib.hid h2
  have HE := Lib.hid he
  have HBD := Lib.hid hbd
  have HBD2 := Lib.hid hbd2
  have HL2 := Lib.hid hl2
  rw [hl2]
  clear h h2 he hbd hbd2 hl2
  go_enter Tryz.func21, Tryz.ntmps21
  go_wp2_with fail
  go_loopw [5] (fun i wx => ∃ k : Nat, k ≤ r.length ∧ i = .int .i64 k ∧ Below w.heap.size w wx) (fun i _ => r.length - (intOf i).toNat)
  case atStart => exact ⟨0, Nat.zero_le _, rfl, Below.refl _ _⟩
  case round =>
    obtain ⟨k, hk, rfl, hb⟩ := hrel
    have HB := Lib.hid hb
    have hzr : w.heap.size ≤ wr.heap.size := hb.size
    by_cases hlt : k < r.length
    · obtain ⟨x, hx⟩ : ∃ t, r[k]? = some t := ⟨_, List.getElem?_eq_getElem hlt⟩
      obtain ⟨y, hy, hxy⟩ := map_at HE.out hx
      obtain ⟨A3, c3, rfl⟩ : ∃ A3 c3, y = { x with A := A3, cp := c3 } := ⟨_, _, ev_core hxy⟩
      obtain ⟨g, rfl, -, hgl, -, -⟩ := ld_ev (own_below HO.out hb) hx
      obtain ⟨g2, rfl, -, hgl2, -, -⟩ := ld_ev (own_below HO2.out hb) hy
      have hbx := HBD.out x (List.mem_of_getElem? hx)
      have hby := HBD2.out _ (List.mem_of_getElem? hy)
      have HC := Lib.hid (fun d os => Calls.regrown_of (sameE_any x A3 c3 (grow (redrawn wr d) os) ((hbx.1.below hb).below (below_regrown wr d os)).inn ((hby.below hb).below (below_regrown wr d os)).inn hbx.2))
      have rl : ∀ d os, Sem.run Tryz.prog (lc7 ⟨g, k * 7, none⟩) (grow (redrawn wr d) os) = .ok #[.string x.id, .string x.tn, .string x.src, .string x.key, .int .i64 x.at_, .string x.cause, .slice x.A x.body.length x.cp] (grow (redrawn wr d) os) := fun d os => by
        obtain ⟨g', e, -, -, -, h⟩ := ld_ev (own_below (own_below HO.out hb) (below_regrown wr d os)) hx
        injection e with e
        injection e with e
        subst e
        exact h
      have rl2 : ∀ d os, Sem.run Tryz.prog (lc7 ⟨g2, k * 7, none⟩) (grow (redrawn wr d) os) = .ok #[.string x.id, .string x.tn, .string x.src, .string x.key, .int .i64 x.at_, .string x.cause, .slice A3 x.body.length c3] (grow (redrawn wr d) os) := fun d os => by
        obtain ⟨g', e, -, -, -, h⟩ := ld_ev (own_below (own_below HO2.out hb) (below_regrown wr d os)) hy
        injection e with e
        injection e with e
        subst e
        exact h
      have hki : (k : Int) < r.length := by omega
      have hk0 : (0 : Int) ≤ k := by omega
      have HKW := Lib.hid (w64 (x := (k : Int) + 1) (by omega) (by omega))
      clear hbx hby hx hy hxy hb
      go_upto_region 6 with fail
      refine wp_region_quiet_below (by kernel_rfl) (by kernel_rfl) ?_
      repeat (go_big_quiet_step (first | (go_at_call 37; go_must (exact HC.out _ _))))
      refine wpQuiet_nil ?_
      intro _ hw'
      obtain ⟨⟨dq, osq⟩, hw''⟩ := hw'
      subst hw''
      have hb4 := below_regrown wr dq osq
      have HB4 := Lib.hid (HB.out.trans (hb4.mono hzr))
      clear hb4 HC rl rl2
      generalize grow (redrawn wr dq) osq = w4 at *
      obtain ⟨wk1, wk2⟩ := HKW.out
      go_wp2_with fail
      clear wk1 wk2
      go_roundw
      case rel => exact ⟨k + 1, by omega, by first | rfl | go_num, HB4.out⟩
      case measure => exact meas_lt hlt
    · go_wp2_with fail
      go_ret
      exact ⟨rfl, HB.out⟩
end Go.Proofs.YtbofclohnmojmaaGreatDoor
