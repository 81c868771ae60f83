/- The reference's Keys, New. -/
import Derived.Test.YtbofclohnmojmaaGreatDoorRD5
namespace Go.Proofs.YtbofclohnmojmaaGreatDoor
open Go.RowKit
open Go.Sort (grow)

theorem keys_rcv {s : QS} (hl : s.l.length ≤ 256) : (rcvD s 256).map (fun d => d.ev.key) = keysS s := by
  have ht : takeI s.now s.l 256 = rdyL s.now s.l s.l.length := by
    unfold takeI
    exact List.take_of_length_le (Nat.le_trans (rdyL_len _ _ _) hl)
  refine List.ext_getElem? fun k => ?_
  unfold keysS
  rw [List.getElem?_map, List.getElem?_map, rcvD_at, ht]
  cases hi : (rdyL s.now s.l s.l.length)[k]? with
  | none => rfl
  | some i =>
    have hil := rdy_lt hi
    have hx := List.getElem?_eq_getElem hil
    simp only [Option.bind_some, Option.map_some, keyOf', hx]
    rfl
theorem keys_core {r : List De} {s : QS} (h : r.map De.core = (rcvD s 256).map De.core) (hl : s.l.length ≤ 256) : r.map (fun d => d.ev.key) = keysS s := by
  rw [← keys_rcv hl]
  have h2 := congrArg (List.map fun d : De => d.ev.key) h
  rw [List.map_map, List.map_map] at h2
  exact h2
theorem OwnR.reads {w : World} {B c : Nat} {A : Option Addr} {l : List En} (h : OwnR w B (.slice A l.length c) l) : Reads w w.heap.size 10 A l.length (l.flatMap En.rcells) := by
  have hL : ∀ m : List En, (m.flatMap En.rcells).length = m.length * 10 := fun m => by
    induction m with
    | nil => rfl
    | cons x m ih => rw [List.flatMap_cons, List.length_append, ih, En.rlen, List.length_cons]; omega
  refine ⟨hL l, fun hn => ?_⟩
  obtain ⟨g, c2, e, _, _, _, hg, hcell, _⟩ := own_at h (by omega)
  injection e with e _ _
  exact ⟨g, 0, e, hg, fun j u hj => by rw [Nat.zero_add]; exact hcell _ _ hj⟩
theorem built_qr (v r now : Int) (A : Option Addr) (n c : Nat) (W : World) : (Instr.build 68 #[(0, .agg #[.int .i64 v, .int .i64 r]), (1, .slice A n c), (3, .int .i64 now)]).run Tryz.prog W = .ok (.agg #[.int .i64 v, .int .i64 r, .slice A n c, .slice none 0 0, .int .i64 now]) W := run_build W _ _ _ (by kernel_rfl)
theorem built_qr0 (v r : Int) (W : World) : (Instr.build 68 #[(0, .agg #[.int .i64 v, .int .i64 r])]).run Tryz.prog W = .ok (.agg #[.int .i64 v, .int .i64 r, .slice none 0 0, .slice none 0 0, .int .i64 0]) W := run_build W _ _ _ (by kernel_rfl)
def KyPostR (w : World) (s : QS) (now : Int) (e : Ending) (w' : World) : Prop := Below w.heap.size w w' ∧ ∃ v, e = .returned v ∧
  ((clkE s.now now ≠ 0 ∧ OwnS w' w.heap.size v []) ∨ (clkE s.now now = 0 ∧ ∃ s1, AccR s now s1 ∧ OwnS w' w.heap.size v (keysS s1)))
def NwPostR (w : World) (v r : Int) (e : Ending) (w' : World) : Prop := Below w.heap.size w w' ∧
  ((newQ v r ≠ 0 ∧ e = .returned (.tuple #[.pointer none, .int .i64 (newQ v r)])) ∨
  (newQ v r = 0 ∧ ∃ q, e = .returned (.tuple #[.pointer (some ⟨q, 0, none⟩), .int .i64 0]) ∧ RQ w' w.heap.size q none 0 none 0 ⟨v, r, 0, 0, [], []⟩))
attribute [local go_sem ↓] built_qr0 in
set_option maxHeartbeats 2000000 in
theorem rNew_any (v r : Int) (w : World) : Calls Tryz.prog 8 #[.agg #[.int .i64 v, .int .i64 r]] w (NwPostR w v r) := by
  have hb := al_new w (.cells #[.int .i64 v, .int .i64 r] 23)
  have HB := Lib.hid hb
  have HF := Lib.hid (show RQ ((w.alloc (.cells #[.int .i64 v, .int .i64 r] 23)).alloc (.cells #[.int .i64 v, .int .i64 r, .slice none 0 0, .slice none 0 0, .int .i64 0] 68)) w.heap.size (w.heap.size + 1) none 0 none 0 ⟨v, r, 0, 0, [], []⟩ from ⟨Blk.new1 w _ _ _, own_nil _ _ _ _, own_nil _ _ _ _, fun x hx => absurd hx (by simp), fun x hx => absurd hx (by simp), by omega⟩)
  clear hb
  by_cases hn : newQ v r = 0
  · have HN := Lib.hid hn
    unfold newQ at hn
    have hh : ¬ (v < 1 ∨ 1073741824 < v ∨ r < 1 ∨ 10 < r) := fun h => by rw [if_pos h] at hn; exact absurd hn (by decide)
    clear hn
    have h1 : ¬ v < 1 := fun h => hh (.inl h)
    have h2 : ¬ 1073741824 < v := fun h => hh (.inr (.inl h))
    have h3 : ¬ r < 1 := fun h => hh (.inr (.inr (.inl h)))
    have h4 : ¬ 10 < r := fun h => hh (.inr (.inr (.inr h)))
    clear hh
    go_enter Tryz.func8, Tryz.ntmps8
    go_wp2_with fail
    all_goals try (exfalso; omega)
    go_ret2
    exact ⟨HB.out.alloc (by simp) _, .inr ⟨HN.out, _, rfl, HF.out⟩⟩
  · have hh : v < 1 ∨ 1073741824 < v ∨ r < 1 ∨ 10 < r := by
      unfold newQ at hn
      by_cases h : v < 1 ∨ 1073741824 < v ∨ r < 1 ∨ 10 < r
      · exact h
      · rw [if_neg h] at hn; exact absurd rfl hn
    have HN := Lib.hid (show newQ v r = 2 by unfold newQ; rw [if_pos hh])
    clear hn
    go_enter Tryz.func8, Tryz.ntmps8
    go_wp2_with fail
    all_goals try (exfalso; omega)
    all_goals (go_ret2; exact ⟨HB.out, .inl ⟨by rw [HN.out]; decide, by rw [HN.out]; rfl⟩⟩)
section
variable {w : World} {B q c c' : Nat} {A A' : Option Addr} {s : QS}
attribute [local go_sem ↓] built_qr
set_option maxHeartbeats 16000000 in
set_option maxRecDepth 20000 in
theorem rKeys_any (hB : B ≤ w.heap.size) (hQ : RQ w B q A c A' c' s) (hok : s.ok) (now : Int) :
    Calls Tryz.prog 18 #[.pointer (some ⟨q, 0, none⟩), .int .i64 now] w (KyPostR w s now) := by
  have hv : 0 < s.v := by have := hok.v; omega
  have hll : s.l.length ≤ 256 := by have := hok.len; omega
  have hb0 : Below w.heap.size w (w.alloc (.cells #[] 9)) := al_new w _
  have HO0 := Lib.hid (show OwnS (w.alloc (.cells #[] 9)) w.heap.size (.slice (some ⟨w.heap.size, 0, none⟩) 0 0) [] from by
    have h := World.ownsRow_lit (base := w.heap.size) (size := 1) (e := 9) w #[] 0 (Nat.le_refl _) (by decide) rfl
    simpa [OwnS, svals] using h)
  have hz0 : w.heap.size < (w.alloc (.cells #[] 9)).heap.size := (Blk.new w 9 #[]).lt
  have HQ0 := Lib.hid (hQ.below hb0)
  have HK := Lib.hid hok
  have HBW := Lib.hid hB
  have HB0 := Lib.hid hb0
  clear hQ hok hB hb0
  go_enter Tryz.func18, Tryz.ntmps18
  go_wp2_with fail
  generalize w.alloc (.cells #[] 9) = w0 at *
  refine (rmade_any HQ0.out hv).mono ?_
  rintro e wq ⟨rfl, hq⟩
  obtain rfl := hq.symm
  go_upto_region 4 with fail
  have q0 : w0.cell? ⟨q, 0, none⟩ = some (.int .i64 s.v) := HQ0.out.blk.cell 0
  have q1 : w0.cell? ⟨q, 1, none⟩ = some (.int .i64 s.r) := HQ0.out.blk.cell 1
  have q2 : w0.cell? ⟨q, 2, none⟩ = some (.slice A s.l.length c) := HQ0.out.blk.cell 2
  have q4 : w0.cell? ⟨q, 4, none⟩ = some (.int .i64 s.now) := HQ0.out.blk.cell 4
  have q0a := cell_al q0 (.cells #[] 78)
  have q1a := cell_al q1 (.cells #[] 78)
  have q2a := cell_al q2 (.cells #[] 78)
  have q4a := cell_al q4 (.cells #[] 78)
  obtain ⟨i0, ih, iz0, iz1, iz2⟩ := info_partsO info_itemR
  have hb1 : Below w0.heap.size w0 ((w0.drew).alloc (.cells #[] 78)) := (below_drew' w0).trans (al_new w0.drew _)
  have HB1 := Lib.hid hb1
  have HOW := Lib.hid (show ((w0.drew).alloc (.cells #[] 78)).ownsRow w0.heap.size 78 10 (.slice (some ⟨w0.heap.size, 0, none⟩) 0 0) 0 [] from by
    have h := World.ownsRow_lit (base := w0.heap.size) (size := 10) (e := 78) w0.drew #[] 0 (Nat.le_refl _) (by decide) rfl
    simpa using h)
  have HRD := Lib.hid (show Reads ((w0.drew).alloc (.cells #[] 78)) w0.heap.size 10 A s.l.length (s.l.flatMap En.rcells) from HQ0.out.row.reads.below hb1)
  have HA1 := Lib.hid (show 0 + s.l.length ≤ maxLen by simp only [maxLen]; omega)
  have HA2 := Lib.hid (show (0 + s.l.length) * 136 ≤ 140737488355328 by omega)
  have HA3 := Lib.hid (show w0.heap.size ≤ ((w0.drew).alloc (.cells #[] 78)).heap.size from hb1.size)
  clear hb1
  have HS := Lib.hid (show ∀ w', Below w0.heap.size w0 w' → (w'.cell? ⟨q, 0, none⟩ = some (.int .i64 s.v) ∧ w'.cell? ⟨q, 1, none⟩ = some (.int .i64 s.r) ∧ w'.cell? ⟨q, 2, none⟩ = some (.slice A s.l.length c) ∧ w'.cell? ⟨q, 4, none⟩ = some (.int .i64 s.now)) ∧ Below w0.heap.size w0 w' from fun w' hb => ⟨⟨(HQ0.out.below hb).blk.cell 0, (HQ0.out.below hb).blk.cell 1, (HQ0.out.below hb).blk.cell 2, (HQ0.out.below hb).blk.cell 4⟩, hb⟩)
  go_region_held3 (fun w' => (w'.cell? ⟨q, 0, none⟩ = some (.int .i64 s.v) ∧ w'.cell? ⟨q, 1, none⟩ = some (.int .i64 s.r) ∧ w'.cell? ⟨q, 2, none⟩ = some (.slice A s.l.length c) ∧ w'.cell? ⟨q, 4, none⟩ = some (.int .i64 s.now)) ∧ Below w0.heap.size w0 w') (first | assumption | exact HS.out _ (by assumption) | exact HS.out _ (Below.refl _ _) | exact HS.out _ (below_drew' _) | exact HS.out _ HB1.out | exact HS.out _ (held_b2 (Nat.le_refl _) (by assumption) (al_new _ _)) | exact HS.out _ (held_b2 (Nat.le_refl _) (below_drew' _) (al_new _ _))) ((refine step_append_any _ rfl (.tmp 18) (.tmp 22) 66 rfl w0.heap.size 78 i0 _ 10 136 Tryz.underlying66 ih iz0 iz1 iz2 rfl (by decide) (.slice (some ⟨w0.heap.size, 0, none⟩) 0 0) 0 [] (by simp [Act.eval]) HOW.out w0.heap.size A s.l.length c (s.l.flatMap En.rcells) (by simp [Act.eval]) HRD.out (flat_one En.rone _) HA1.out HA2.out HA3.out ?_; intro v' w5 hown hgr hblk; obtain ⟨A9, c9, hv9⟩ := own_slice hown; have HG5 := Lib.hid (And.intro hown hgr); have hch : Chg (fun k => (Value.slice (some (⟨w0.heap.size, 0, none⟩ : Addr)) 0 0).ownBlock = some k) ((w0.drew).alloc (.cells #[] 78)) w5 := (Chg.refl _ _).grown hgr (fun _ hk _ => hk); have hb5 : Below w0.heap.size w0 w5 := HB1.out.trans (hch.toBelow (B := w0.heap.size) (fun k hk => by have := Option.some.inj hk; simp at this; omega) HB1.out.size); have HB5 := Lib.hid hb5; have hq5 := HQ0.out.below hb5; have q05 : w5.cell? ⟨q, 0, none⟩ = some (.int .i64 s.v) := hq5.blk.cell 0; have q15 : w5.cell? ⟨q, 1, none⟩ = some (.int .i64 s.r) := hq5.blk.cell 1; have q25 : w5.cell? ⟨q, 2, none⟩ = some (.slice A s.l.length c) := hq5.blk.cell 2; have q45 : w5.cell? ⟨q, 4, none⟩ = some (.int .i64 s.now) := hq5.blk.cell 4; clear hown hgr hblk hch hq5; subst hv9))
  have hrow := HG5.out.1
  simp only [Nat.zero_add, List.nil_append] at hrow
  have hz5 : w0.heap.size ≤ w5.heap.size := HB5.out.size
  have hb6 : Below w0.heap.size w0 (w5.alloc (.cells #[.int .i64 s.v, .int .i64 s.r, .slice A9 s.l.length c9, .slice none 0 0, .int .i64 s.now] 68)) := HB5.out.alloc hz5 _
  have hb9 : ∀ k, A9.map (·.block) = some k → w0.heap.size ≤ k := fun k hk => own_ge hrow k (by rw [own_eq]; exact hk)
  have hqp : RQ (w5.alloc (.cells #[.int .i64 s.v, .int .i64 s.r, .slice A9 s.l.length c9, .slice none 0 0, .int .i64 s.now] 68)) B w5.heap.size A9 c9 none 0 { s with d := [] } := ⟨Blk.new w5 _ _, (own_base hrow (by have := HBW.out; omega)).alloc _, own_nil _ _ _ _, fun x hx => (HQ0.out.below hb6).bl x hx, fun y hy => absurd hy (by simp), by have := HBW.out; omega⟩
  have hok2 : ({ s with d := [] } : QS).ok := ⟨HK.out.v, HK.out.r, HK.out.now, HK.out.arr, by simp; omega, HK.out.ord, HK.out.arrs, HK.out.rcv, HK.out.vis, HK.out.els, by simp⟩
  have HB6 := Lib.hid hb6
  have HB9 := Lib.hid hb9
  have HQP := Lib.hid hqp
  have HK2 := Lib.hid hok2
  have hz6 : w5.heap.size < (w5.alloc (.cells #[.int .i64 s.v, .int .i64 s.r, .slice A9 s.l.length c9, .slice none 0 0, .int .i64 s.now] 68)).heap.size := (Blk.new w5 68 #[.int .i64 s.v, .int .i64 s.r, .slice A9 s.l.length c9, .slice none 0 0, .int .i64 s.now]).lt
  rename_i hHeld
  clear hrow hb6 hb9 hqp hok2 q0 q1 q2 q4 q0a q1a q2a q4a hHeld
  generalize w5.alloc (.cells #[.int .i64 s.v, .int .i64 s.r, .slice A9 s.l.length c9, .slice none 0 0, .int .i64 s.now] 68) = w6 at *
  have HRV := Lib.hid (rReceive_any (show B ≤ w6.heap.size by have := HBW.out; omega) HQP.out HK2.out now 256)
  go_wp2_with fail
  refine HRV.out.mono ?_
  intro e w7 hrv
  have hall : ∃ v r, e = .returned v ∧ OwnD w7 w6.heap.size v r ∧ Below w0.heap.size w6 w7 ∧ r.length ≤ 256 ∧ ((clkE s.now now ≠ 0 ∧ r = []) ∨ (clkE s.now now = 0 ∧ ∃ s1, AccR s now s1 ∧ r.map (fun d => d.ev.key) = keysS s1)) := by
    have hto : ∀ s2, RTo w6 B w5.heap.size A9 none s2 w7 → Below w0.heap.size w6 w7 := fun s2 ht => by
      obtain ⟨_, _, _, _, _, hch, _⟩ := ht
      refine hch.toBelow (B := w0.heap.size) (fun k hk => ?_) (by omega)
      rcases hk with h | h | h
      · omega
      · exact HB9.out k h
      · simp at h
    rcases hrv with ⟨hc, v, he, ho, ht⟩ | ⟨hc, s1, v, r, hacc, he, ho, hr, -, ht⟩
    · exact ⟨v, [], he, ho, hto _ ht, by simp, .inl ⟨hc, rfl⟩⟩
    · have hlen : s1.l.length ≤ 256 := Nat.le_trans hacc.sub.length_le hll
      have hkc := keys_core hr hlen
      have hrl : r.length ≤ 256 := by
        have h1 := congrArg List.length hkc
        unfold keysS at h1
        simp only [List.length_map] at h1
        rw [h1]
        exact Nat.le_trans (rdyL_len _ _ _) hlen
      obtain ⟨r0, hr0, rfl⟩ := hacc
      exact ⟨v, r, he, ho, hto _ ht, hrl, .inr ⟨hc, accS s now r0, ⟨r0, hr0, rfl⟩, hkc⟩⟩
  obtain ⟨v, r, rfl, hod, hb7, hrl, hres⟩ := hall
  obtain ⟨Ad, cd, rfl⟩ := own_slice hod
  have HOD := Lib.hid hod
  have HRES := Lib.hid hres
  have HB7 := Lib.hid (show Below w0.heap.size w0 w7 from HB6.out.trans hb7)
  have HO7 := Lib.hid (show OwnS w7 w.heap.size (.slice (some ⟨w.heap.size, 0, none⟩) 0 0) [] from own_below HO0.out HB7.out)
  have HBL7 := Lib.hid (show Below w.heap.size w w7 from HB0.out.trans (HB7.out.mono (by omega)))
  clear hrv hod hb7 hres
  obtain ⟨i1, jh, jz0, jz1, jz2⟩ := info_partsO info_str
  go_wp2_with fail
  go_loopw [5, 8] (fun v5 v8 wx => ∃ k : Nat, k ≤ r.length ∧ v8 = .int .i64 k ∧ OwnS wx w.heap.size v5 ((r.take k).map fun d => d.ev.key) ∧ OwnD wx w6.heap.size (.slice Ad r.length cd) r ∧ Below w.heap.size w wx) (fun _ v8 _ => r.length - (intOf v8).toNat)
  case atStart => exact ⟨0, Nat.zero_le _, rfl, HO7.out, HOD.out, HBL7.out⟩
  case round =>
    obtain ⟨k, hk, rfl, hown, hdl, hb⟩ := hrel
    obtain ⟨v, rfl⟩ : ∃ v : Value, v = u5 := ⟨_, rfl⟩
    have HO := Lib.hid hown
    have HDL := Lib.hid hdl
    have HB := Lib.hid hb
    have hzr : w.heap.size ≤ wr.heap.size := hb.size
    clear hown hdl hb
    by_cases hlt : k < r.length
    · obtain ⟨x, hx⟩ : ∃ t, r[k]? = some t := ⟨_, List.getElem?_eq_getElem hlt⟩
      obtain ⟨g, c5, e1, -, -, -, hgl, hcell, -⟩ := own_at HDL.out (by omega)
      injection e1 with e1 _ e3
      subst e1
      subst e3
      have e4 : wr.cell? ⟨g, k * 9 + 4, none⟩ = some (.string x.ev.key) := hcell (k * 9 + 4) _ (by rw [flat_get De.len r k 4 x hx (by omega)]; rfl)
      have hki : (k : Int) < r.length := by omega
      have hk0 : (0 : Int) ≤ k := by omega
      have HTK := Lib.hid (show (r.take (k + 1)).map (fun d => d.ev.key) = (r.take k).map (fun d => d.ev.key) ++ [x.ev.key] by rw [take_snoc2 hx, List.map_append]; rfl)
      have HPL : Hid (((r.take k).map fun d => d.ev.key).length ≤ 256) := Lib.hid (by rw [List.length_map, List.length_take]; omega)
      have HK1 := Lib.hid (show k + 1 ≤ r.length from hlt)
      have HKW := Lib.hid (w64 (x := (k : Int) + 1) (by omega) (by omega))
      have hPL := HPL.out
      generalize ((r.take k).map fun d => d.ev.key) = P at *
      have HA1 := Lib.hid (show P.length + 1 ≤ maxLen by simp only [maxLen]; omega)
      have HA2 := Lib.hid (show (P.length + 1) * 16 ≤ 140737488355328 by omega)
      have HA3 := Lib.hid (show w.heap.size ≤ (wr.alloc (.cells #[.string x.ev.key] 9)).heap.size by simp; omega)
      obtain ⟨wk1, wk2⟩ := HKW.out
      clear hx hcell hPL HPL
      go_wp2_with (at_builtin; go_loud (refine wpList_append_own _ rfl (.tmp 39) (.tmp 46) 34 rfl w.heap.size 9 i1 (.string ⟨#[]⟩) 1 16 Tryz.underlying34 jh jz0 jz1 jz2 rfl (by decide) _ P.length (svals P) rfl (HO.out.alloc _) ⟨wr.heap.size, 0, none⟩ 1 1 [.string x.ev.key] rfl rfl (cells_new_at rfl) (by intro u hu; simp at hu; subst hu; rfl) HA1.out HA2.out HA3.out ?_); intro v' wn hown1 hgr hiff; clear hiff; have HGR := Lib.hid (And.intro hown1 hgr); clear hown1 hgr)
      have hcw : Chg (fun j => v.ownBlock = some j) wr wn := ((Chg.refl _ wr).alloc _).grown HGR.out.2 (fun j hj _ => hj)
      have HLOW := Lib.hid ((HB.out.alloc hzr _).grown HGR.out.2 HA3.out (fun q hq => own_ge HO.out q hq))
      have HDN := Lib.hid (show OwnD wn w6.heap.size (.slice (some ⟨g, 0, none⟩) r.length cd) r from hcw.own HDL.out (fun j hj e => by
        obtain ⟨cs, hb⟩ := own_blk HO.out e
        exact hb.off HDL.out (by decide) (k := j) hj rfl))
      have HF := Lib.hid (OwnS.push HGR.out.1)
      clear hcw HGR wk1 wk2
      go_roundw
      case rel => exact ⟨k + 1, HK1.out, by first | rfl | go_num, by rw [HTK.out]; exact HF.out, HDN.out, HLOW.out⟩
      case measure => exact meas_lt hlt
    · obtain rfl : k = r.length := by omega
      go_wp2_with fail
      go_ret
      have hO := HO.out
      rw [List.take_length] at hO
      refine ⟨HB.out, _, rfl, ?_⟩
      rcases HRES.out with ⟨hc, h⟩ | ⟨hc, s1, hacc, h⟩
      · rw [h] at hO
        exact .inl ⟨hc, hO⟩
      · rw [h] at hO
        exact .inr ⟨hc, s1, hacc, hO⟩
end
end Go.Proofs.YtbofclohnmojmaaGreatDoor
