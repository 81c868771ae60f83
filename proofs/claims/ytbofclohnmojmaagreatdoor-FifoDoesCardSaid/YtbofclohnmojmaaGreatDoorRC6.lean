/- The reference's remove. -/
import Derived.Test.YtbofclohnmojmaaGreatDoorRC5
namespace Go.Proofs.YtbofclohnmojmaaGreatDoor
open Go.RowKit
open Go.Sort (grow)

theorem info_itemR : (Tryz.prog.info? 78).map (fun i => (i.zero, i.size, i.bytes)) = some (some (.agg #[.string ⟨#[]⟩, .string ⟨#[]⟩, .string ⟨#[]⟩, .string ⟨#[]⟩, .int .i64 0, .string ⟨#[]⟩, .slice none 0 0, .int .i64 0, .int .i64 0, .bool false]), 10, 136) := by kernel_rfl
section
variable {w : World} {B q c c' : Nat} {A A' : Option Addr} {s : QS}
/-- s[k+1:], whatever its address. -/
theorem slice_from (g n c k : Nat) (hk : k < n) (hc : n ≤ c) : ∃ A3 : Option Addr, (∀ W : World, (Instr.slice 66 (.slice (some ⟨g, 0, none⟩) n c) (some (.int .i64 ((k : Int) + 1))) none none).run Tryz.prog W = .ok (.slice A3 (n - (k + 1)) (c - (k + 1))) W) ∧ (k + 1 < n → A3 = some ⟨g, (k + 1) * 10, none⟩) := by
  have ht : ((k : Int) + 1).toNat = k + 1 := by omega
  refine ⟨if c = k + 1 then some ⟨g, 0, none⟩ else (some (⟨g, 0, none⟩ : Addr)).map (·.add ((k + 1) * 10)), fun W => ?_, fun h => ?_⟩
  · have he : Tryz.prog.elem 66 = 78 := by unfold Program.elem; rw [Tryz.underlying66]
    have hu : Tryz.prog.underlying 66 = some (.slice (Tryz.prog.elem 66)) := by rw [he]; exact Tryz.underlying66
    have hs : (sizeOf 78).run Tryz.prog W = .ok 10 W := Tryz.sizeOf78 W
    rw [run_slice_l W 66 _ n c hu .i64 ((k : Int) + 1) (by omega) (by omega), ht, he, hs]
    rfl
  · rw [if_neg (by omega)]
    show some (Addr.add _ _) = _
    simp [Addr.add]
theorem OwnR.parts {l : List En} (h : OwnR w B (.slice A l.length c) l) {i : Nat} (hi : i < l.length) : ∃ g, A = some ⟨g, 0, none⟩ ∧ g < w.heap.size ∧ l.length ≤ c ∧ c ≤ maxLen ∧ Reads w w.heap.size 10 (some ⟨g, 0, none⟩) i ((l.take i).flatMap En.rcells) ∧ ∀ A3, (i + 1 < l.length → A3 = some ⟨g, (i + 1) * 10, none⟩) → Reads w w.heap.size 10 A3 (l.length - (i + 1)) ((l.drop (i + 1)).flatMap En.rcells) := by
  obtain ⟨g, c2, e, _, hc, hm, hg, hcell, _⟩ := own_at h (by omega)
  injection e with e _ e3
  subst e3
  have hL : ∀ m : List En, (m.flatMap En.rcells).length = m.length * 10 := fun m => by
    induction m with
    | nil => rfl
    | cons x m ih => rw [List.flatMap_cons, List.length_append, ih, En.rlen, List.length_cons]; omega
  have hsp : l.flatMap En.rcells = (l.take (i + 1)).flatMap En.rcells ++ (l.drop (i + 1)).flatMap En.rcells := by rw [← List.flatMap_append, List.take_append_drop]
  have hsq : l.flatMap En.rcells = (l.take i).flatMap En.rcells ++ (l.drop i).flatMap En.rcells := by rw [← List.flatMap_append, List.take_append_drop]
  refine ⟨g, e, hg, hc, hm, ⟨by rw [hL, List.length_take]; omega, fun _ => ⟨g, 0, rfl, hg, fun j u hj => ?_⟩⟩, fun A3 ho => ⟨by rw [hL, List.length_drop], fun hn => ⟨g, (i + 1) * 10, ho (by omega), hg, fun j u hj => ?_⟩⟩⟩
  · rw [Nat.zero_add]
    refine hcell _ _ ?_
    rw [hsq, List.getElem?_append_left (List.getElem?_eq_some_iff.1 hj).1]
    exact hj
  · refine hcell _ _ ?_
    rw [hsp, List.getElem?_append_right (by rw [hL, List.length_take]; omega), hL, List.length_take]
    rw [show (i + 1) * 10 + j - min (i + 1) l.length * 10 = j by omega]
    exact hj
def RmPost (w : World) (q : Nat) (A' : Option Addr) (c' : Nat) (s : QS) (l : List En) (e : Ending) (w' : World) : Prop := ∃ A2 c2, e = .returned (.tuple #[]) ∧ Blk w' q 68 (rqC { s with l := l } A2 c2 A' c') ∧ OwnR w' w.heap.size (.slice A2 l.length c2) l ∧ Chg (fun k => k = q) w w'
set_option maxHeartbeats 8000000 in
set_option maxRecDepth 20000 in
theorem rremove_any (hQ : RQ w B q A c A' c' s) (hl : s.l.length ≤ 300) {k : Nat} (hk : k < s.l.length) : Calls Tryz.prog 62 #[.pointer (some ⟨q, 0, none⟩), .int .i64 k] w (RmPost w q A' c' s (s.l.take k ++ s.l.drop (k + 1))) := by
  obtain ⟨i0, ih, iz0, iz1, iz2⟩ := info_partsO info_itemR
  have hb0 : Below w.heap.size w (w.alloc (.cells #[] 78)) := (Below.refl w.heap.size w).alloc (Nat.le_refl _) _
  have hq0 := hQ.below hb0
  have q2 : (w.alloc (.cells #[] 78)).cell? ⟨q, 2, none⟩ = some (.slice A s.l.length c) := hq0.blk.cell 2
  obtain ⟨g, rfl, hg, hc, hm, hr1, hr2⟩ := hQ.row.parts hk
  obtain ⟨A3, hs3, hA3⟩ := slice_from g s.l.length c k hk hc
  have HR1 := Lib.hid (hr1.below hb0)
  have HR2 := Lib.hid (hr2 A3 hA3)
  have HS3 := Lib.hid hs3
  have HQ := Lib.hid hQ
  have HB0 := Lib.hid hb0
  have HQW := Lib.hid hQ.blk.lt
  have HK := Lib.hid hk
  have hkc : (k : Int) ≤ c := by omega
  have hk0 : (0 : Int) ≤ k := by omega
  have HA1 := Lib.hid (show 0 + k ≤ maxLen by simp only [maxLen]; omega)
  have HA2 := Lib.hid (show (0 + k) * 136 ≤ 140737488355328 by omega)
  have HA3 := Lib.hid (show w.heap.size ≤ (w.alloc (.cells #[] 78)).heap.size by simp)
  have HA4 := Lib.hid (show k + (s.l.length - (k + 1)) ≤ maxLen by simp only [maxLen]; omega)
  have HA5 := Lib.hid (show (k + (s.l.length - (k + 1))) * 136 ≤ 140737488355328 by omega)
  have HLN := Lib.hid (show k + (s.l.length - (k + 1)) = (s.l.take k ++ s.l.drop (k + 1)).length by rw [List.length_append, List.length_take, List.length_drop]; omega)
  have HOW := Lib.hid (show (w.alloc (.cells #[] 78)).ownsRow w.heap.size 78 10 (.slice (some ⟨w.heap.size, 0, none⟩) 0 0) 0 [] from by
    have h := World.ownsRow_lit (base := w.heap.size) (size := 10) (e := 78) w #[] 0 (Nat.le_refl _) (by decide) rfl
    simpa using h)
  have HKW := Lib.hid (w64 (x := (k : Int) + 1) (by omega) (by omega))
  clear hr1 hr2 hq0 hQ hb0 hs3 hA3 hl hk hc hm
  go_enter Tryz.func62, Tryz.ntmps62
  go_upto_region 1 with (at_builtin; refine wpList_append_any _ rfl (.tmp 5) (.tmp 11) 66 rfl w.heap.size 78 i0 _ 10 136 Tryz.underlying66 ih iz0 iz1 iz2 rfl (by decide) (.slice (some ⟨w.heap.size, 0, none⟩) 0 0) 0 [] rfl HOW.out w.heap.size (some ⟨g, 0, none⟩) k c ((s.l.take k).flatMap En.rcells) rfl HR1.out (flat_one En.rone _) HA1.out HA2.out HA3.out ?_; intro v' w1 hown hgr hblk; have HG := Lib.hid (And.intro hown hgr); clear hown hgr hblk)
  have hch : Chg (fun k => (Value.slice (some (⟨w.heap.size, 0, none⟩ : Addr)) 0 0).ownBlock = some k) (w.alloc (.cells #[] 78)) w1 := (Chg.refl _ _).grown HG.out.2 (fun _ hk _ => hk)
  have hb1 : Below w.heap.size w w1 := HB0.out.trans (hch.toBelow (B := w.heap.size) (fun k hk => by have := Option.some.inj hk; simp at this; omega) (HB0.out.size))
  have q21 : w1.cell? ⟨q, 2, none⟩ = some (.slice (some ⟨g, 0, none⟩) s.l.length c) := (HQ.out.below hb1).blk.cell 2
  have hown1 := HG.out.1
  simp only [Nat.zero_add, List.nil_append] at hown1
  have HO1 := Lib.hid hown1
  have HB1 := Lib.hid hb1
  have HQ1 := Lib.hid (HQ.out.below hb1)
  have HR3 := Lib.hid ((HR2.out.below hb1).more hb1.size)
  have HZ1 := Lib.hid hb1.size
  clear hch hown1 hb1 HG q2 hkc hk0
  obtain ⟨wk1, wk2⟩ := HKW.out
  have hs3 := HS3.out
  go_wp2_with (at_builtin; refine wpList_append_any _ rfl (.tmp 14) (.tmp 21) 66 rfl w.heap.size 78 i0 _ 10 136 Tryz.underlying66 ih iz0 iz1 iz2 rfl (by decide) v' k ((s.l.take k).flatMap En.rcells) rfl HO1.out w1.heap.size A3 (s.l.length - (k + 1)) (c - (k + 1)) ((s.l.drop (k + 1)).flatMap En.rcells) rfl HR3.out (flat_one En.rone _) HA4.out HA5.out HZ1.out ?_; intro v2 w2 hown hgr hblk; obtain ⟨A5, c5, hv2⟩ := own_slice hown; subst hv2; have HG2 := Lib.hid (And.intro hown hgr); have hch : Chg (fun k => v'.ownBlock = some k) w1 w2 := (Chg.refl _ _).grown HG2.out.2 (fun _ hk _ => hk); have HB2 := Lib.hid (HB1.out.trans (hch.toBelow (B := w.heap.size) (fun k hk => own_ge HO1.out k hk) HZ1.out)); have hq2 := HQ.out.below HB2.out; have q22 : w2.cell? ⟨q, 2, none⟩ = some (.slice (some ⟨g, 0, none⟩) s.l.length c) := hq2.blk.cell 2; have f22 : w2.frozen? ⟨q, 2, none⟩ = false := hq2.blk.frozen 2; have HQ2 := Lib.hid hq2; clear hown hgr hblk hch hq2)

  go_end0
  have hO2 := HG2.out.1
  rw [HLN.out, ← List.flatMap_append] at hO2
  rw [HLN.out]
  have hc2 : Chg (fun k => k = q) w2 (w2.setCell ⟨q, 2, none⟩ (.slice A5 (s.l.take k ++ s.l.drop (k + 1)).length c5)) := (Chg.refl (fun k => k = q) w2).setCell (p := ⟨q, 2, none⟩) (fun _ => rfl) _
  refine ⟨A5, c5, rfl, ?_, hc2.own hO2 (fun j hj e => ?_), (Chg.of_below HB2.out).trans hc2 (fun _ _ h => h)⟩
  · exact HQ2.out.blk.set_ 2 _
  · have h1 := own_ge hO2 j hj
    have h2 := HQW.out
    omega
end
end Go.Proofs.YtbofclohnmojmaaGreatDoor
