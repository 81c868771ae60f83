/- The reference's pool: an instance goes, is stored anew; Crash. -/
import Derived.Test.YtmpaogmfceldjaaDoorKWC
namespace Go.Proofs.YtmpaogmfceldjaaDoor
open Go.RowKit
open Go.Sort (grow)

section
variable {w : World} {B sz n c : Nat} {A : Option Addr} {xs : List Value}
theorem reads_to (h : Reads w B sz A n xs) {k : Nat} (hk : k ≤ n) : Reads w B sz A k (xs.take (k * sz)) := by
  refine ⟨by rw [List.length_take, h.1]; exact Nat.min_eq_left (Nat.mul_le_mul_right sz hk), fun h0 => ?_⟩
  obtain ⟨b, o, rfl, hb, hc⟩ := h.2 (by omega)
  refine ⟨b, o, rfl, hb, fun j u hu => hc j u ?_⟩
  rw [List.getElem?_take] at hu
  split at hu
  · exact hu
  · cases hu
theorem reads_from (h : Reads w B sz A n xs) {k : Nat} (hk : k ≤ n) (hc : n ≤ c) : Reads w B sz (if c = k then A else A.map fun x => x.add (k * sz)) (n - k) (xs.drop (k * sz)) := by
  refine ⟨by rw [List.length_drop, h.1, Nat.mul_sub_right_distrib], fun h0 => ?_⟩
  obtain ⟨b, o, rfl, hb, hcc⟩ := h.2 (by omega)
  rw [if_neg (by omega)]
  refine ⟨b, o + k * sz, by simp [Addr.add], hb, fun j u hu => ?_⟩
  rw [List.getElem?_drop] at hu
  have := hcc _ u hu
  rwa [← Nat.add_assoc] at this
end
def RPoolTo (w : World) (B p : Nat) (A : Option Addr) (s : PS) (w' : World) : Prop := ∃ A' c', RPoolAt w' B p A' c' s ∧ Chg (rpf p A) w w' ∧ ∀ k, rpf p A' k → rpf p A k ∨ w.heap.size ≤ k
section
variable {w w0 w1 w' : World} {B p c : Nat} {A : Option Addr} {s t : PS}
theorem RPoolTo.stay (h : RPoolAt w B p A c s) (hb : Below w.heap.size w w') : RPoolTo w B p A s w' := ⟨A, c, h.below hb, Chg.of_below hb, fun _ hk => .inl hk⟩
theorem RPoolTo.same (h : RPoolAt w' B p A c s) (hc : Chg (rpf p A) w w') : RPoolTo w B p A s w' := ⟨A, c, h, hc, fun _ hk => .inl hk⟩
theorem RPoolTo.below (h : RPoolTo w B p A s w1) (hb : Below w1.heap.size w1 w') : RPoolTo w B p A s w' := by
  obtain ⟨A', c', h1, h2, h3⟩ := h
  exact ⟨A', c', h1.below hb, h2.below hb, h3⟩
theorem RPoolTo.before (hc : Chg (rpf p A) w0 w1) (h : RPoolTo w1 B p A s w') : RPoolTo w0 B p A s w' := by
  obtain ⟨A', c', h1, h2, h3⟩ := h
  exact ⟨A', c', h1, hc.trans h2 (fun _ _ h => h), fun k hk => by
    rcases h3 k hk with h | h
    · exact .inl h
    · exact .inr (Nat.le_trans hc.size h)⟩
theorem RPoolAt.time (h : RPoolAt w B p A c s) (n : Int) : RPoolAt (w.setCell ⟨p, 6, none⟩ (.int .i64 n)) B p A c (at_ s n) ∧ Chg (rpf p A) w (w.setCell ⟨p, 6, none⟩ (.int .i64 n)) := by
  have h1 := h.row_ne
  have hc : Chg (fun k => k = p) w (w.setCell ⟨p, 6, none⟩ (.int .i64 n)) := (Chg.refl (fun k => k = p) w).setCell (p := ⟨p, 6, none⟩) (fun _ => rfl) _
  exact ⟨⟨h.blk.set_ 6 _, hc.own h.row (fun k hk e => by subst e; rw [own_eq] at hk; exact h1 hk), h.hp⟩, hc.mono fun k hk => .inl hk⟩
theorem RPoolAt.slot (h : RPoolAt w B p A c s) (hn : 0 < s.l.length) : ∃ g, A = some ⟨g, 0, none⟩ ∧ g < w.heap.size ∧ g ≠ p ∧ s.l.length ≤ c := by
  obtain ⟨g, cap, e, _, hg⟩ := own_form h.row hn
  have h1 := h.row_ne
  injection e with e _ _
  subst e
  refine ⟨g, rfl, hg, fun e => h1 (by rw [e]; rfl), ?_⟩
  rcases h.row.2 with ⟨h', _⟩ | ⟨g', cap', cur, h', _, _, hnc, _⟩
  · simp at h'
  · simp only [Value.slice.injEq, Option.some.injEq, Addr.mk.injEq, and_true, true_and] at h'
    obtain ⟨rfl, rfl⟩ := h'
    exact hnc
end
theorem flat_set {f : Ins → List Value} (hf : ∀ x, (f x).length = 4) {u : Value} {j : Nat} (hj : j < 4) {g : Ins → Ins} (hg : ∀ x, f (g x) = (f x).set j u) : ∀ (l : List Ins) (k : Nat), k < l.length → (l.flatMap f).set (k * 4 + j) u = (l.modify k g).flatMap f
  | [], k, h => absurd h (by simp)
  | x :: r, 0, _ => by
    rw [List.flatMap_cons, Nat.zero_mul, Nat.zero_add, List.set_append_left _ _ (by rw [hf]; exact hj), List.modify_zero_cons, List.flatMap_cons, hg]
  | x :: r, k + 1, h => by
    rw [List.flatMap_cons, List.set_append_right _ _ (by rw [hf]; omega), hf, show (k + 1) * 4 + j - 4 = k * 4 + j by omega, List.modify_succ_cons, List.flatMap_cons, flat_set hf hj hg r k (by simp at h; omega)]
/-- A field of an instance is stored. -/
theorem RPoolAt.setel {w : World} {B p c g : Nat} {s : PS} (h : RPoolAt w B p (some ⟨g, 0, none⟩) c s) {k : Nat} (hk : k < s.l.length) {j : Nat} (hj : j < 4) {u : Value} {f : Ins → Ins} (hf : ∀ x, (f x).cells = x.cells.set j u) :
    RPoolAt (w.setCell ⟨g, k * 4 + j, none⟩ u) B p (some ⟨g, 0, none⟩) c (lst s (s.l.modify k f)) ∧ Chg (rpf p (some ⟨g, 0, none⟩)) w (w.setCell ⟨g, k * 4 + j, none⟩ u) := by
  have h1 := h.row_ne
  have hgp : g ≠ p := fun e => h1 (by rw [e]; rfl)
  have hr := (h.row.stored (k * 4 + j) u).1
  rw [flat_set Ins.cells_len hj hf s.l k hk] at hr
  refine ⟨⟨?_, ?_, h.hp⟩, (Chg.refl _ w).setCell (p := ⟨g, k * 4 + j, none⟩) (fun _ => .inr rfl) _⟩
  · have := h.blk.far (p := ⟨g, k * 4 + j, none⟩) (fun e => hgp e.symm) u
    unfold Blk at this ⊢
    rw [this]
    simp [rpoolC, lst]
  · show World.ownsRow _ B _ 4 (.slice (some ⟨g, 0, none⟩) (s.l.modify k f).length c) (s.l.modify k f).length ((s.l.modify k f).flatMap Ins.cells)
    rw [List.length_modify]
    exact hr
theorem flat_erase (l : List Ins) (k : Nat) : (l.flatMap Ins.cells).take (k * 4) ++ (l.flatMap Ins.cells).drop ((k + 1) * 4) = (l.eraseIdx k).flatMap Ins.cells := by
  have ht : ∀ (l : List Ins) (k : Nat), (l.flatMap Ins.cells).take (k * 4) = (l.take k).flatMap Ins.cells := by
    intro l
    induction l with
    | nil => intro k; simp
    | cons x r ih =>
      intro k
      cases k with
      | zero => simp
      | succ k =>
        rw [List.flatMap_cons, List.take_append, List.take_succ_cons, List.flatMap_cons, ← ih k]
        simp only [Ins.cells_len]
        rw [List.take_of_length_le (by rw [Ins.cells_len]; omega), show (k + 1) * 4 - 4 = k * 4 by omega]
  have hd : ∀ (l : List Ins) (k : Nat), (l.flatMap Ins.cells).drop (k * 4) = (l.drop k).flatMap Ins.cells := by
    intro l
    induction l with
    | nil => intro k; simp
    | cons x r ih =>
      intro k
      cases k with
      | zero => simp
      | succ k =>
        rw [List.flatMap_cons, List.drop_append, List.drop_succ_cons, ← ih k]
        simp only [Ins.cells_len]
        rw [List.drop_of_length_le (by rw [Ins.cells_len]; omega), show (k + 1) * 4 - 4 = k * 4 by omega, List.nil_append]
  rw [ht, hd, ← List.flatMap_append, List.eraseIdx_eq_take_drop_succ]
theorem rem_done {w w1 w2 : World} {B p c g k c1 c2 : Nat} {p1 p2 : Option Addr} {s : PS} (hP : RPoolAt w B p (some ⟨g, 0, none⟩) c s) (hk : k < s.l.length) (hf : (s.l.flatMap Ins.cells).take (k * 4) ++ (s.l.flatMap Ins.cells).drop ((k + 1) * 4) = (s.l.eraseIdx k).flatMap Ins.cells) (hl : (s.l.eraseIdx k).length = s.l.length - 1)
    (h1 : w1.ownsRow w.heap.size 56 4 (.slice p1 k c1) k ((s.l.flatMap Ins.cells).take (k * 4))) (g1 : (w.alloc (.cells #[] 56)).grownBy w1 (Value.slice (some ⟨w.heap.size, 0, none⟩) 0 0).ownBlock)
    (h2 : w2.ownsRow w.heap.size 56 4 (.slice p2 (k + (s.l.length - (k + 1))) c2) (k + (s.l.length - (k + 1))) ((s.l.flatMap Ins.cells).take (k * 4) ++ (s.l.flatMap Ins.cells).drop ((k + 1) * 4))) (g2 : w1.grownBy w2 (Value.slice p1 k c1).ownBlock) (hb : Blk w2 p 61 (rpoolC s (some ⟨g, 0, none⟩) c)) :
    RPoolTo w B p (some ⟨g, 0, none⟩) (lst s (s.l.eraseIdx k)) (w2.setCell ⟨p, 5, none⟩ (.slice p2 (k + (s.l.length - (k + 1))) c2)) := by
  have hpl := hP.blk.lt
  have hbB := hP.hp
  have e : k + (s.l.length - (k + 1)) = (s.l.eraseIdx k).length := by omega
  rw [hf, e] at h2
  rw [e]
  have hne : ∀ q, p2.map (·.block) = some q → w.heap.size ≤ q := fun q hq => (own_lt h2 (by rw [own_eq]; exact hq)).1
  refine ⟨p2, c2, ⟨hb.set_ 5 _, ?_, hbB⟩, ?_, fun q hq => ?_⟩
  · exact ((Chg.refl (fun i => i = p) w2).setCell (p := ⟨p, 5, none⟩) (fun _ => rfl) _).own (own_base h2 (by omega)) (fun q hq e => by rw [own_eq] at hq; have := hne q hq; omega)
  · exact ((((Chg.refl _ w).alloc _).grown g1 (fun q hq hlt => by simp [Value.ownBlock] at hq; omega)).grown g2 (fun q hq hlt => by have := (own_lt h1 hq).1; omega)).setCell (p := ⟨p, 5, none⟩) (fun _ => .inl rfl) _
  · rcases hq with rfl | hq
    · exact .inl (.inl rfl)
    · exact .inr (hne q hq)
theorem kept_new {w wn : World} {e : TypeId} (hgr : (w.alloc (.cells #[] e)).grownBy wn (Value.slice (some ⟨w.heap.size, 0, none⟩) 0 0).ownBlock) (q : Addr) (hq : q.block < w.heap.size) : wn.cell? q = w.cell? q :=
  (World.cell?_of_block (hgr.block q.block (by simp; omega) (fun e => by simp [Value.ownBlock] at e; omega))).trans (World.cell?_alloc_lt w _ q hq)
set_option maxHeartbeats 4000000 in
set_option maxRecDepth 20000 in
theorem remove_any {w : World} {B p c : Nat} {A : Option Addr} {s : PS} (hP : RPoolAt w B p A c s) (h32 : s.l.length ≤ 32) {k : Nat} (hk : k < s.l.length) :
    Calls Tryd.prog 43 #[.pointer (some ⟨p, 0, none⟩), .int .i64 k] w fun e w' => e = .returned (.tuple #[]) ∧ RPoolTo w B p A (lst s (s.l.eraseIdx k)) w' := by
  obtain ⟨i0, ih, iz0, iz1, iz2⟩ := info_parts info_ins
  obtain ⟨g, rfl, hg, hgp, hcap⟩ := hP.slot (by omega)
  have hn0 := Nat.le_refl w.heap.size
  have hpl := hP.blk.lt
  have q5 : w.cell? ⟨p, 5, none⟩ = some (.slice (some ⟨g, 0, none⟩) s.l.length c) := hP.blk.cell 5
  have hone : ∀ u ∈ s.l.flatMap Ins.cells, u.oneCell' = true := by
    intro u hu
    obtain ⟨x, _, hx⟩ := List.mem_flatMap.1 hu
    exact Ins.one x u hx
  have hr := Reads.of_own hP.row
  have HON1 := Lib.hid (show ∀ u ∈ (s.l.flatMap Ins.cells).take (k * 4), u.oneCell' = true from fun u hu => hone u (List.mem_of_mem_take hu))
  have HON2 := Lib.hid (show ∀ u ∈ (s.l.flatMap Ins.cells).drop ((k + 1) * 4), u.oneCell' = true from fun u hu => hone u (List.mem_of_mem_drop hu))
  have HR1 := Lib.hid (reads_to hr (k := k) (by omega))
  have HR2 := Lib.hid (reads_from hr (k := k + 1) (c := c) (by omega) hcap)
  have HFE := Lib.hid (flat_erase s.l k)
  have HEL := Lib.hid (List.length_eraseIdx_of_lt hk)
  have HP := Lib.hid hP
  have hkI : (k : Int) < s.l.length := by omega
  have hkc : k ≤ c := by omega
  have hbB := hP.hp
  clear hP hone hr
  by_cases hck : c = k + 1
  · have hRz : Reads w w.heap.size 4 (some ⟨g, 0, none⟩) (s.l.length - (k + 1)) ((s.l.flatMap Ins.cells).drop ((k + 1) * 4)) := by
      have := HR2.out
      rw [if_pos hck] at this
      exact this
    subst hck
    clear hcap
    have HRZ := Lib.hid hRz
    clear hRz
    go_enter Tryd.func43, Tryd.ntmps43
    go_wp2_with (first
      | (at_builtin; refine wpList_append_any _ rfl (.tmp 5) (.tmp 11) 45 rfl w.heap.size 56 i0 (.agg #[.string ⟨#[]⟩, .int .i64 0, .int .i64 0, .int .i64 0]) 4 40 Tryd.underlying45 ih iz0 iz1 iz2 rfl (by decide) (.slice (some ⟨w.heap.size, 0, none⟩) 0 0) 0 [] rfl ⟨rfl, .inr ⟨w.heap.size, 0, #[], rfl, Nat.le_refl _, heap_alloc_new _ _, by simp [maxLen]⟩⟩ w.heap.size (some ⟨g, 0, none⟩) k (k + 1) ((s.l.flatMap Ins.cells).take (k * 4)) rfl (HR1.out.keep fun q hq => World.cell?_alloc_lt w _ q hq) HON1.out (by simp only [maxLen]; omega) (by omega) (by simp) ?_; intro v1 w1 hown1 hgr1 hblk1; simp only [Nat.zero_add, List.nil_append] at hown1; obtain ⟨p1, c1, rfl⟩ := own_slice hown1; have HG1 := Lib.hid (And.intro hown1 hgr1); have hbk1 : Blk w1 p 61 (rpoolC s (some ⟨g, 0, none⟩) (k + 1)) := (hgr1.block p (by simp; omega) (fun e => by simp [Value.ownBlock] at e; omega)).trans ((HP.out.blk).alloc _); have q51 : w1.cell? ⟨p, 5, none⟩ = some (.slice (some ⟨g, 0, none⟩) s.l.length (k + 1)) := hbk1.cell 5; have HBK1 := Lib.hid hbk1; clear hown1 hgr1 hblk1 hbk1)
      | (at_builtin; go_loud (refine wpList_append_any _ rfl (.tmp 14) (.tmp 21) 45 rfl w.heap.size 56 i0 (.agg #[.string ⟨#[]⟩, .int .i64 0, .int .i64 0, .int .i64 0]) 4 40 Tryd.underlying45 ih iz0 iz1 iz2 rfl (by decide) (.slice p1 k c1) k ((s.l.flatMap Ins.cells).take (k * 4)) rfl HG1.out.1 w.heap.size (some ⟨g, 0, none⟩) (s.l.length - (k + 1)) 0 ((s.l.flatMap Ins.cells).drop ((k + 1) * 4)) rfl (HRZ.out.keep fun q hq => kept_new HG1.out.2 q hq) HON2.out (by simp only [maxLen]; omega) (by omega) (by have := HG1.out.2.size; simp at this; omega) ?_); intro v2 w2 hown2 hgr2 hblk2; obtain ⟨p2, c2, rfl⟩ := own_slice hown2; have HG2 := Lib.hid (And.intro hown2 hgr2); have hbk2 : Blk w2 p 61 (rpoolC s (some ⟨g, 0, none⟩) (k + 1)) := (hgr2.block p HBK1.out.lt (fun e => by have := (own_lt HG1.out.1 e.symm).1; omega)).trans HBK1.out; have q52 : w2.cell? ⟨p, 5, none⟩ = some (.slice (some ⟨g, 0, none⟩) s.l.length (k + 1)) := hbk2.cell 5; have f52 := hbk2.frozen 5; have HBK2 := Lib.hid hbk2; clear hown2 hgr2 hblk2 hbk2))
    go_end0
    exact ⟨rfl, rem_done HP.out (by omega) HFE.out HEL.out HG1.out.1 HG1.out.2 HG2.out.1 HG2.out.2 HBK2.out⟩
  · have hRz : Reads w w.heap.size 4 (some ⟨g, (k + 1) * 4, none⟩) (s.l.length - (k + 1)) ((s.l.flatMap Ins.cells).drop ((k + 1) * 4)) := by
      have := HR2.out
      rw [if_neg hck] at this
      simpa [Addr.add] using this
    have HRZ := Lib.hid hRz
    clear hRz
    go_enter Tryd.func43, Tryd.ntmps43
    go_wp2_with (first
      | (at_builtin; refine wpList_append_any _ rfl (.tmp 5) (.tmp 11) 45 rfl w.heap.size 56 i0 (.agg #[.string ⟨#[]⟩, .int .i64 0, .int .i64 0, .int .i64 0]) 4 40 Tryd.underlying45 ih iz0 iz1 iz2 rfl (by decide) (.slice (some ⟨w.heap.size, 0, none⟩) 0 0) 0 [] rfl ⟨rfl, .inr ⟨w.heap.size, 0, #[], rfl, Nat.le_refl _, heap_alloc_new _ _, by simp [maxLen]⟩⟩ w.heap.size (some ⟨g, 0, none⟩) k c ((s.l.flatMap Ins.cells).take (k * 4)) rfl (HR1.out.keep fun q hq => World.cell?_alloc_lt w _ q hq) HON1.out (by simp only [maxLen]; omega) (by omega) (by simp) ?_; intro v1 w1 hown1 hgr1 hblk1; simp only [Nat.zero_add, List.nil_append] at hown1; obtain ⟨p1, c1, rfl⟩ := own_slice hown1; have HG1 := Lib.hid (And.intro hown1 hgr1); have hbk1 : Blk w1 p 61 (rpoolC s (some ⟨g, 0, none⟩) c) := (hgr1.block p (by simp; omega) (fun e => by simp [Value.ownBlock] at e; omega)).trans ((HP.out.blk).alloc _); have q51 : w1.cell? ⟨p, 5, none⟩ = some (.slice (some ⟨g, 0, none⟩) s.l.length c) := hbk1.cell 5; have HBK1 := Lib.hid hbk1; clear hown1 hgr1 hblk1 hbk1)
      | (at_builtin; go_loud (refine wpList_append_any _ rfl (.tmp 14) (.tmp 21) 45 rfl w.heap.size 56 i0 (.agg #[.string ⟨#[]⟩, .int .i64 0, .int .i64 0, .int .i64 0]) 4 40 Tryd.underlying45 ih iz0 iz1 iz2 rfl (by decide) (.slice p1 k c1) k ((s.l.flatMap Ins.cells).take (k * 4)) rfl HG1.out.1 w.heap.size (some ⟨g, (k + 1) * 4, none⟩) (s.l.length - (k + 1)) (c - (k + 1)) ((s.l.flatMap Ins.cells).drop ((k + 1) * 4)) rfl (HRZ.out.keep fun q hq => kept_new HG1.out.2 q hq) HON2.out (by simp only [maxLen]; omega) (by omega) (by have := HG1.out.2.size; simp at this; omega) ?_); intro v2 w2 hown2 hgr2 hblk2; obtain ⟨p2, c2, rfl⟩ := own_slice hown2; have HG2 := Lib.hid (And.intro hown2 hgr2); have hbk2 : Blk w2 p 61 (rpoolC s (some ⟨g, 0, none⟩) c) := (hgr2.block p HBK1.out.lt (fun e => by have := (own_lt HG1.out.1 e.symm).1; omega)).trans HBK1.out; have q52 : w2.cell? ⟨p, 5, none⟩ = some (.slice (some ⟨g, 0, none⟩) s.l.length c) := hbk2.cell 5; have f52 := hbk2.frozen 5; have HBK2 := Lib.hid hbk2; clear hown2 hgr2 hblk2 hbk2))
    go_end0
    exact ⟨rfl, rem_done HP.out (by omega) HFE.out HEL.out HG1.out.1 HG1.out.2 HG2.out.1 HG2.out.2 HBK2.out⟩
end Go.Proofs.YtmpaogmfceldjaaDoor
