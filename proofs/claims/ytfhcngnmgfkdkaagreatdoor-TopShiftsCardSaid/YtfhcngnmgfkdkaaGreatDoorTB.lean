/- Aliases: Check, Begin, Abort, Promote, Pick. -/
import Derived.Test.YtfhcngnmgfkdkaaGreatDoorTA
namespace Go.Proofs.YtfhcngnmgfkdkaaGreatDoor
open Go.RowKit
open Go.Sort (grow)

/-- An alias named live. -/
structure Al where
  st : Int
  ca : Int
  we : Int
def Al.cs (a : Al) : Array Value := #[.string ⟨#[108, 105, 118, 101]⟩, .int .i64 a.st, .int .i64 a.ca, .int .i64 a.we]
def Al.ok (a : Al) : Prop := 1 ≤ a.st ∧ a.st ≤ 32 ∧ 0 ≤ a.ca ∧ a.ca ≤ 32 ∧ 0 ≤ a.we ∧ a.we ≤ 1000 ∧ (a.ca = 0 → a.we = 0) ∧ a.ca ≠ a.st
def inA (n low high : Int) : Bool := decide (low ≤ n) && decide (n ≤ high)
theorem in_any (n low high : Int) (w : World) : Calls Tryz.prog 26 #[.int .i64 n, .int .i64 low, .int .i64 high] w fun e w' => e = .returned (.bool (inA n low high)) ∧ w' = w := by
  by_cases h1 : low ≤ n
  · have d1 : decide (low ≤ n) = true := decide_eq_true h1
    have HE := Lib.hid (show decide (n ≤ high) = inA n low high by unfold inA; rw [d1, Bool.true_and])
    go_enter Tryz.func26, Tryz.ntmps26
    go_wp2_with fail
    go_ret
    exact ⟨ret_bool HE.out, rfl⟩
  · have d1 : decide (low ≤ n) = false := decide_eq_false h1
    have HE := Lib.hid (show false = inA n low high by unfold inA; rw [d1, Bool.false_and])
    go_enter Tryz.func26, Tryz.ntmps26
    go_wp2_with fail
    go_ret
    exact ⟨ret_bool HE.out, rfl⟩
theorem inA_yes {n low high : Int} (h1 : low ≤ n) (h2 : n ≤ high) : inA n low high = true := by unfold inA; rw [decide_eq_true h1, decide_eq_true h2]; rfl
set_option maxHeartbeats 1000000 in
set_option maxRecDepth 100000 in
/-- A name of small letters. -/
theorem Name_any (s : ByteArray) (w : World) (h1 : 1 ≤ s.size) (h2 : s.size ≤ 24) (hall : ∀ k, (h : k < s.size) → 97 ≤ s[k].toNat ∧ s[k].toNat ≤ 122) : Calls Tryz.prog 44 #[.string s] w fun e w' => e = .returned (.bool true) ∧ Below w.heap.size w w' := by
  have HA := Lib.hid hall
  have H1 := Lib.hid h1
  have H2 := Lib.hid h2
  clear hall h1 h2
  go_enter Tryz.func44, Tryz.ntmps44
  go_wp2_with fail
  go_loopw [2] (fun _ w' => ∃ pos : Nat, w' = w.iter s pos ∧ pos ≤ s.size) (fun _ w' => s.size - w'.iterPos w.heap.size)
  case atStart => exact ⟨0, rfl, Nat.zero_le _⟩
  case round =>
    obtain ⟨pos, rfl, hp1⟩ := hrel
    by_cases hp : pos < s.size
    · have hnx : ∀ ty, (Instr.next (.pointer (some ⟨w.heap.size, 0, none⟩)) true ty).run Tryz.prog (w.iter s pos) = _ := fun ty => run_next_any w s pos ty hp
      obtain ⟨ha1, ha2⟩ := HA.out pos hp
      have hda := decode_ascii s pos hp (by omega)
      rw [hda] at hnx
      have d1 : decide ((97 : Int) ≤ (s[pos].toNat : Int)) = true := decide_eq_true (by omega)
      have d2 : decide ((s[pos].toNat : Int) ≤ 122) = true := decide_eq_true (by omega)
      have d3 : decide (97 ≤ s[pos].toNat) = true := decide_eq_true (by omega)
      have d4 : decide (s[pos].toNat ≤ 122) = true := decide_eq_true (by omega)
      clear hda
      generalize s[pos].toNat = c at *
      go_wp2
      all_goals try (exfalso; omega)
      go_roundw
      case rel => exact ⟨pos + 1, rfl, by omega⟩
      case measure => simp; omega
    · have hnx : ∀ ty, (Instr.next (.pointer (some ⟨w.heap.size, 0, none⟩)) true ty).run Tryz.prog (w.iter s pos) = _ := fun ty => run_next_end w s pos ty hp
      obtain rfl : pos = s.size := by omega
      have HB := Lib.hid (below_iter w s s.size)
      have h3 := H1.out
      have h4 := H2.out
      have h5 : decide ((s.size : Int) ≤ 24) = true := decide_eq_true (by omega)
      have h6 : decide (s.size ≤ 24) = true := decide_eq_true (by omega)
      have h7 : decide ((1 : Int) ≤ s.size) = true := decide_eq_true (by omega)
      go_wp2_with fail
      all_goals try (exfalso; omega)
      go_ret
      exact ⟨rfl, HB.out⟩
theorem live_all : ∀ k, (h : k < (⟨#[108, 105, 118, 101]⟩ : ByteArray).size) → 97 ≤ (⟨#[108, 105, 118, 101]⟩ : ByteArray)[k].toNat ∧ (⟨#[108, 105, 118, 101]⟩ : ByteArray)[k].toNat ≤ 122 := by decide
theorem aCheck_any (a : Al) (ha : a.ok) (w : World) : Calls Tryz.prog 16 #[.agg #[.string ⟨#[108, 105, 118, 101]⟩, .int .i64 a.st, .int .i64 a.ca, .int .i64 a.we]] w fun e w' => e = .returned (.int .i64 0) ∧ Below w.heap.size w w' := by
  have hb := al_new w (.cells #[.string ⟨#[108, 105, 118, 101]⟩, .int .i64 a.st, .int .i64 a.ca, .int .i64 a.we] 30)
  have HB := Lib.hid hb
  have bx := Blk.new w 30 #[.string ⟨#[108, 105, 118, 101]⟩, .int .i64 a.st, .int .i64 a.ca, .int .i64 a.we]
  have HN := Lib.hid (Name_any ⟨#[108, 105, 118, 101]⟩ (w.alloc (.cells #[.string ⟨#[108, 105, 118, 101]⟩, .int .i64 a.st, .int .i64 a.ca, .int .i64 a.we] 30)) (by decide) (by decide) live_all)
  obtain ⟨h1, h2, h3, h4, h5, h6, h7, h8⟩ := ha
  have H := Lib.hid (And.intro (inA_yes h1 h2) (And.intro (inA_yes h3 h4) (inA_yes h5 h6)))
  have H78 := Lib.hid (And.intro h7 h8)
  clear hb h1 h2 h3 h4 h5 h6 h7 h8
  go_enter Tryz.func16, Tryz.ntmps16
  go_wp2_with fail
  refine HN.out.mono ?_
  rintro e w1 ⟨rfl, hb1⟩
  have b1 := bx.on hb1
  have HB1 := Lib.hid (HB.out.trans (hb1.mono HB.out.size))
  clear hb1 bx
  have c1 : w1.cell? ⟨w.heap.size, 1, none⟩ = some (.int .i64 a.st) := b1.cell 1
  have c2 : w1.cell? ⟨w.heap.size, 2, none⟩ = some (.int .i64 a.ca) := b1.cell 2
  have c3 : w1.cell? ⟨w.heap.size, 3, none⟩ = some (.int .i64 a.we) := b1.cell 3
  go_wp2_with fail
  refine (in_any _ _ _ _).mono ?_
  rintro e wq ⟨rfl, hq⟩
  obtain rfl := hq.symm
  rw [H.out.1]
  go_wp2_with fail
  refine (in_any _ _ _ _).mono ?_
  rintro e wq ⟨rfl, hq⟩
  obtain rfl := hq.symm
  rw [H.out.2.1]
  go_wp2_with fail
  refine (in_any _ _ _ _).mono ?_
  rintro e wq ⟨rfl, hq⟩
  obtain rfl := hq.symm
  rw [H.out.2.2]
  obtain ⟨h7, h8⟩ := H78.out
  have e8 : (a.ca == a.st) = false := beq_eq_false_iff_ne.2 h8
  by_cases h0 : a.ca = 0
  · have e0 : (a.ca == 0) = true := beq_iff_eq.2 h0
    have e7 : (a.we != 0) = false := by rw [h7 h0]; rfl
    clear h7 h8 h0
    go_wp2_with fail
    go_ret
    exact ⟨rfl, HB1.out⟩
  · have e0 : (a.ca == 0) = false := beq_eq_false_iff_ne.2 h0
    clear h7 h8 h0
    go_wp2_with fail
    go_ret
    exact ⟨rfl, HB1.out⟩
/-- What an alias's change leaves. -/
def ClPost (g : Nat) (a' : Al) (W : World) (e : Ending) (w' : World) : Prop := e = .returned (.int .i64 0) ∧ Blk w' g 30 a'.cs ∧ Chg (fun k => k = g) W w'
theorem canary_any (g : Nat) (a : Al) (hc : a.ca ≠ 0) (W : World) (hb : Blk W g 30 a.cs) : Calls Tryz.prog 78 #[.pointer (some ⟨g, 0, none⟩)] W fun e w' => e = .returned (.int .i64 0) ∧ w' = W := by
  have c2 : W.cell? ⟨g, 2, none⟩ = some (.int .i64 a.ca) := hb.cell 2
  have e0 : (a.ca == 0) = false := beq_eq_false_iff_ne.2 hc
  clear hb hc
  go_enter Tryz.func78, Tryz.ntmps78
  go_wp2_with fail
  go_ret
  exact ⟨rfl, rfl⟩
theorem stable_any (g : Nat) (a : Al) (v : Int) (W : World) (hb : Blk W g 30 a.cs) : Calls Tryz.prog 79 #[.pointer (some ⟨g, 0, none⟩), .int .i64 v] W fun e w' => e = .returned (.tuple #[]) ∧ Blk w' g 30 (Al.mk v 0 0).cs ∧ Chg (fun k => k = g) W w' := by
  have HB := Lib.hid hb
  have c0 : W.cell? ⟨g, 0, none⟩ = some (.string ⟨#[108, 105, 118, 101]⟩) := hb.cell 0
  have f0 : W.frozen? ⟨g, 0, none⟩ = false := hb.frozen 0
  have c1 : W.cell? ⟨g, 1, none⟩ = some (.int .i64 a.st) := hb.cell 1
  have f1 : W.frozen? ⟨g, 1, none⟩ = false := hb.frozen 1
  have c2 : W.cell? ⟨g, 2, none⟩ = some (.int .i64 a.ca) := hb.cell 2
  have f2 : W.frozen? ⟨g, 2, none⟩ = false := hb.frozen 2
  have c3 : W.cell? ⟨g, 3, none⟩ = some (.int .i64 a.we) := hb.cell 3
  have f3 : W.frozen? ⟨g, 3, none⟩ = false := hb.frozen 3
  clear hb
  go_enter Tryz.func79, Tryz.ntmps79
  go_wp2_with fail
  go_end0
  refine ⟨rfl, ?_, ?_⟩
  · exact ((HB.out.set_ 1 (.int .i64 v)).set_ 2 (.int .i64 0)).set_ 3 (.int .i64 0)
  · exact (((Chg.refl (fun k => k = g) W).setCell (p := ⟨g, 1, none⟩) (fun _ => rfl) _).setCell (p := ⟨g, 2, none⟩) (fun _ => rfl) _).setCell (p := ⟨g, 3, none⟩) (fun _ => rfl) _
theorem Abort1_any (g : Nat) (a : Al) (hc : a.ca ≠ 0) (W : World) (hb : Blk W g 30 a.cs) : Calls Tryz.prog 77 #[.pointer (some ⟨g, 0, none⟩)] W (ClPost g ⟨a.st, 0, 0⟩ W) := by
  have HC := Lib.hid (canary_any g a hc W hb)
  have HS := Lib.hid (stable_any g a a.st W hb)
  have c1 : W.cell? ⟨g, 1, none⟩ = some (.int .i64 a.st) := hb.cell 1
  clear hb hc
  go_enter Tryz.func77, Tryz.ntmps77
  go_wp2_with fail
  refine HC.out.mono ?_
  rintro e wq ⟨rfl, hq⟩
  obtain rfl := hq.symm
  go_wp2_with fail
  refine HS.out.mono ?_
  rintro e w1 ⟨rfl, hb, hc⟩
  have HE := Lib.hid (And.intro hb hc)
  clear hb hc
  go_wp2_with fail
  go_ret
  exact ⟨rfl, HE.out.1, HE.out.2⟩
theorem Promote1_any (g : Nat) (a : Al) (hc : a.ca ≠ 0) (W : World) (hb : Blk W g 30 a.cs) : Calls Tryz.prog 80 #[.pointer (some ⟨g, 0, none⟩)] W (ClPost g ⟨a.ca, 0, 0⟩ W) := by
  have HC := Lib.hid (canary_any g a hc W hb)
  have HS := Lib.hid (stable_any g a a.ca W hb)
  have c1 : W.cell? ⟨g, 2, none⟩ = some (.int .i64 a.ca) := hb.cell 2
  clear hb hc
  go_enter Tryz.func80, Tryz.ntmps80
  go_wp2_with fail
  refine HC.out.mono ?_
  rintro e wq ⟨rfl, hq⟩
  obtain rfl := hq.symm
  go_wp2_with fail
  refine HS.out.mono ?_
  rintro e w1 ⟨rfl, hb, hc⟩
  have HE := Lib.hid (And.intro hb hc)
  clear hb hc
  go_wp2_with fail
  go_ret
  exact ⟨rfl, HE.out.1, HE.out.2⟩
theorem Begin1_any (g gv : Nat) (v : Int) (a : Al) (hv : 1 ≤ v ∧ v ≤ 32) (h0 : a.ca = 0) (hs : v ≠ a.st) (W : World) (hb : Blk W g 30 a.cs) (hg : Blk W gv 3 #[.int .i64 v]) : Calls Tryz.prog 25 #[.pointer (some ⟨g, 0, none⟩), .pointer (some ⟨gv, 0, none⟩)] W (ClPost g ⟨a.st, v, 0⟩ W) := by
  have HB := Lib.hid hb
  have hne : gv ≠ g := hg.ne_ hb (by decide)
  have hI := inA_yes hv.1 hv.2
  have v0 : W.cell? ⟨gv, 0, none⟩ = some (.int .i64 v) := hg.cell 0
  have c0 : W.cell? ⟨g, 0, none⟩ = some (.string ⟨#[108, 105, 118, 101]⟩) := hb.cell 0
  have f0 : W.frozen? ⟨g, 0, none⟩ = false := hb.frozen 0
  have c1 : W.cell? ⟨g, 1, none⟩ = some (.int .i64 a.st) := hb.cell 1
  have f1 : W.frozen? ⟨g, 1, none⟩ = false := hb.frozen 1
  have c2 : W.cell? ⟨g, 2, none⟩ = some (.int .i64 0) := by have h : W.cell? ⟨g, 2, none⟩ = some (.int .i64 a.ca) := hb.cell 2; rw [h0] at h; exact h
  have f2 : W.frozen? ⟨g, 2, none⟩ = false := hb.frozen 2
  have c3 : W.cell? ⟨g, 3, none⟩ = some (.int .i64 a.we) := hb.cell 3
  have f3 : W.frozen? ⟨g, 3, none⟩ = false := hb.frozen 3
  have e1 : (v == a.st) = false := beq_eq_false_iff_ne.2 hs
  clear hb hg h0 hs hv
  go_enter Tryz.func25, Tryz.ntmps25
  go_wp2_with fail
  refine (in_any _ _ _ _).mono ?_
  rintro e wq ⟨rfl, hq⟩
  obtain rfl := hq.symm
  rw [hI]
  clear hI
  go_wp2_with fail
  go_quiet (fail)
  have hbq := below_drewN' W.heap.size W nq
  have HBN := Lib.hid (HB.out.on hbq)
  have HCN := Lib.hid (Chg.of_below (S := fun k => k = g) hbq)
  have hb := HBN.out
  have k2 : (W.drewN nq).cell? ⟨g, 2, none⟩ = some (.int .i64 0) := c2
  have v1 : (W.drewN nq).cell? ⟨gv, 0, none⟩ = some (.int .i64 v) := v0
  have k3 : (W.drewN nq).cell? ⟨g, 3, none⟩ = some (.int .i64 a.we) := hb.cell 3
  have m2 : (W.drewN nq).frozen? ⟨g, 2, none⟩ = false := hb.frozen 2
  have m3 : (W.drewN nq).frozen? ⟨g, 3, none⟩ = false := hb.frozen 3
  clear hbq c0 c1 c2 c3 f0 f1 f2 f3 v0 e1 hb
  generalize W.drewN nq = W1 at *
  go_wp2_with fail
  go_ret
  refine ⟨rfl, ?_, ?_⟩
  · exact (HBN.out.set_ 2 (.int .i64 v)).set_ 3 (.int .i64 0)
  · exact (HCN.out.setCell (p := ⟨g, 2, none⟩) (fun _ => rfl) _).setCell (p := ⟨g, 3, none⟩) (fun _ => rfl) _
/-- A function value, by its number. -/
theorem enters_of' {K : Nat} (h : ∀ args w, Sem.run Tryz.prog (callFunc K args) w = .ok (.enter K args) w) (args : Array Value) (w : World) : Sem.run Tryz.prog (callFunc K args) w = .ok (.enter K args) w := h args w
theorem enters_a (args : Array Value) (w : World) : Sem.run Tryz.prog (callFunc 77 args) w = .ok (.enter 77 args) w := enters_of Tryz.func77 (by kernel_rfl) rfl args w
theorem enters_p (args : Array Value) (w : World) : Sem.run Tryz.prog (callFunc 80 args) w = .ok (.enter 80 args) w := enters_of Tryz.func80 (by kernel_rfl) rfl args w
theorem enters_b (args : Array Value) (w : World) : Sem.run Tryz.prog (callFunc 25 args) w = .ok (.enter 25 args) w := enters_of Tryz.func25 (by kernel_rfl) rfl args w
/-- What change leaves: the alias b and no error. -/
def ChPost (w : World) (b : Al) (e : Ending) (w' : World) : Prop := e = .returned (.tuple #[.agg #[.string ⟨#[108, 105, 118, 101]⟩, .int .i64 b.st, .int .i64 b.ca, .int .i64 b.we], .int .i64 0]) ∧ Below w.heap.size w w'
theorem below_set4 {B : Nat} {w w1 : World} (h : Below B w w1) {H : Nat} (hH : B ≤ H) (x0 x1 x2 x3 : Value) : Below B w ((((w1.setCell ⟨H, 0, none⟩ x0).setCell ⟨H, 1, none⟩ x1).setCell ⟨H, 2, none⟩ x2).setCell ⟨H, 3, none⟩ x3) :=
  (((h.setCell (p := ⟨H, 0, none⟩) hH x0).setCell (p := ⟨H, 1, none⟩) hH x1).setCell (p := ⟨H, 2, none⟩) hH x2).setCell (p := ⟨H, 3, none⟩) hH x3
set_option maxHeartbeats 2000000 in
theorem change_a (a : Al) (ha : a.ok) (w : World) (hK : ∀ W g, Blk W g 30 a.cs → Calls Tryz.prog 77 #[.pointer (some ⟨g, 0, none⟩)] W (ClPost g (Al.mk a.st 0 0) W)) : Calls Tryz.prog 24 #[.agg #[.string ⟨#[108, 105, 118, 101]⟩, .int .i64 a.st, .int .i64 a.ca, .int .i64 a.we], .func (.func 77) #[] #[]] w (ChPost w (Al.mk a.st 0 0)) := by
  have hE := enters_a
  have hb2 : Below w.heap.size w ((w.alloc (.cells #[.string ⟨#[108, 105, 118, 101]⟩, .int .i64 a.st, .int .i64 a.ca, .int .i64 a.we] 30)).alloc (.cells #[.string ⟨#[]⟩, .int .i64 0, .int .i64 0, .int .i64 0] 30)) := (al_new w _).alloc (by simp) _
  have b0 : Blk ((w.alloc (.cells #[.string ⟨#[108, 105, 118, 101]⟩, .int .i64 a.st, .int .i64 a.ca, .int .i64 a.we] 30)).alloc (.cells #[.string ⟨#[]⟩, .int .i64 0, .int .i64 0, .int .i64 0] 30)) w.heap.size 30 a.cs := (Blk.new w 30 #[.string ⟨#[108, 105, 118, 101]⟩, .int .i64 a.st, .int .i64 a.ca, .int .i64 a.we]).alloc _
  have b1 : Blk ((w.alloc (.cells #[.string ⟨#[108, 105, 118, 101]⟩, .int .i64 a.st, .int .i64 a.ca, .int .i64 a.we] 30)).alloc (.cells #[.string ⟨#[]⟩, .int .i64 0, .int .i64 0, .int .i64 0] 30)) (w.heap.size + 1) 30 #[.string ⟨#[]⟩, .int .i64 0, .int .i64 0, .int .i64 0] := Blk.new1 w _ _ _
  have HC := Lib.hid (aCheck_any a ha ((w.alloc (.cells #[.string ⟨#[108, 105, 118, 101]⟩, .int .i64 a.st, .int .i64 a.ca, .int .i64 a.we] 30)).alloc (.cells #[.string ⟨#[]⟩, .int .i64 0, .int .i64 0, .int .i64 0] 30)))
  have HB2 := Lib.hid hb2
  have HK := Lib.hid hK
  have hz2 : w.heap.size + 1 < ((w.alloc (.cells #[.string ⟨#[108, 105, 118, 101]⟩, .int .i64 a.st, .int .i64 a.ca, .int .i64 a.we] 30)).alloc (.cells #[.string ⟨#[]⟩, .int .i64 0, .int .i64 0, .int .i64 0] 30)).heap.size := b1.lt
  clear hb2 hK
  unfold Al.cs at b0
  go_enter Tryz.func24, Tryz.ntmps24
  go_upto_region 1 with fail
  generalize ((w.alloc (.cells #[.string ⟨#[108, 105, 118, 101]⟩, .int .i64 a.st, .int .i64 a.ca, .int .i64 a.we] 30)).alloc (.cells #[.string ⟨#[]⟩, .int .i64 0, .int .i64 0, .int .i64 0] 30)) = w2 at *
  have c0 : w2.cell? ⟨w.heap.size, 0, none⟩ = some (.string ⟨#[108, 105, 118, 101]⟩) := b0.cell 0
  have c1 : w2.cell? ⟨w.heap.size, 1, none⟩ = some (.int .i64 a.st) := b0.cell 1
  have c2 : w2.cell? ⟨w.heap.size, 2, none⟩ = some (.int .i64 a.ca) := b0.cell 2
  have c3 : w2.cell? ⟨w.heap.size, 3, none⟩ = some (.int .i64 a.we) := b0.cell 3
  go_wp2_with fail
  refine HC.out.mono ?_
  rintro e w3 ⟨rfl, hb⟩
  have b03 := b0.on hb
  have b13 := b1.on hb
  have HB3 := Lib.hid (HB2.out.trans (hb.mono HB2.out.size))
  have HK3 := Lib.hid (HK.out w3 w.heap.size b03)
  have hz3 : w2.heap.size ≤ w3.heap.size := hb.size
  clear hb b0 b1 c0 c1 c2 c3 b03
  go_wp2_with fail
  refine HK3.out.mono ?_
  rintro e w4 ⟨rfl, hb4, hc4⟩
  have b14 := hc4.blk b13 (by omega)
  have HB4 := Lib.hid (HB3.out.trans (hc4.toBelow (B := w.heap.size) (fun k hk => by omega) HB3.out.size))
  clear hc4 b13
  have d0 : w4.cell? ⟨w.heap.size, 0, none⟩ = (Al.mk a.st 0 0).cs[0]? := hb4.cell 0
  have q0 : w4.cell? ⟨w.heap.size + 1, 0, none⟩ = some (.string ⟨#[]⟩) := b14.cell 0
  have f0 : w4.frozen? ⟨w.heap.size + 1, 0, none⟩ = false := b14.frozen 0
  have d1 : w4.cell? ⟨w.heap.size, 1, none⟩ = (Al.mk a.st 0 0).cs[1]? := hb4.cell 1
  have q1 : w4.cell? ⟨w.heap.size + 1, 1, none⟩ = some (.int .i64 0) := b14.cell 1
  have f1 : w4.frozen? ⟨w.heap.size + 1, 1, none⟩ = false := b14.frozen 1
  have d2 : w4.cell? ⟨w.heap.size, 2, none⟩ = (Al.mk a.st 0 0).cs[2]? := hb4.cell 2
  have q2 : w4.cell? ⟨w.heap.size + 1, 2, none⟩ = some (.int .i64 0) := b14.cell 2
  have f2 : w4.frozen? ⟨w.heap.size + 1, 2, none⟩ = false := b14.frozen 2
  have d3 : w4.cell? ⟨w.heap.size, 3, none⟩ = (Al.mk a.st 0 0).cs[3]? := hb4.cell 3
  have q3 : w4.cell? ⟨w.heap.size + 1, 3, none⟩ = some (.int .i64 0) := b14.cell 3
  have f3 : w4.frozen? ⟨w.heap.size + 1, 3, none⟩ = false := b14.frozen 3
  simp only [Al.cs] at d0 d1 d2 d3
  clear hb4 b14
  go_wp2_with fail
  refine bodyPost_ret (v := .tuple #[.agg (Al.mk a.st 0 0).cs, .int .i64 0]) (by simp [Al.cs, results, Tryz.results24, go_sem, q0, q1, q2, q3]) rfl ?_
  exact ⟨rfl, below_set4 HB4.out (by omega) _ _ _ _⟩
set_option maxHeartbeats 2000000 in
theorem change_p (a : Al) (ha : a.ok) (w : World) (hK : ∀ W g, Blk W g 30 a.cs → Calls Tryz.prog 80 #[.pointer (some ⟨g, 0, none⟩)] W (ClPost g (Al.mk a.ca 0 0) W)) : Calls Tryz.prog 24 #[.agg #[.string ⟨#[108, 105, 118, 101]⟩, .int .i64 a.st, .int .i64 a.ca, .int .i64 a.we], .func (.func 80) #[] #[]] w (ChPost w (Al.mk a.ca 0 0)) := by
  have hE := enters_p
  have hb2 : Below w.heap.size w ((w.alloc (.cells #[.string ⟨#[108, 105, 118, 101]⟩, .int .i64 a.st, .int .i64 a.ca, .int .i64 a.we] 30)).alloc (.cells #[.string ⟨#[]⟩, .int .i64 0, .int .i64 0, .int .i64 0] 30)) := (al_new w _).alloc (by simp) _
  have b0 : Blk ((w.alloc (.cells #[.string ⟨#[108, 105, 118, 101]⟩, .int .i64 a.st, .int .i64 a.ca, .int .i64 a.we] 30)).alloc (.cells #[.string ⟨#[]⟩, .int .i64 0, .int .i64 0, .int .i64 0] 30)) w.heap.size 30 a.cs := (Blk.new w 30 #[.string ⟨#[108, 105, 118, 101]⟩, .int .i64 a.st, .int .i64 a.ca, .int .i64 a.we]).alloc _
  have b1 : Blk ((w.alloc (.cells #[.string ⟨#[108, 105, 118, 101]⟩, .int .i64 a.st, .int .i64 a.ca, .int .i64 a.we] 30)).alloc (.cells #[.string ⟨#[]⟩, .int .i64 0, .int .i64 0, .int .i64 0] 30)) (w.heap.size + 1) 30 #[.string ⟨#[]⟩, .int .i64 0, .int .i64 0, .int .i64 0] := Blk.new1 w _ _ _
  have HC := Lib.hid (aCheck_any a ha ((w.alloc (.cells #[.string ⟨#[108, 105, 118, 101]⟩, .int .i64 a.st, .int .i64 a.ca, .int .i64 a.we] 30)).alloc (.cells #[.string ⟨#[]⟩, .int .i64 0, .int .i64 0, .int .i64 0] 30)))
  have HB2 := Lib.hid hb2
  have HK := Lib.hid hK
  have hz2 : w.heap.size + 1 < ((w.alloc (.cells #[.string ⟨#[108, 105, 118, 101]⟩, .int .i64 a.st, .int .i64 a.ca, .int .i64 a.we] 30)).alloc (.cells #[.string ⟨#[]⟩, .int .i64 0, .int .i64 0, .int .i64 0] 30)).heap.size := b1.lt
  clear hb2 hK
  unfold Al.cs at b0
  go_enter Tryz.func24, Tryz.ntmps24
  go_upto_region 1 with fail
  generalize ((w.alloc (.cells #[.string ⟨#[108, 105, 118, 101]⟩, .int .i64 a.st, .int .i64 a.ca, .int .i64 a.we] 30)).alloc (.cells #[.string ⟨#[]⟩, .int .i64 0, .int .i64 0, .int .i64 0] 30)) = w2 at *
  have c0 : w2.cell? ⟨w.heap.size, 0, none⟩ = some (.string ⟨#[108, 105, 118, 101]⟩) := b0.cell 0
  have c1 : w2.cell? ⟨w.heap.size, 1, none⟩ = some (.int .i64 a.st) := b0.cell 1
  have c2 : w2.cell? ⟨w.heap.size, 2, none⟩ = some (.int .i64 a.ca) := b0.cell 2
  have c3 : w2.cell? ⟨w.heap.size, 3, none⟩ = some (.int .i64 a.we) := b0.cell 3
  go_wp2_with fail
  refine HC.out.mono ?_
  rintro e w3 ⟨rfl, hb⟩
  have b03 := b0.on hb
  have b13 := b1.on hb
  have HB3 := Lib.hid (HB2.out.trans (hb.mono HB2.out.size))
  have HK3 := Lib.hid (HK.out w3 w.heap.size b03)
  have hz3 : w2.heap.size ≤ w3.heap.size := hb.size
  clear hb b0 b1 c0 c1 c2 c3 b03
  go_wp2_with fail
  refine HK3.out.mono ?_
  rintro e w4 ⟨rfl, hb4, hc4⟩
  have b14 := hc4.blk b13 (by omega)
  have HB4 := Lib.hid (HB3.out.trans (hc4.toBelow (B := w.heap.size) (fun k hk => by omega) HB3.out.size))
  clear hc4 b13
  have d0 : w4.cell? ⟨w.heap.size, 0, none⟩ = (Al.mk a.ca 0 0).cs[0]? := hb4.cell 0
  have q0 : w4.cell? ⟨w.heap.size + 1, 0, none⟩ = some (.string ⟨#[]⟩) := b14.cell 0
  have f0 : w4.frozen? ⟨w.heap.size + 1, 0, none⟩ = false := b14.frozen 0
  have d1 : w4.cell? ⟨w.heap.size, 1, none⟩ = (Al.mk a.ca 0 0).cs[1]? := hb4.cell 1
  have q1 : w4.cell? ⟨w.heap.size + 1, 1, none⟩ = some (.int .i64 0) := b14.cell 1
  have f1 : w4.frozen? ⟨w.heap.size + 1, 1, none⟩ = false := b14.frozen 1
  have d2 : w4.cell? ⟨w.heap.size, 2, none⟩ = (Al.mk a.ca 0 0).cs[2]? := hb4.cell 2
  have q2 : w4.cell? ⟨w.heap.size + 1, 2, none⟩ = some (.int .i64 0) := b14.cell 2
  have f2 : w4.frozen? ⟨w.heap.size + 1, 2, none⟩ = false := b14.frozen 2
  have d3 : w4.cell? ⟨w.heap.size, 3, none⟩ = (Al.mk a.ca 0 0).cs[3]? := hb4.cell 3
  have q3 : w4.cell? ⟨w.heap.size + 1, 3, none⟩ = some (.int .i64 0) := b14.cell 3
  have f3 : w4.frozen? ⟨w.heap.size + 1, 3, none⟩ = false := b14.frozen 3
  simp only [Al.cs] at d0 d1 d2 d3
  clear hb4 b14
  go_wp2_with fail
  refine bodyPost_ret (v := .tuple #[.agg (Al.mk a.ca 0 0).cs, .int .i64 0]) (by simp [Al.cs, results, Tryz.results24, go_sem, q0, q1, q2, q3]) rfl ?_
  exact ⟨rfl, below_set4 HB4.out (by omega) _ _ _ _⟩
set_option maxHeartbeats 2000000 in
theorem change_b (a : Al) (ha : a.ok) (gv : Nat) (v : Int) (w : World) (hK : ∀ W g, Blk W g 30 a.cs → Blk W gv 3 #[.int .i64 v] → Calls Tryz.prog 25 #[.pointer (some ⟨g, 0, none⟩), .pointer (some ⟨gv, 0, none⟩)] W (ClPost g (Al.mk a.st v 0) W)) (hw : Blk w gv 3 #[.int .i64 v]) : Calls Tryz.prog 24 #[.agg #[.string ⟨#[108, 105, 118, 101]⟩, .int .i64 a.st, .int .i64 a.ca, .int .i64 a.we], .func (.func 25) #[] #[.pointer (some ⟨gv, 0, none⟩)]] w (ChPost w (Al.mk a.st v 0)) := by
  have hE := enters_b
  have hb2 : Below w.heap.size w ((w.alloc (.cells #[.string ⟨#[108, 105, 118, 101]⟩, .int .i64 a.st, .int .i64 a.ca, .int .i64 a.we] 30)).alloc (.cells #[.string ⟨#[]⟩, .int .i64 0, .int .i64 0, .int .i64 0] 30)) := (al_new w _).alloc (by simp) _
  have b0 : Blk ((w.alloc (.cells #[.string ⟨#[108, 105, 118, 101]⟩, .int .i64 a.st, .int .i64 a.ca, .int .i64 a.we] 30)).alloc (.cells #[.string ⟨#[]⟩, .int .i64 0, .int .i64 0, .int .i64 0] 30)) w.heap.size 30 a.cs := (Blk.new w 30 #[.string ⟨#[108, 105, 118, 101]⟩, .int .i64 a.st, .int .i64 a.ca, .int .i64 a.we]).alloc _
  have b1 : Blk ((w.alloc (.cells #[.string ⟨#[108, 105, 118, 101]⟩, .int .i64 a.st, .int .i64 a.ca, .int .i64 a.we] 30)).alloc (.cells #[.string ⟨#[]⟩, .int .i64 0, .int .i64 0, .int .i64 0] 30)) (w.heap.size + 1) 30 #[.string ⟨#[]⟩, .int .i64 0, .int .i64 0, .int .i64 0] := Blk.new1 w _ _ _
  have HC := Lib.hid (aCheck_any a ha ((w.alloc (.cells #[.string ⟨#[108, 105, 118, 101]⟩, .int .i64 a.st, .int .i64 a.ca, .int .i64 a.we] 30)).alloc (.cells #[.string ⟨#[]⟩, .int .i64 0, .int .i64 0, .int .i64 0] 30)))
  have HB2 := Lib.hid hb2
  have HK := Lib.hid hK
  have HW := Lib.hid (hw.on hb2)
  have hz2 : w.heap.size + 1 < ((w.alloc (.cells #[.string ⟨#[108, 105, 118, 101]⟩, .int .i64 a.st, .int .i64 a.ca, .int .i64 a.we] 30)).alloc (.cells #[.string ⟨#[]⟩, .int .i64 0, .int .i64 0, .int .i64 0] 30)).heap.size := b1.lt
  clear hb2 hK hw
  unfold Al.cs at b0
  go_enter Tryz.func24, Tryz.ntmps24
  go_upto_region 1 with fail
  generalize ((w.alloc (.cells #[.string ⟨#[108, 105, 118, 101]⟩, .int .i64 a.st, .int .i64 a.ca, .int .i64 a.we] 30)).alloc (.cells #[.string ⟨#[]⟩, .int .i64 0, .int .i64 0, .int .i64 0] 30)) = w2 at *
  have c0 : w2.cell? ⟨w.heap.size, 0, none⟩ = some (.string ⟨#[108, 105, 118, 101]⟩) := b0.cell 0
  have c1 : w2.cell? ⟨w.heap.size, 1, none⟩ = some (.int .i64 a.st) := b0.cell 1
  have c2 : w2.cell? ⟨w.heap.size, 2, none⟩ = some (.int .i64 a.ca) := b0.cell 2
  have c3 : w2.cell? ⟨w.heap.size, 3, none⟩ = some (.int .i64 a.we) := b0.cell 3
  go_wp2_with fail
  refine HC.out.mono ?_
  rintro e w3 ⟨rfl, hb⟩
  have b03 := b0.on hb
  have b13 := b1.on hb
  have HB3 := Lib.hid (HB2.out.trans (hb.mono HB2.out.size))
  have HK3 := Lib.hid (HK.out w3 w.heap.size b03 (HW.out.on hb))
  have hz3 : w2.heap.size ≤ w3.heap.size := hb.size
  clear hb b0 b1 c0 c1 c2 c3 b03
  go_wp2_with fail
  refine HK3.out.mono ?_
  rintro e w4 ⟨rfl, hb4, hc4⟩
  have b14 := hc4.blk b13 (by omega)
  have HB4 := Lib.hid (HB3.out.trans (hc4.toBelow (B := w.heap.size) (fun k hk => by omega) HB3.out.size))
  clear hc4 b13
  have d0 : w4.cell? ⟨w.heap.size, 0, none⟩ = (Al.mk a.st v 0).cs[0]? := hb4.cell 0
  have q0 : w4.cell? ⟨w.heap.size + 1, 0, none⟩ = some (.string ⟨#[]⟩) := b14.cell 0
  have f0 : w4.frozen? ⟨w.heap.size + 1, 0, none⟩ = false := b14.frozen 0
  have d1 : w4.cell? ⟨w.heap.size, 1, none⟩ = (Al.mk a.st v 0).cs[1]? := hb4.cell 1
  have q1 : w4.cell? ⟨w.heap.size + 1, 1, none⟩ = some (.int .i64 0) := b14.cell 1
  have f1 : w4.frozen? ⟨w.heap.size + 1, 1, none⟩ = false := b14.frozen 1
  have d2 : w4.cell? ⟨w.heap.size, 2, none⟩ = (Al.mk a.st v 0).cs[2]? := hb4.cell 2
  have q2 : w4.cell? ⟨w.heap.size + 1, 2, none⟩ = some (.int .i64 0) := b14.cell 2
  have f2 : w4.frozen? ⟨w.heap.size + 1, 2, none⟩ = false := b14.frozen 2
  have d3 : w4.cell? ⟨w.heap.size, 3, none⟩ = (Al.mk a.st v 0).cs[3]? := hb4.cell 3
  have q3 : w4.cell? ⟨w.heap.size + 1, 3, none⟩ = some (.int .i64 0) := b14.cell 3
  have f3 : w4.frozen? ⟨w.heap.size + 1, 3, none⟩ = false := b14.frozen 3
  simp only [Al.cs] at d0 d1 d2 d3
  clear hb4 b14
  go_wp2_with fail
  refine bodyPost_ret (v := .tuple #[.agg (Al.mk a.st v 0).cs, .int .i64 0]) (by simp [Al.cs, results, Tryz.results24, go_sem, q0, q1, q2, q3]) rfl ?_
  exact ⟨rfl, below_set4 HB4.out (by omega) _ _ _ _⟩
set_option maxHeartbeats 2000000 in
theorem Abort_any (a : Al) (ha : a.ok) (hc : a.ca ≠ 0) (w : World) : Calls Tryz.prog 48 #[.agg #[.string ⟨#[108, 105, 118, 101]⟩, .int .i64 a.st, .int .i64 a.ca, .int .i64 a.we]] w (ChPost w (Al.mk a.st 0 0)) := by
  have hb2 : Below w.heap.size w ((w.alloc (.cells #[.string ⟨#[108, 105, 118, 101]⟩, .int .i64 a.st, .int .i64 a.ca, .int .i64 a.we] 30)).alloc (.cells #[.string ⟨#[]⟩, .int .i64 0, .int .i64 0, .int .i64 0] 30)) := (al_new w _).alloc (by simp) _
  have b0 : Blk ((w.alloc (.cells #[.string ⟨#[108, 105, 118, 101]⟩, .int .i64 a.st, .int .i64 a.ca, .int .i64 a.we] 30)).alloc (.cells #[.string ⟨#[]⟩, .int .i64 0, .int .i64 0, .int .i64 0] 30)) w.heap.size 30 a.cs := (Blk.new w 30 #[.string ⟨#[108, 105, 118, 101]⟩, .int .i64 a.st, .int .i64 a.ca, .int .i64 a.we]).alloc _
  have b1 : Blk ((w.alloc (.cells #[.string ⟨#[108, 105, 118, 101]⟩, .int .i64 a.st, .int .i64 a.ca, .int .i64 a.we] 30)).alloc (.cells #[.string ⟨#[]⟩, .int .i64 0, .int .i64 0, .int .i64 0] 30)) (w.heap.size + 1) 30 #[.string ⟨#[]⟩, .int .i64 0, .int .i64 0, .int .i64 0] := Blk.new1 w _ _ _
  have HB2 := Lib.hid hb2
  have HC := Lib.hid (change_a a ha ((w.alloc (.cells #[.string ⟨#[108, 105, 118, 101]⟩, .int .i64 a.st, .int .i64 a.ca, .int .i64 a.we] 30)).alloc (.cells #[.string ⟨#[]⟩, .int .i64 0, .int .i64 0, .int .i64 0] 30)) (fun W g hb => Abort1_any g a hc W hb))
  have hz2 : w.heap.size + 1 < ((w.alloc (.cells #[.string ⟨#[108, 105, 118, 101]⟩, .int .i64 a.st, .int .i64 a.ca, .int .i64 a.we] 30)).alloc (.cells #[.string ⟨#[]⟩, .int .i64 0, .int .i64 0, .int .i64 0] 30)).heap.size := b1.lt
  clear hb2 hc
  unfold Al.cs at b0
  go_enter Tryz.func48, Tryz.ntmps48
  go_upto_region 1 with fail
  generalize ((w.alloc (.cells #[.string ⟨#[108, 105, 118, 101]⟩, .int .i64 a.st, .int .i64 a.ca, .int .i64 a.we] 30)).alloc (.cells #[.string ⟨#[]⟩, .int .i64 0, .int .i64 0, .int .i64 0] 30)) = w2 at *
  have c0 : w2.cell? ⟨w.heap.size, 0, none⟩ = some (.string ⟨#[108, 105, 118, 101]⟩) := b0.cell 0
  have c1 : w2.cell? ⟨w.heap.size, 1, none⟩ = some (.int .i64 a.st) := b0.cell 1
  have c2 : w2.cell? ⟨w.heap.size, 2, none⟩ = some (.int .i64 a.ca) := b0.cell 2
  have c3 : w2.cell? ⟨w.heap.size, 3, none⟩ = some (.int .i64 a.we) := b0.cell 3
  go_wp2_with fail
  refine HC.out.mono ?_
  rintro e w4 ⟨rfl, hb⟩
  have b14 := b1.on hb
  have HB4 := Lib.hid (HB2.out.trans (hb.mono HB2.out.size))
  clear hb b0 b1 c0 c1 c2 c3
  have q0 : w4.cell? ⟨w.heap.size + 1, 0, none⟩ = some (.string ⟨#[]⟩) := b14.cell 0
  have f0 : w4.frozen? ⟨w.heap.size + 1, 0, none⟩ = false := b14.frozen 0
  have q1 : w4.cell? ⟨w.heap.size + 1, 1, none⟩ = some (.int .i64 0) := b14.cell 1
  have f1 : w4.frozen? ⟨w.heap.size + 1, 1, none⟩ = false := b14.frozen 1
  have q2 : w4.cell? ⟨w.heap.size + 1, 2, none⟩ = some (.int .i64 0) := b14.cell 2
  have f2 : w4.frozen? ⟨w.heap.size + 1, 2, none⟩ = false := b14.frozen 2
  have q3 : w4.cell? ⟨w.heap.size + 1, 3, none⟩ = some (.int .i64 0) := b14.cell 3
  have f3 : w4.frozen? ⟨w.heap.size + 1, 3, none⟩ = false := b14.frozen 3
  clear b14
  go_wp2_with fail
  refine bodyPost_ret (v := .tuple #[.agg (Al.mk a.st 0 0).cs, .int .i64 0]) (by simp [Al.cs, results, Tryz.results48, go_sem, q0, q1, q2, q3]) rfl ?_
  exact ⟨rfl, below_set4 HB4.out (by omega) _ _ _ _⟩
set_option maxHeartbeats 2000000 in
theorem Promote_any (a : Al) (ha : a.ok) (hc : a.ca ≠ 0) (w : World) : Calls Tryz.prog 49 #[.agg #[.string ⟨#[108, 105, 118, 101]⟩, .int .i64 a.st, .int .i64 a.ca, .int .i64 a.we]] w (ChPost w (Al.mk a.ca 0 0)) := by
  have hb2 : Below w.heap.size w ((w.alloc (.cells #[.string ⟨#[108, 105, 118, 101]⟩, .int .i64 a.st, .int .i64 a.ca, .int .i64 a.we] 30)).alloc (.cells #[.string ⟨#[]⟩, .int .i64 0, .int .i64 0, .int .i64 0] 30)) := (al_new w _).alloc (by simp) _
  have b0 : Blk ((w.alloc (.cells #[.string ⟨#[108, 105, 118, 101]⟩, .int .i64 a.st, .int .i64 a.ca, .int .i64 a.we] 30)).alloc (.cells #[.string ⟨#[]⟩, .int .i64 0, .int .i64 0, .int .i64 0] 30)) w.heap.size 30 a.cs := (Blk.new w 30 #[.string ⟨#[108, 105, 118, 101]⟩, .int .i64 a.st, .int .i64 a.ca, .int .i64 a.we]).alloc _
  have b1 : Blk ((w.alloc (.cells #[.string ⟨#[108, 105, 118, 101]⟩, .int .i64 a.st, .int .i64 a.ca, .int .i64 a.we] 30)).alloc (.cells #[.string ⟨#[]⟩, .int .i64 0, .int .i64 0, .int .i64 0] 30)) (w.heap.size + 1) 30 #[.string ⟨#[]⟩, .int .i64 0, .int .i64 0, .int .i64 0] := Blk.new1 w _ _ _
  have HB2 := Lib.hid hb2
  have HC := Lib.hid (change_p a ha ((w.alloc (.cells #[.string ⟨#[108, 105, 118, 101]⟩, .int .i64 a.st, .int .i64 a.ca, .int .i64 a.we] 30)).alloc (.cells #[.string ⟨#[]⟩, .int .i64 0, .int .i64 0, .int .i64 0] 30)) (fun W g hb => Promote1_any g a hc W hb))
  have hz2 : w.heap.size + 1 < ((w.alloc (.cells #[.string ⟨#[108, 105, 118, 101]⟩, .int .i64 a.st, .int .i64 a.ca, .int .i64 a.we] 30)).alloc (.cells #[.string ⟨#[]⟩, .int .i64 0, .int .i64 0, .int .i64 0] 30)).heap.size := b1.lt
  clear hb2 hc
  unfold Al.cs at b0
  go_enter Tryz.func49, Tryz.ntmps49
  go_upto_region 1 with fail
  generalize ((w.alloc (.cells #[.string ⟨#[108, 105, 118, 101]⟩, .int .i64 a.st, .int .i64 a.ca, .int .i64 a.we] 30)).alloc (.cells #[.string ⟨#[]⟩, .int .i64 0, .int .i64 0, .int .i64 0] 30)) = w2 at *
  have c0 : w2.cell? ⟨w.heap.size, 0, none⟩ = some (.string ⟨#[108, 105, 118, 101]⟩) := b0.cell 0
  have c1 : w2.cell? ⟨w.heap.size, 1, none⟩ = some (.int .i64 a.st) := b0.cell 1
  have c2 : w2.cell? ⟨w.heap.size, 2, none⟩ = some (.int .i64 a.ca) := b0.cell 2
  have c3 : w2.cell? ⟨w.heap.size, 3, none⟩ = some (.int .i64 a.we) := b0.cell 3
  go_wp2_with fail
  refine HC.out.mono ?_
  rintro e w4 ⟨rfl, hb⟩
  have b14 := b1.on hb
  have HB4 := Lib.hid (HB2.out.trans (hb.mono HB2.out.size))
  clear hb b0 b1 c0 c1 c2 c3
  have q0 : w4.cell? ⟨w.heap.size + 1, 0, none⟩ = some (.string ⟨#[]⟩) := b14.cell 0
  have f0 : w4.frozen? ⟨w.heap.size + 1, 0, none⟩ = false := b14.frozen 0
  have q1 : w4.cell? ⟨w.heap.size + 1, 1, none⟩ = some (.int .i64 0) := b14.cell 1
  have f1 : w4.frozen? ⟨w.heap.size + 1, 1, none⟩ = false := b14.frozen 1
  have q2 : w4.cell? ⟨w.heap.size + 1, 2, none⟩ = some (.int .i64 0) := b14.cell 2
  have f2 : w4.frozen? ⟨w.heap.size + 1, 2, none⟩ = false := b14.frozen 2
  have q3 : w4.cell? ⟨w.heap.size + 1, 3, none⟩ = some (.int .i64 0) := b14.cell 3
  have f3 : w4.frozen? ⟨w.heap.size + 1, 3, none⟩ = false := b14.frozen 3
  clear b14
  go_wp2_with fail
  refine bodyPost_ret (v := .tuple #[.agg (Al.mk a.ca 0 0).cs, .int .i64 0]) (by simp [Al.cs, results, Tryz.results49, go_sem, q0, q1, q2, q3]) rfl ?_
  exact ⟨rfl, below_set4 HB4.out (by omega) _ _ _ _⟩
set_option maxHeartbeats 2000000 in
theorem Begin_any (a : Al) (ha : a.ok) (v : Int) (hv : 1 ≤ v ∧ v ≤ 32) (h0 : a.ca = 0) (hs : v ≠ a.st) (w : World) : Calls Tryz.prog 10 #[.agg #[.string ⟨#[108, 105, 118, 101]⟩, .int .i64 a.st, .int .i64 a.ca, .int .i64 a.we], .int .i64 v] w (ChPost w (Al.mk a.st v 0)) := by
  have hb2 : Below w.heap.size w (((w.alloc (.cells #[.string ⟨#[108, 105, 118, 101]⟩, .int .i64 a.st, .int .i64 a.ca, .int .i64 a.we] 30)).alloc (.cells #[.int .i64 v] 3)).alloc (.cells #[.string ⟨#[]⟩, .int .i64 0, .int .i64 0, .int .i64 0] 30)) := ((al_new w _).alloc (by simp) _).alloc (by simp <;> omega) _
  have b0 : Blk (((w.alloc (.cells #[.string ⟨#[108, 105, 118, 101]⟩, .int .i64 a.st, .int .i64 a.ca, .int .i64 a.we] 30)).alloc (.cells #[.int .i64 v] 3)).alloc (.cells #[.string ⟨#[]⟩, .int .i64 0, .int .i64 0, .int .i64 0] 30)) w.heap.size 30 a.cs := ((Blk.new w 30 #[.string ⟨#[108, 105, 118, 101]⟩, .int .i64 a.st, .int .i64 a.ca, .int .i64 a.we]).alloc _).alloc _
  have b1 : Blk (((w.alloc (.cells #[.string ⟨#[108, 105, 118, 101]⟩, .int .i64 a.st, .int .i64 a.ca, .int .i64 a.we] 30)).alloc (.cells #[.int .i64 v] 3)).alloc (.cells #[.string ⟨#[]⟩, .int .i64 0, .int .i64 0, .int .i64 0] 30)) (w.heap.size + 2) 30 #[.string ⟨#[]⟩, .int .i64 0, .int .i64 0, .int .i64 0] := by have h := Blk.new1 (w.alloc (.cells #[.string ⟨#[108, 105, 118, 101]⟩, .int .i64 a.st, .int .i64 a.ca, .int .i64 a.we] 30)) (.cells #[.int .i64 v] 3) 30 #[.string ⟨#[]⟩, .int .i64 0, .int .i64 0, .int .i64 0]; simpa using h
  have bv : Blk (((w.alloc (.cells #[.string ⟨#[108, 105, 118, 101]⟩, .int .i64 a.st, .int .i64 a.ca, .int .i64 a.we] 30)).alloc (.cells #[.int .i64 v] 3)).alloc (.cells #[.string ⟨#[]⟩, .int .i64 0, .int .i64 0, .int .i64 0] 30)) (w.heap.size + 1) 3 #[.int .i64 v] := (Blk.new1 w _ _ _).alloc _
  have HB2 := Lib.hid hb2
  have HC := Lib.hid (change_b a ha (w.heap.size + 1) v (((w.alloc (.cells #[.string ⟨#[108, 105, 118, 101]⟩, .int .i64 a.st, .int .i64 a.ca, .int .i64 a.we] 30)).alloc (.cells #[.int .i64 v] 3)).alloc (.cells #[.string ⟨#[]⟩, .int .i64 0, .int .i64 0, .int .i64 0] 30)) (fun W g hb hg => Begin1_any g (w.heap.size + 1) v a hv h0 hs W hb hg) bv)
  have hz2 : w.heap.size + 2 < (((w.alloc (.cells #[.string ⟨#[108, 105, 118, 101]⟩, .int .i64 a.st, .int .i64 a.ca, .int .i64 a.we] 30)).alloc (.cells #[.int .i64 v] 3)).alloc (.cells #[.string ⟨#[]⟩, .int .i64 0, .int .i64 0, .int .i64 0] 30)).heap.size := b1.lt
  clear hb2 hv h0 hs
  unfold Al.cs at b0
  go_enter Tryz.func10, Tryz.ntmps10
  go_upto_region 1 with fail
  generalize (((w.alloc (.cells #[.string ⟨#[108, 105, 118, 101]⟩, .int .i64 a.st, .int .i64 a.ca, .int .i64 a.we] 30)).alloc (.cells #[.int .i64 v] 3)).alloc (.cells #[.string ⟨#[]⟩, .int .i64 0, .int .i64 0, .int .i64 0] 30)) = w2 at *
  have c0 : w2.cell? ⟨w.heap.size, 0, none⟩ = some (.string ⟨#[108, 105, 118, 101]⟩) := b0.cell 0
  have c1 : w2.cell? ⟨w.heap.size, 1, none⟩ = some (.int .i64 a.st) := b0.cell 1
  have c2 : w2.cell? ⟨w.heap.size, 2, none⟩ = some (.int .i64 a.ca) := b0.cell 2
  have c3 : w2.cell? ⟨w.heap.size, 3, none⟩ = some (.int .i64 a.we) := b0.cell 3
  go_wp2_with fail
  refine HC.out.mono ?_
  rintro e w4 ⟨rfl, hb⟩
  have b14 := b1.on hb
  have HB4 := Lib.hid (HB2.out.trans (hb.mono HB2.out.size))
  clear hb b0 b1 c0 c1 c2 c3
  have q0 : w4.cell? ⟨w.heap.size + 2, 0, none⟩ = some (.string ⟨#[]⟩) := b14.cell 0
  have f0 : w4.frozen? ⟨w.heap.size + 2, 0, none⟩ = false := b14.frozen 0
  have q1 : w4.cell? ⟨w.heap.size + 2, 1, none⟩ = some (.int .i64 0) := b14.cell 1
  have f1 : w4.frozen? ⟨w.heap.size + 2, 1, none⟩ = false := b14.frozen 1
  have q2 : w4.cell? ⟨w.heap.size + 2, 2, none⟩ = some (.int .i64 0) := b14.cell 2
  have f2 : w4.frozen? ⟨w.heap.size + 2, 2, none⟩ = false := b14.frozen 2
  have q3 : w4.cell? ⟨w.heap.size + 2, 3, none⟩ = some (.int .i64 0) := b14.cell 3
  have f3 : w4.frozen? ⟨w.heap.size + 2, 3, none⟩ = false := b14.frozen 3
  clear b14
  go_wp2_with fail
  refine bodyPost_ret (v := .tuple #[.agg (Al.mk a.st v 0).cs, .int .i64 0]) (by simp [Al.cs, results, Tryz.results10, go_sem, q0, q1, q2, q3]) rfl ?_
  exact ⟨rfl, below_set4 HB4.out (by omega) _ _ _ _⟩
/-- The version that processes an event. -/
def bkt (id : ByteArray) : Int := fnv ((⟨#[108, 105, 118, 101]⟩ : ByteArray) ++ ⟨#[58]⟩ ++ id).data.toList % 1000
def pickS (a : Al) (id : ByteArray) : Int × Int := if idL id = false then (0, 4) else if a.ca ≠ 0 ∧ bkt id < a.we then (a.ca, 0) else (a.st, 0)
theorem live_sz {id : ByteArray} (h : id.size ≤ 64) : ((⟨#[108, 105, 118, 101]⟩ : ByteArray) ++ ⟨#[58]⟩).size + id.size ≤ 140737488351232 := by
  rw [ByteArray.size_append]
  show 4 + 1 + id.size ≤ _
  omega
theorem idL_size' {s : ByteArray} (h : idL s = true) : s.size ≤ 64 := by
  unfold idL at h
  rw [Bool.and_eq_true] at h
  have := of_decide_eq_true h.1
  omega
set_option maxHeartbeats 2000000 in
theorem Pick_any (a : Al) (ha : a.ok) (id : ByteArray) (hid : id.size ≤ 9223372036854775807) (w : World) : Calls Tryz.prog 6 #[.agg #[.string ⟨#[108, 105, 118, 101]⟩, .int .i64 a.st, .int .i64 a.ca, .int .i64 a.we], .string id] w fun e w' => e = .returned (tup2 (pickS a id)) ∧ Below w.heap.size w w' := by
  have hb := al_new w (.cells #[.string ⟨#[108, 105, 118, 101]⟩, .int .i64 a.st, .int .i64 a.ca, .int .i64 a.we] 30)
  have HB := Lib.hid hb
  have bx := Blk.new w 30 #[.string ⟨#[108, 105, 118, 101]⟩, .int .i64 a.st, .int .i64 a.ca, .int .i64 a.we]
  have HC := Lib.hid (aCheck_any a ha (w.alloc (.cells #[.string ⟨#[108, 105, 118, 101]⟩, .int .i64 a.st, .int .i64 a.ca, .int .i64 a.we] 30)))
  clear hb
  go_enter Tryz.func6, Tryz.ntmps6
  go_upto_region 1 with fail
  generalize w.alloc (.cells #[.string ⟨#[108, 105, 118, 101]⟩, .int .i64 a.st, .int .i64 a.ca, .int .i64 a.we] 30) = w1 at *
  have c0 : w1.cell? ⟨w.heap.size, 0, none⟩ = some (.string ⟨#[108, 105, 118, 101]⟩) := bx.cell 0
  have c1 : w1.cell? ⟨w.heap.size, 1, none⟩ = some (.int .i64 a.st) := bx.cell 1
  have c2 : w1.cell? ⟨w.heap.size, 2, none⟩ = some (.int .i64 a.ca) := bx.cell 2
  have c3 : w1.cell? ⟨w.heap.size, 3, none⟩ = some (.int .i64 a.we) := bx.cell 3
  go_wp2_with fail
  refine HC.out.mono ?_
  rintro e w2 ⟨rfl, hb2⟩
  have HB2 := Lib.hid (HB.out.trans (hb2.mono HB.out.size))
  have b2 := bx.on hb2
  clear bx hb2 c0 c1 c2 c3
  go_wp2_with fail
  refine (ID_any id w2 hid).mono ?_
  rintro e w3 ⟨rfl, hb3⟩
  have HB3 := Lib.hid (HB2.out.trans (hb3.mono HB2.out.size))
  have b3 := b2.on hb3
  clear b2 hb3
  have c0 : w3.cell? ⟨w.heap.size, 0, none⟩ = some (.string ⟨#[108, 105, 118, 101]⟩) := b3.cell 0
  have c1 : w3.cell? ⟨w.heap.size, 1, none⟩ = some (.int .i64 a.st) := b3.cell 1
  have c2 : w3.cell? ⟨w.heap.size, 2, none⟩ = some (.int .i64 a.ca) := b3.cell 2
  have c3 : w3.cell? ⟨w.heap.size, 3, none⟩ = some (.int .i64 a.we) := b3.cell 3
  clear b3
  cases hi : idL id with
  | false =>
    have HR := Lib.hid (show pickS a id = (0, 4) by unfold pickS; rw [if_pos hi])
    clear hi
    go_wp2_with fail
    go_ret2
    exact ⟨ret_tup2 HR.out, HB3.out⟩
  | true =>
    have hsz := idL_size' hi
    by_cases h0 : a.ca = 0
    · have e0 : (a.ca != 0) = false := by rw [h0]; rfl
      have HR := Lib.hid (show pickS a id = (a.st, 0) by unfold pickS; rw [if_neg (by rw [hi]; decide), if_neg (fun h => h.1 h0)])
      clear hi h0
      go_wp2_with fail
      go_ret2
      exact ⟨ret_tup2 HR.out, HB3.out⟩
    · have e0 : (a.ca != 0) = true := by simpa using h0
      have hl : (⟨#[108, 105, 118, 101]⟩ : ByteArray).size + (⟨#[58]⟩ : ByteArray).size ≤ 140737488351232 := by decide
      have hl2 := live_sz hsz
      have HKT := Lib.hid (show ∀ W, Calls Tryz.prog 18 #[.string ((⟨#[108, 105, 118, 101]⟩ : ByteArray) ++ ⟨#[58]⟩ ++ id), .int .i64 1000] W fun e w' => e = .returned (.tuple #[.int .i64 (bkt id), .int .i64 0]) ∧ W = w' from fun W => by
        have h := Bucket_any ((⟨#[108, 105, 118, 101]⟩ : ByteArray) ++ ⟨#[58]⟩ ++ id) 1000 W (by rw [ByteArray.size_append]; have h := live_sz hsz; omega)
        have e1 : bktI ((⟨#[108, 105, 118, 101]⟩ : ByteArray) ++ ⟨#[58]⟩ ++ id).data.toList 1000 = (bkt id, 0) := by unfold bktI; rw [if_pos (by decide)]; rfl
        rw [e1] at h
        exact h)
      go_wp2_with fail
      refine (HKT.out _).mono ?_
      rintro e wq ⟨rfl, rfl⟩
      by_cases hlt : bkt id < a.we
      · have d1 : decide (bkt id < a.we) = true := decide_eq_true hlt
        have HR := Lib.hid (show pickS a id = (a.ca, 0) by unfold pickS; rw [if_neg (by rw [hi]; decide), if_pos ⟨h0, hlt⟩])
        clear hi h0 hlt
        go_wp2_with fail
        go_ret2
        exact ⟨ret_tup2 HR.out, HB3.out⟩
      · have d1 : decide (bkt id < a.we) = false := decide_eq_false hlt
        have HR := Lib.hid (show pickS a id = (a.st, 0) by unfold pickS; rw [if_neg (by rw [hi]; decide), if_neg (fun h => hlt h.2)])
        clear hi h0 hlt
        go_wp2_with fail
        go_ret2
        exact ⟨ret_tup2 HR.out, HB3.out⟩
end Go.Proofs.YtfhcngnmgfkdkaaGreatDoor
