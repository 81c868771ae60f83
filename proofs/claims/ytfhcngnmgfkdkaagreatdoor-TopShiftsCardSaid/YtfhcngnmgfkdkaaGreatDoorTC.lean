/- Rollouts: Check, own, Valid, running, clock. -/
import Derived.Test.YtfhcngnmgfkdkaaGreatDoorTB
namespace Go.Proofs.YtfhcngnmgfkdkaaGreatDoor
open Go.RowKit
open Go.Sort (grow)

/-- The three stages. -/
structure Sg where
  a : Int
  b : Int
  x : Int
  y : Int
def Sg.ok (g : Sg) : Prop := 1 ≤ g.a ∧ g.a < g.b ∧ g.b ≤ 600 ∧ 0 ≤ g.x ∧ g.x < 10 ∧ 0 ≤ g.y ∧ g.y < 10
def sgP (g : Sg) : List (Int × Int) := [(g.a, g.x), (g.b, g.y), (1000, 1)]
def stc (p : Int × Int) : List Value := [.int .i64 p.1, .int .i64 p.2]
theorem stc_len (p : Int × Int) : (stc p).length = 2 := rfl
theorem stc_one (p : Int × Int) : ∀ u ∈ stc p, u.oneCell' = true := by intro u hu; simp [stc] at hu; rcases hu with rfl | rfl <;> rfl
def wtS (g : Sg) (k : Nat) : Int := if k = 0 then g.a else if k = 1 then g.b else 1000
def bkS (g : Sg) (k : Nat) : Int := if k = 0 then g.x else if k = 1 then g.y else 1
def laS (g : Sg) (k : Nat) : Int := if k = 0 then 0 else wtS g (k - 1)
def StgR (w : World) (A : Option Addr) (g : Sg) : Prop := Reads w w.heap.size 2 A 3 ((sgP g).flatMap stc)
/-- A row of stages of the call's own. -/
def StgQ (w : World) (B : Nat) (A : Option Addr) (c : Nat) (g : Sg) : Prop := w.ownsRow B 26 2 (.slice A (sgP g).length c) (sgP g).length ((sgP g).flatMap stc)
theorem StgQ.rd {w : World} {B c : Nat} {A : Option Addr} {g : Sg} (h : StgQ w B A c g) : StgR w A g := Reads.of_own h
theorem StgQ.on {w w' : World} {B c : Nat} {A : Option Addr} {g : Sg} (h : StgQ w B A c g) (hb : Below w.heap.size w w') : StgQ w' B A c g := own_below h hb
theorem StgQ.base {w : World} {B B' c : Nat} {A : Option Addr} {g : Sg} (h : StgQ w B A c g) (hB : B' ≤ B) : StgQ w B' A c g := own_base h hB
theorem StgR.on {w w' : World} {A : Option Addr} {g : Sg} (h : StgR w A g) (hb : Below w.heap.size w w') : StgR w' A g := (Reads.below h hb).more hb.size
theorem StgR.at_ {w : World} {A : Option Addr} {g : Sg} (h : StgR w A g) : ∃ b o, A = some ⟨b, o, none⟩ ∧ b < w.heap.size ∧ ∀ k, k < 3 → w.cell? ⟨b, o + k * 2, none⟩ = some (.int .i64 (wtS g k)) ∧ w.cell? ⟨b, o + k * 2 + 1, none⟩ = some (.int .i64 (bkS g k)) := by
  obtain ⟨b, o, e, hb, hc⟩ := h.2 (by omega)
  refine ⟨b, o, e, hb, fun k hk => ?_⟩
  have h3 : k = 0 ∨ k = 1 ∨ k = 2 := by omega
  rcases h3 with rfl | rfl | rfl
  · exact ⟨hc 0 _ rfl, hc 1 _ rfl⟩
  · exact ⟨hc 2 _ rfl, hc 3 _ rfl⟩
  · exact ⟨hc 4 _ rfl, hc 5 _ rfl⟩
theorem wtS_bd {g : Sg} (h : g.ok) (k : Nat) : 1 ≤ wtS g k ∧ wtS g k ≤ 1000 ∧ 0 ≤ bkS g k ∧ bkS g k ≤ 1073741824 ∧ (k < 3 → laS g k < wtS g k) := by
  unfold Sg.ok at h
  unfold laS wtS bkS
  by_cases h0 : k = 0
  · subst h0; simp; omega
  · by_cases h1 : k = 1
    · subst h1; simp; omega
    · by_cases h2 : k = 2
      · subst h2; simp; omega
      · simp [h0, h1]; omega
/-- A rollout. -/
structure Ro where
  sta : Int
  al : Al
  at_ : Int
  since : Int
theorem info_stage : (Tryz.prog.info? 26).map (fun i => (i.zero, i.size, i.bytes)) = some (some (.agg #[.int .i64 0, .int .i64 0]), 2, 16) := by kernel_rfl
set_option maxHeartbeats 1000000 in
theorem Clone_stage (A : Option Addr) (c : Nat) (l : List (Int × Int)) (w : World) (hl : Reads w w.heap.size 2 A l.length (l.flatMap stc)) (hn : l.length ≤ 1048576) :
    Calls Tryz.prog 27 #[.slice A l.length c] w fun e w' => ∃ A' c', e = .returned (.slice A' l.length c') ∧ w'.ownsRow w.heap.size 26 2 (.slice A' l.length c') l.length (l.flatMap stc) ∧ Below w.heap.size w w' := by
  have heq := fun n' c' wx => Lib.run_eql_slice_nil (P := Tryz.prog) wx 27 26 A l.length c n' c' Tryz.underlying27
  have H1 := Lib.hid (flat_one stc_one l)
  cases A with
  | none =>
    have hl0 : l.length = 0 := by
      rcases Nat.eq_zero_or_pos l.length with h | h
      · exact h
      · obtain ⟨b, o, h, _⟩ := hl.2 h
        cases h
    have HL := Lib.hid hl0
    clear hl0
    go_enter Tryz.func27, Tryz.ntmps27
    go_wp2
    go_ret
    refine ⟨none, 0, ?_, ?_, Below.refl _ _⟩
    · rw [HL.out]; rfl
    · rw [HL.out, List.eq_nil_of_length_eq_zero HL.out]; exact own_nil _ _ _ _
  | some ad =>
    obtain ⟨i0, hi0, hz0, hz1, hz2⟩ := info_partsO info_stage
    go_enter Tryz.func27, Tryz.ntmps27
    go_wp2_with (at_builtin; refine wpList_append_any _ rfl (.tmp 5) (.tmp 6) 27 rfl w.heap.size 26 i0 _ 2 16 Tryz.underlying27 hi0 hz0 hz1 hz2 rfl (by omega) (.slice (some ⟨w.heap.size, 0, none⟩) 0 0) 0 [] rfl (World.ownsRow_made _ _ 0 (Nat.le_refl _) (Nat.zero_le _) rfl) w.heap.size (some ad) l.length c (l.flatMap stc) rfl (hl.below ((Below.refl _ _).alloc (Nat.le_refl _) _)) H1.out (by simp only [maxLen]; omega) (by omega) (by simp) ?_; intro v' w1 hown hgr hat)
    go_ret
    simp only [Nat.zero_add, List.nil_append] at hown
    have hb1 : Below w.heap.size w w1 := ((Below.refl _ _).alloc (Nat.le_refl _) _).grown hgr (by simp) (fun k hk => by simp [Value.ownBlock] at hk; omega)
    obtain ⟨A', c', rfl⟩ := own_slice hown
    exact ⟨A', c', rfl, hown, hb1⟩
theorem inst_yes {n : Int} (h0 : 0 ≤ n) (h1 : n ≤ 1073741824) (w : World) : Calls Tryz.prog 9 #[.int .i64 n] w fun e w' => e = .returned (.bool true) ∧ w' = w := by
  have d1 : decide (0 ≤ n) = true := decide_eq_true h0
  have d2 : decide (n ≤ 1073741824) = true := decide_eq_true h1
  clear h0 h1
  go_enter Tryz.func9, Tryz.ntmps9
  go_wp2_with fail
  go_ret
  exact ⟨rfl, rfl⟩
set_option maxHeartbeats 2000000 in
theorem rCheck_any (A : Option Addr) (c : Nat) (g : Sg) (hg : g.ok) (w : World) (h : StgR w A g) : Calls Tryz.prog 8 #[.slice A 3 c] w fun e w' => e = .returned (.int .i64 0) ∧ Below w.heap.size w w' := by
  obtain ⟨b, o, rfl, hbl, hc⟩ := h.at_
  have HC := Lib.hid hc
  have HBD := Lib.hid (wtS_bd hg)
  clear h hc
  go_enter Tryz.func8, Tryz.ntmps8
  go_wp2_with fail
  go_loopw [3, 16] (fun v3 v16 wx => ∃ k : Nat, k ≤ 3 ∧ v16 = .int .i64 k ∧ v3 = .int .i64 (laS g k) ∧ Below w.heap.size w wx) (fun _ v16 _ => 3 - (intOf v16).toNat)
  case atStart => exact ⟨0, by omega, rfl, rfl, Below.refl _ _⟩
  case round =>
    obtain ⟨k, hk, rfl, rfl, hb⟩ := hrel
    have HB := Lib.hid hb
    by_cases hlt : k < 3
    · obtain ⟨c0, c1⟩ := HC.out k hlt
      obtain ⟨h1, h2, h3, h4, h5⟩ := HBD.out k
      have e0 := (hb.cell (p := ⟨b, o + k * 2, none⟩) hbl).trans c0
      have e1 := (hb.cell (p := ⟨b, o + k * 2 + 1, none⟩) hbl).trans c1
      have hbw := Lib.hid ((al_new wr (.cells #[.int .i64 (wtS g k), .int .i64 (bkS g k)] 26)))
      have HB2 := Lib.hid (hb.trans (hbw.out.mono hb.size))
      have HL := Lib.hid (show wtS g k = laS g (k + 1) from rfl)
      have h6 := h5 hlt
      have hkI : (k : Int) < 3 := by omega
      have hk0 : (0 : Int) ≤ k := by omega
      have HKW := Lib.hid (w64 (x := (k : Int) + 1) (by omega) (by omega))
      clear c0 c1 hb h5 hbw
      generalize wtS g k = W at *
      generalize bkS g k = K at *
      generalize laS g k = L at *
      have d1 : decide (W < 1) = false := decide_eq_false (by omega)
      have d2 : decide (1000 < W) = false := decide_eq_false (by omega)
      have d3 : decide (W ≤ L) = false := decide_eq_false (by omega)
      have HI := Lib.hid (inst_yes h3 h4)
      clear h1 h2 h3 h4 h6
      obtain ⟨wk1, wk2⟩ := HKW.out
      go_wp2_with fail
      refine (HI.out _).mono ?_
      rintro e wq ⟨rfl, hq⟩
      obtain rfl := hq.symm
      go_wp2_with fail
      clear wk1 wk2
      go_roundw
      case rel => exact ⟨k + 1, by omega, by first | rfl | go_num, by rw [HL.out], HB2.out⟩
      case measure => simp [intOf] <;> omega
    · obtain rfl : k = 3 := by omega
      have hl : laS g 3 = 1000 := rfl
      rw [hl]
      go_wp2_with fail
      go_ret
      exact ⟨rfl, HB.out⟩
/-- A rollout that is handed back: the same, with stages of its own. -/
def RoPost (w : World) (r : Ro) (g : Sg) (e : Ending) (w' : World) : Prop := ∃ A c, e = .returned (.agg #[.int .i64 r.sta, .string ⟨#[108, 105, 118, 101]⟩, .int .i64 r.al.st, .int .i64 r.al.ca, .int .i64 r.al.we, .slice A 3 c, .int .i64 r.at_, .int .i64 r.since]) ∧ StgQ w' w.heap.size A c g ∧ Below w.heap.size w w'
theorem below_set8 {B : Nat} {w w1 : World} (h : Below B w w1) {H : Nat} (hH : B ≤ H) (x0 x1 x2 x3 x4 x5 x6 x7 : Value) : Below B w ((((((((w1.setCell ⟨H, 0, none⟩ x0).setCell ⟨H, 1, none⟩ x1).setCell ⟨H, 2, none⟩ x2).setCell ⟨H, 3, none⟩ x3).setCell ⟨H, 4, none⟩ x4).setCell ⟨H, 5, none⟩ x5).setCell ⟨H, 6, none⟩ x6).setCell ⟨H, 7, none⟩ x7) :=
  (((((((h.setCell (p := ⟨H, 0, none⟩) hH x0).setCell (p := ⟨H, 1, none⟩) hH x1).setCell (p := ⟨H, 2, none⟩) hH x2).setCell (p := ⟨H, 3, none⟩) hH x3).setCell (p := ⟨H, 4, none⟩) hH x4).setCell (p := ⟨H, 5, none⟩) hH x5).setCell (p := ⟨H, 6, none⟩) hH x6).setCell (p := ⟨H, 7, none⟩) hH x7
theorem own8 {w1 : World} {g : Sg} {A : Option Addr} {c : Nat} {b : Nat} (h : StgQ w1 b A c g) {H : Nat} (hp : H < b) (x0 x1 x2 x3 x4 x5 x6 x7 : Value) : StgQ ((((((((w1.setCell ⟨H, 0, none⟩ x0).setCell ⟨H, 1, none⟩ x1).setCell ⟨H, 2, none⟩ x2).setCell ⟨H, 3, none⟩ x3).setCell ⟨H, 4, none⟩ x4).setCell ⟨H, 5, none⟩ x5).setCell ⟨H, 6, none⟩ x6).setCell ⟨H, 7, none⟩ x7) b A c g := by
  have hk : ∀ q, (Value.slice A (sgP g).length c).ownBlock = some q → q ≠ H := fun q hq => by have := own_ge h q hq; omega
  exact own_far (p := ⟨H, 7, none⟩) (own_far (p := ⟨H, 6, none⟩) (own_far (p := ⟨H, 5, none⟩) (own_far (p := ⟨H, 4, none⟩) (own_far (p := ⟨H, 3, none⟩) (own_far (p := ⟨H, 2, none⟩) (own_far (p := ⟨H, 1, none⟩) (own_far (p := ⟨H, 0, none⟩) h hk x0) hk x1) hk x2) hk x3) hk x4) hk x5) hk x6) hk x7
set_option maxHeartbeats 4000000 in
theorem own_any (r : Ro) (g : Sg) (A : Option Addr) (c : Nat) (w : World) (h : StgR w A g) : Calls Tryz.prog 11 #[.agg #[.int .i64 r.sta, .string ⟨#[108, 105, 118, 101]⟩, .int .i64 r.al.st, .int .i64 r.al.ca, .int .i64 r.al.we, .slice A 3 c, .int .i64 r.at_, .int .i64 r.since]] w (RoPost w r g) := by
  have hb2 : Below w.heap.size w ((w.alloc (.cells #[.int .i64 r.sta, .string ⟨#[108, 105, 118, 101]⟩, .int .i64 r.al.st, .int .i64 r.al.ca, .int .i64 r.al.we, .slice A 3 c, .int .i64 r.at_, .int .i64 r.since] 32)).alloc (.cells #[.int .i64 0, .string ⟨#[]⟩, .int .i64 0, .int .i64 0, .int .i64 0, .slice none 0 0, .int .i64 0, .int .i64 0] 32)) := (al_new w _).alloc (by simp) _
  have b0 : Blk ((w.alloc (.cells #[.int .i64 r.sta, .string ⟨#[108, 105, 118, 101]⟩, .int .i64 r.al.st, .int .i64 r.al.ca, .int .i64 r.al.we, .slice A 3 c, .int .i64 r.at_, .int .i64 r.since] 32)).alloc (.cells #[.int .i64 0, .string ⟨#[]⟩, .int .i64 0, .int .i64 0, .int .i64 0, .slice none 0 0, .int .i64 0, .int .i64 0] 32)) w.heap.size 32 #[.int .i64 r.sta, .string ⟨#[108, 105, 118, 101]⟩, .int .i64 r.al.st, .int .i64 r.al.ca, .int .i64 r.al.we, .slice A 3 c, .int .i64 r.at_, .int .i64 r.since] := (Blk.new w _ _).alloc _
  have b1 : Blk ((w.alloc (.cells #[.int .i64 r.sta, .string ⟨#[108, 105, 118, 101]⟩, .int .i64 r.al.st, .int .i64 r.al.ca, .int .i64 r.al.we, .slice A 3 c, .int .i64 r.at_, .int .i64 r.since] 32)).alloc (.cells #[.int .i64 0, .string ⟨#[]⟩, .int .i64 0, .int .i64 0, .int .i64 0, .slice none 0 0, .int .i64 0, .int .i64 0] 32)) (w.heap.size + 1) 32 #[.int .i64 0, .string ⟨#[]⟩, .int .i64 0, .int .i64 0, .int .i64 0, .slice none 0 0, .int .i64 0, .int .i64 0] := Blk.new1 w _ _ _
  have HB2 := Lib.hid hb2
  have HC := Lib.hid (Clone_stage A c (sgP g) ((w.alloc (.cells #[.int .i64 r.sta, .string ⟨#[108, 105, 118, 101]⟩, .int .i64 r.al.st, .int .i64 r.al.ca, .int .i64 r.al.we, .slice A 3 c, .int .i64 r.at_, .int .i64 r.since] 32)).alloc (.cells #[.int .i64 0, .string ⟨#[]⟩, .int .i64 0, .int .i64 0, .int .i64 0, .slice none 0 0, .int .i64 0, .int .i64 0] 32)) (h.on hb2) (by show 3 ≤ 1048576; omega))
  have hz2 : w.heap.size + 1 < ((w.alloc (.cells #[.int .i64 r.sta, .string ⟨#[108, 105, 118, 101]⟩, .int .i64 r.al.st, .int .i64 r.al.ca, .int .i64 r.al.we, .slice A 3 c, .int .i64 r.at_, .int .i64 r.since] 32)).alloc (.cells #[.int .i64 0, .string ⟨#[]⟩, .int .i64 0, .int .i64 0, .int .i64 0, .slice none 0 0, .int .i64 0, .int .i64 0] 32)).heap.size := b1.lt
  clear hb2 h
  go_enter Tryz.func11, Tryz.ntmps11
  go_upto_region 1 with fail
  generalize ((w.alloc (.cells #[.int .i64 r.sta, .string ⟨#[108, 105, 118, 101]⟩, .int .i64 r.al.st, .int .i64 r.al.ca, .int .i64 r.al.we, .slice A 3 c, .int .i64 r.at_, .int .i64 r.since] 32)).alloc (.cells #[.int .i64 0, .string ⟨#[]⟩, .int .i64 0, .int .i64 0, .int .i64 0, .slice none 0 0, .int .i64 0, .int .i64 0] 32)) = w2 at *
  have c5 : w2.cell? ⟨w.heap.size, 5, none⟩ = some (.slice A 3 c) := b0.cell 5
  go_wp2_with fail
  refine HC.out.mono ?_
  rintro e w3 ⟨A2, c2, rfl, hown, hb⟩
  have b03 := b0.on hb
  have b13 := b1.on hb
  have HB3 := Lib.hid (HB2.out.trans (hb.mono HB2.out.size))
  have HO := Lib.hid hown
  have hz3 : w2.heap.size ≤ w3.heap.size := hb.size
  clear hb hown b0 b1 c5
  have d0 : w3.cell? ⟨w.heap.size, 0, none⟩ = some (.int .i64 r.sta) := b03.cell 0
  have d1 : w3.cell? ⟨w.heap.size, 1, none⟩ = some (.string ⟨#[108, 105, 118, 101]⟩) := b03.cell 1
  have d2 : w3.cell? ⟨w.heap.size, 2, none⟩ = some (.int .i64 r.al.st) := b03.cell 2
  have d3 : w3.cell? ⟨w.heap.size, 3, none⟩ = some (.int .i64 r.al.ca) := b03.cell 3
  have d4 : w3.cell? ⟨w.heap.size, 4, none⟩ = some (.int .i64 r.al.we) := b03.cell 4
  have d5 : w3.cell? ⟨w.heap.size, 5, none⟩ = some (.slice A 3 c) := b03.cell 5
  have d6 : w3.cell? ⟨w.heap.size, 6, none⟩ = some (.int .i64 r.at_) := b03.cell 6
  have d7 : w3.cell? ⟨w.heap.size, 7, none⟩ = some (.int .i64 r.since) := b03.cell 7
  have g5 : w3.frozen? ⟨w.heap.size, 5, none⟩ = false := b03.frozen 5
  have q0 : w3.cell? ⟨w.heap.size + 1, 0, none⟩ = some (.int .i64 0) := b13.cell 0
  have f0 : w3.frozen? ⟨w.heap.size + 1, 0, none⟩ = false := b13.frozen 0
  have q1 : w3.cell? ⟨w.heap.size + 1, 1, none⟩ = some (.string ⟨#[]⟩) := b13.cell 1
  have f1 : w3.frozen? ⟨w.heap.size + 1, 1, none⟩ = false := b13.frozen 1
  have q2 : w3.cell? ⟨w.heap.size + 1, 2, none⟩ = some (.int .i64 0) := b13.cell 2
  have f2 : w3.frozen? ⟨w.heap.size + 1, 2, none⟩ = false := b13.frozen 2
  have q3 : w3.cell? ⟨w.heap.size + 1, 3, none⟩ = some (.int .i64 0) := b13.cell 3
  have f3 : w3.frozen? ⟨w.heap.size + 1, 3, none⟩ = false := b13.frozen 3
  have q4 : w3.cell? ⟨w.heap.size + 1, 4, none⟩ = some (.int .i64 0) := b13.cell 4
  have f4 : w3.frozen? ⟨w.heap.size + 1, 4, none⟩ = false := b13.frozen 4
  have q5 : w3.cell? ⟨w.heap.size + 1, 5, none⟩ = some (.slice none 0 0) := b13.cell 5
  have f5 : w3.frozen? ⟨w.heap.size + 1, 5, none⟩ = false := b13.frozen 5
  have q6 : w3.cell? ⟨w.heap.size + 1, 6, none⟩ = some (.int .i64 0) := b13.cell 6
  have f6 : w3.frozen? ⟨w.heap.size + 1, 6, none⟩ = false := b13.frozen 6
  have q7 : w3.cell? ⟨w.heap.size + 1, 7, none⟩ = some (.int .i64 0) := b13.cell 7
  have f7 : w3.frozen? ⟨w.heap.size + 1, 7, none⟩ = false := b13.frozen 7
  clear b03 b13
  go_wp2_with fail
  refine bodyPost_ret (v := .agg #[.int .i64 r.sta, .string ⟨#[108, 105, 118, 101]⟩, .int .i64 r.al.st, .int .i64 r.al.ca, .int .i64 r.al.we, .slice A2 3 c2, .int .i64 r.at_, .int .i64 r.since]) (by simp [results, Tryz.results11, go_sem, sgP, q0, q1, q2, q3, q4, q5, q6, q7]) rfl ?_
  refine ⟨A2, c2, rfl, ?_, below_set8 (HB3.out.setCell (p := ⟨w.heap.size, 5, none⟩) (Nat.le_refl _) _) (by omega) _ _ _ _ _ _ _ _⟩
  exact (own8 (show StgQ _ w2.heap.size A2 c2 g from own_far HO.out (fun q hq e => by have h1 := own_ge HO.out q hq; have e' : q = w.heap.size := e; omega) _) hz2 _ _ _ _ _ _ _ _).base HB2.out.size
theorem al_ok {g : Sg} (hg : g.ok) (k : Nat) : (Al.mk 1 2 (wtS g k)).ok := by
  have := wtS_bd hg k
  unfold Al.ok
  simp only
  omega
set_option maxHeartbeats 4000000 in
theorem Valid_any (g : Sg) (hg : g.ok) (k : Nat) (hk : k < 3) (s : Int) (hs0 : 0 ≤ s) (hs1 : s ≤ 1073741824) (A : Option Addr) (c : Nat) (w : World) (h : StgR w A g) : Calls Tryz.prog 47 #[.agg #[.int .i64 1, .string ⟨#[108, 105, 118, 101]⟩, .int .i64 1, .int .i64 2, .int .i64 (wtS g k), .slice A 3 c, .int .i64 (k : Int), .int .i64 s]] w fun e w' => e = .returned (.bool true) ∧ Below w.heap.size w w' := by
  have hb := al_new w (.cells #[.int .i64 1, .string ⟨#[108, 105, 118, 101]⟩, .int .i64 1, .int .i64 2, .int .i64 (wtS g k), .slice A 3 c, .int .i64 (k : Int), .int .i64 s] 32)
  have HB := Lib.hid hb
  have bx := Blk.new w 32 #[.int .i64 1, .string ⟨#[108, 105, 118, 101]⟩, .int .i64 1, .int .i64 2, .int .i64 (wtS g k), .slice A 3 c, .int .i64 (k : Int), .int .i64 s]
  have HS := Lib.hid (h.on hb)
  have HC := Lib.hid (rCheck_any A c g hg (w.alloc (.cells #[.int .i64 1, .string ⟨#[108, 105, 118, 101]⟩, .int .i64 1, .int .i64 2, .int .i64 (wtS g k), .slice A 3 c, .int .i64 (k : Int), .int .i64 s] 32)) (h.on hb))
  have HA := Lib.hid (aCheck_any ⟨1, 2, wtS g k⟩ (al_ok hg k))
  have HI := Lib.hid (inst_yes hs0 hs1)
  have hkI : (k : Int) < 3 := by omega
  have hk0 : (0 : Int) ≤ k := by omega
  have dk : decide ((k : Int) < 0) = false := decide_eq_false (by omega)
  have dk3 : decide ((3 : Int) ≤ k) = false := decide_eq_false (by omega)
  have HK := Lib.hid hk
  clear hb h hs0 hs1 hk
  go_enter Tryz.func47, Tryz.ntmps47
  go_upto_region 1 with fail
  generalize w.alloc (.cells #[.int .i64 1, .string ⟨#[108, 105, 118, 101]⟩, .int .i64 1, .int .i64 2, .int .i64 (wtS g k), .slice A 3 c, .int .i64 (k : Int), .int .i64 s] 32) = w1 at *
  have c5 : w1.cell? ⟨w.heap.size, 5, none⟩ = some (.slice A 3 c) := bx.cell 5
  go_wp2_with fail
  refine HC.out.mono ?_
  rintro e w2 ⟨rfl, hb⟩
  have b2 := bx.on hb
  have HB2 := Lib.hid (HB.out.trans (hb.mono HB.out.size))
  have HS2 := Lib.hid (HS.out.on hb)
  clear hb bx c5
  have d1 : w2.cell? ⟨w.heap.size, 1, none⟩ = some (.string ⟨#[108, 105, 118, 101]⟩) := b2.cell 1
  have d2 : w2.cell? ⟨w.heap.size, 2, none⟩ = some (.int .i64 1) := b2.cell 2
  have d3 : w2.cell? ⟨w.heap.size, 3, none⟩ = some (.int .i64 2) := b2.cell 3
  have d4 : w2.cell? ⟨w.heap.size, 4, none⟩ = some (.int .i64 (wtS g k)) := b2.cell 4
  go_wp2_with fail
  refine (HA.out _).mono ?_
  rintro e w3 ⟨rfl, hb⟩
  have b3 := b2.on hb
  have HB3 := Lib.hid (HB2.out.trans (hb.mono HB2.out.size))
  have HS3 := Lib.hid (HS2.out.on hb)
  clear hb b2 d1 d2 d3 d4
  have d0 : w3.cell? ⟨w.heap.size, 0, none⟩ = some (.int .i64 1) := b3.cell 0
  have d1 : w3.cell? ⟨w.heap.size, 1, none⟩ = some (.string ⟨#[108, 105, 118, 101]⟩) := b3.cell 1
  have d2 : w3.cell? ⟨w.heap.size, 2, none⟩ = some (.int .i64 1) := b3.cell 2
  have d3 : w3.cell? ⟨w.heap.size, 3, none⟩ = some (.int .i64 2) := b3.cell 3
  have d4 : w3.cell? ⟨w.heap.size, 4, none⟩ = some (.int .i64 (wtS g k)) := b3.cell 4
  have d5 : w3.cell? ⟨w.heap.size, 5, none⟩ = some (.slice A 3 c) := b3.cell 5
  have d6 : w3.cell? ⟨w.heap.size, 6, none⟩ = some (.int .i64 (k : Int)) := b3.cell 6
  have d7 : w3.cell? ⟨w.heap.size, 7, none⟩ = some (.int .i64 s) := b3.cell 7
  go_wp2_with fail
  refine (HI.out _).mono ?_
  rintro e wq ⟨rfl, hq⟩
  obtain rfl := hq.symm
  obtain ⟨b, o, rfl, hbl, hc⟩ := HS3.out.at_
  obtain ⟨s0, s1⟩ := hc k HK.out
  clear hc
  go_wp2_with fail
  go_quiet (fail)
  go_wp2_with fail
  go_ret
  exact ⟨rfl, HB3.out.trans ((below_drewN' w3.heap.size w3 _).mono HB3.out.size)⟩
set_option maxHeartbeats 4000000 in
theorem running_any (g : Sg) (hg : g.ok) (k : Nat) (hk : k < 3) (s : Int) (hs0 : 0 ≤ s) (hs1 : s ≤ 1073741824) (A : Option Addr) (c : Nat) (w : World) (h : StgR w A g) : Calls Tryz.prog 19 #[.agg #[.int .i64 1, .string ⟨#[108, 105, 118, 101]⟩, .int .i64 1, .int .i64 2, .int .i64 (wtS g k), .slice A 3 c, .int .i64 (k : Int), .int .i64 s]] w fun e w' => e = .returned (.int .i64 0) ∧ Below w.heap.size w w' := by
  have hb := al_new w (.cells #[.int .i64 1, .string ⟨#[108, 105, 118, 101]⟩, .int .i64 1, .int .i64 2, .int .i64 (wtS g k), .slice A 3 c, .int .i64 (k : Int), .int .i64 s] 32)
  have HB := Lib.hid hb
  have bx := Blk.new w 32 #[.int .i64 1, .string ⟨#[108, 105, 118, 101]⟩, .int .i64 1, .int .i64 2, .int .i64 (wtS g k), .slice A 3 c, .int .i64 (k : Int), .int .i64 s]
  have HV := Lib.hid (Valid_any g hg k hk s hs0 hs1 A c (w.alloc (.cells #[.int .i64 1, .string ⟨#[108, 105, 118, 101]⟩, .int .i64 1, .int .i64 2, .int .i64 (wtS g k), .slice A 3 c, .int .i64 (k : Int), .int .i64 s] 32)) (h.on hb))
  clear hb h hs0 hs1 hk
  go_enter Tryz.func19, Tryz.ntmps19
  go_upto_region 1 with fail
  generalize w.alloc (.cells #[.int .i64 1, .string ⟨#[108, 105, 118, 101]⟩, .int .i64 1, .int .i64 2, .int .i64 (wtS g k), .slice A 3 c, .int .i64 (k : Int), .int .i64 s] 32) = w1 at *
  have d0 : w1.cell? ⟨w.heap.size, 0, none⟩ = some (.int .i64 1) := bx.cell 0
  have d1 : w1.cell? ⟨w.heap.size, 1, none⟩ = some (.string ⟨#[108, 105, 118, 101]⟩) := bx.cell 1
  have d2 : w1.cell? ⟨w.heap.size, 2, none⟩ = some (.int .i64 1) := bx.cell 2
  have d3 : w1.cell? ⟨w.heap.size, 3, none⟩ = some (.int .i64 2) := bx.cell 3
  have d4 : w1.cell? ⟨w.heap.size, 4, none⟩ = some (.int .i64 (wtS g k)) := bx.cell 4
  have d5 : w1.cell? ⟨w.heap.size, 5, none⟩ = some (.slice A 3 c) := bx.cell 5
  have d6 : w1.cell? ⟨w.heap.size, 6, none⟩ = some (.int .i64 (k : Int)) := bx.cell 6
  have d7 : w1.cell? ⟨w.heap.size, 7, none⟩ = some (.int .i64 s) := bx.cell 7
  go_wp2_with fail
  refine HV.out.mono ?_
  rintro e w2 ⟨rfl, hb⟩
  have b2 := bx.on hb
  have HB2 := Lib.hid (HB.out.trans (hb.mono HB.out.size))
  clear hb bx d0 d1 d2 d3 d4 d5 d6 d7
  have d0 : w2.cell? ⟨w.heap.size, 0, none⟩ = some (.int .i64 1) := b2.cell 0
  go_wp2_with fail
  go_ret
  exact ⟨rfl, HB2.out⟩
set_option maxHeartbeats 4000000 in
theorem clock_any (g : Sg) (k : Nat) (s now : Int) (hs0 : 0 ≤ s) (hsn : s ≤ now) (hn : now ≤ 1073741824) (A : Option Addr) (c : Nat) (w : World) : Calls Tryz.prog 20 #[.agg #[.int .i64 1, .string ⟨#[108, 105, 118, 101]⟩, .int .i64 1, .int .i64 2, .int .i64 (wtS g k), .slice A 3 c, .int .i64 (k : Int), .int .i64 s], .int .i64 now] w fun e w' => e = .returned (.int .i64 0) ∧ Below w.heap.size w w' := by
  have HB := Lib.hid (al_new w (.cells #[.int .i64 1, .string ⟨#[108, 105, 118, 101]⟩, .int .i64 1, .int .i64 2, .int .i64 (wtS g k), .slice A 3 c, .int .i64 (k : Int), .int .i64 s] 32))
  have bx := Blk.new w 32 #[.int .i64 1, .string ⟨#[108, 105, 118, 101]⟩, .int .i64 1, .int .i64 2, .int .i64 (wtS g k), .slice A 3 c, .int .i64 (k : Int), .int .i64 s]
  have HI := Lib.hid (inst_yes (show 0 ≤ now by omega) hn)
  have d1 : decide (now < s) = false := decide_eq_false (by omega)
  clear hs0 hsn hn
  go_enter Tryz.func20, Tryz.ntmps20
  go_upto_region 1 with fail
  generalize w.alloc (.cells #[.int .i64 1, .string ⟨#[108, 105, 118, 101]⟩, .int .i64 1, .int .i64 2, .int .i64 (wtS g k), .slice A 3 c, .int .i64 (k : Int), .int .i64 s] 32) = w1 at *
  have c7 : w1.cell? ⟨w.heap.size, 7, none⟩ = some (.int .i64 s) := bx.cell 7
  clear bx
  go_wp2_with fail
  refine (HI.out _).mono ?_
  rintro e wq ⟨rfl, hq⟩
  obtain rfl := hq.symm
  go_wp2_with fail
  go_ret
  exact ⟨rfl, HB.out⟩
end Go.Proofs.YtfhcngnmgfkdkaaGreatDoor
