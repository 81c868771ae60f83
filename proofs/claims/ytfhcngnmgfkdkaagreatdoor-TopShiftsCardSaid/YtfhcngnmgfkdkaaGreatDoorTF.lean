/- TopShifts: the law's own walk. -/
import Derived.Test.YtfhcngnmgfkdkaaGreatDoorTE
namespace Go.Proofs.YtfhcngnmgfkdkaaGreatDoor
open Go.RowKit
open Go.Sort (grow)

def btc (p : Bool × Int) : List Value := [.bool p.1, .int .u8 p.2]
theorem btc_len (p : Bool × Int) : (btc p).length = 2 := rfl
/-- What the stages are. -/
def sgOf (w0 w1 w2 bk : Int) : Sg := ⟨w0 % 300 + 1, w0 % 300 + 1 + w1 % 300 + 1, bk % 10, w2 % 10⟩
theorem sgOf_ok (w0 w1 w2 bk : Int) : (sgOf w0 w1 w2 bk).ok := by
  unfold sgOf Sg.ok
  simp only
  omega
theorem Blk.set8 {w : World} {H : Nat} {T : TypeId} {z0 z1 z2 z3 z4 z5 z6 z7 : Value} (h : Blk w H T #[z0, z1, z2, z3, z4, z5, z6, z7]) (x0 x1 x2 x3 x4 x5 x6 x7 : Value) :
    Blk ((((((((w.setCell ⟨H, 0, none⟩ x0).setCell ⟨H, 1, none⟩ x1).setCell ⟨H, 2, none⟩ x2).setCell ⟨H, 3, none⟩ x3).setCell ⟨H, 4, none⟩ x4).setCell ⟨H, 5, none⟩ x5).setCell ⟨H, 6, none⟩ x6).setCell ⟨H, 7, none⟩ x7) H T #[x0, x1, x2, x3, x4, x5, x6, x7] := by
  have h0 : Blk _ H T #[x0, z1, z2, z3, z4, z5, z6, z7] := h.set_ 0 x0
  have h1 : Blk _ H T #[x0, x1, z2, z3, z4, z5, z6, z7] := h0.set_ 1 x1
  have h2 : Blk _ H T #[x0, x1, x2, z3, z4, z5, z6, z7] := h1.set_ 2 x2
  have h3 : Blk _ H T #[x0, x1, x2, x3, z4, z5, z6, z7] := h2.set_ 3 x3
  have h4 : Blk _ H T #[x0, x1, x2, x3, x4, z5, z6, z7] := h3.set_ 4 x4
  have h5 : Blk _ H T #[x0, x1, x2, x3, x4, x5, z6, z7] := h4.set_ 5 x5
  have h6 : Blk _ H T #[x0, x1, x2, x3, x4, x5, x6, z7] := h5.set_ 6 x6
  exact h6.set_ 7 x7
theorem nextR_ok {g : Sg} (hg : g.ok) (k : Nat) (s : Int) (hl : Bool) (now : Int) : (nextR g k s hl now).al.ok := by
  unfold nextR
  split
  · exact (show (Al.mk 1 0 0).ok by unfold Al.ok; decide)
  · split
    · exact al_ok hg k
    · split
      · exact (show (Al.mk 2 0 0).ok by unfold Al.ok; decide)
      · exact al_ok hg (k + 1)
/-- A rollout behind Next goes on, or has ended. -/
theorem nextR_form (g : Sg) (k : Nat) (hk : k < 3) (s : Int) (hs : 0 ≤ s) (hl : Bool) (now : Int) (hn : s ≤ now) :
    (∃ (k' : Nat) (s' : Int), nextR g k s hl now = ⟨1, ⟨1, 2, wtS g k'⟩, (k' : Int), s'⟩ ∧ k' < 3 ∧ 0 ≤ s' ∧ s' ≤ now) ∨ (nextR g k s hl now).sta = 3 ∨ (nextR g k s hl now).sta = 2 := by
  unfold nextR
  split
  · exact .inr (.inl rfl)
  · split
    · exact .inl ⟨k, s, rfl, hk, hs, hn⟩
    · split
      · exact .inr (.inr rfl)
      · exact .inl ⟨k + 1, now, rfl, by omega, by omega, by omega⟩
theorem wt_mono {g : Sg} (hg : g.ok) (k : Nat) (hk : k < 3) : wtS g k ≤ wtS g (k + 1) := by
  unfold Sg.ok at hg
  have h3 : k = 0 ∨ k = 1 ∨ k = 2 := by omega
  rcases h3 with rfl | rfl | rfl <;> simp [wtS] <;> omega
theorem pick_mono {x y : Int} (h : x ≤ y) (id : ByteArray) : (pickS ⟨1, 2, x⟩ id).2 = (pickS ⟨1, 2, y⟩ id).2 ∧ (pickS ⟨1, 2, x⟩ id).1 ≤ (pickS ⟨1, 2, y⟩ id).1 := by
  unfold pickS
  cases idL id with
  | false => exact ⟨rfl, Int.le_refl _⟩
  | true =>
    simp only [Bool.true_eq_false, if_false]
    by_cases hx : bkt id < x
    · rw [if_pos (show (2 : Int) ≠ 0 ∧ bkt id < x from ⟨by decide, hx⟩), if_pos (show (2 : Int) ≠ 0 ∧ bkt id < y from ⟨by decide, by omega⟩)]
      exact ⟨rfl, Int.le_refl _⟩
    · rw [if_neg (show ¬ ((2 : Int) ≠ 0 ∧ bkt id < x) from fun h => hx h.2)]
      split
      · exact ⟨rfl, by decide⟩
      · exact ⟨rfl, Int.le_refl _⟩
/-- The law, one moment. -/
theorem shift_law {g : Sg} (hg : g.ok) (k : Nat) (hk : k < 3) (s : Int) (hl : Bool) (now : Int) (id : ByteArray) :
    (pickS (nextR g k s hl now).al id).2 = (pickS ⟨1, 2, wtS g k⟩ id).2 ∧
    ((pickS (nextR g k s hl now).al id).2 = 4 ∨ ((pickS (nextR g k s hl now).al id).2 = 0 ∧ (((nextR g k s hl now).sta = 1 ∧ (pickS ⟨1, 2, wtS g k⟩ id).1 ≤ (pickS (nextR g k s hl now).al id).1) ∨ ((nextR g k s hl now).sta = 3 ∧ (pickS (nextR g k s hl now).al id).1 = 1) ∨ ((nextR g k s hl now).sta = 2 ∧ (pickS (nextR g k s hl now).al id).1 = 2)))) := by
  have h2 : ∀ x : Al, (pickS x id).2 = if idL id = false then 4 else 0 := by
    intro x; unfold pickS; split
    · rfl
    · split <;> rfl
  cases hi : idL id with
  | false =>
    rw [h2, h2, hi]
    exact ⟨rfl, .inl rfl⟩
  | true =>
    have e : ∀ x : Al, (pickS x id).2 = 0 := fun x => by rw [h2, hi]; rfl
    rw [e, e]
    refine ⟨rfl, .inr ⟨rfl, ?_⟩⟩
    have h10 : ∀ v : Int, (pickS ⟨v, 0, 0⟩ id).1 = v := by
      intro v; unfold pickS
      rw [if_neg (by rw [hi]; decide), if_neg (fun h => h.1 rfl)]
    unfold nextR
    split
    · exact .inr (.inl ⟨rfl, h10 1⟩)
    · split
      · exact .inl ⟨rfl, Int.le_refl _⟩
      · split
        · exact .inr (.inr ⟨rfl, h10 2⟩)
        · exact .inl ⟨rfl, (pick_mono (wt_mono hg k hk) id).2⟩
theorem ab_bad : idL ⟨#[97, 32, 98]⟩ = false := by
  unfold idL
  rw [Bool.and_eq_false_iff]
  right
  show allL [97, 32, 98] = false
  unfold allL
  simp only [List.all_cons, List.all_nil]
  rw [letB_no (c := ((32 : UInt8).toNat : Int)) (by unfold letP; decide)]
  simp
/-- What stands behind the call of Next: the new rollout in a variable of its own. -/
def RgQ (g : Sg) (r2 : Ro) (H : Nat) (wr : World) (v20 v21 : Value) (wx : World) : Prop := ∃ (H2 : Nat) (A2 : Option Addr) (c2 : Nat), v20 = .pointer (some ⟨H2, 0, none⟩) ∧ v21 = .int .i64 0 ∧ Blk wx H2 32 #[.int .i64 r2.sta, .string ⟨#[108, 105, 118, 101]⟩, .int .i64 r2.al.st, .int .i64 r2.al.ca, .int .i64 r2.al.we, .slice A2 3 c2, .int .i64 r2.at_, .int .i64 r2.since] ∧ StgQ wx wr.heap.size A2 c2 g ∧ Below wr.heap.size wr wx ∧ H ≠ H2
theorem RgQ.a {g : Sg} {r2 : Ro} {H : Nat} {wr wn : World} {A2 : Option Addr} {c2 : Nat} (hs : StgQ wn wr.drew.heap.size A2 c2 g) (hb : Below wr.heap.size wr wn) (hn : H ≠ wn.heap.size) :
    RgQ g r2 H wr (.pointer (some ⟨wn.heap.size, 0, none⟩)) (.int .i64 0) (wn.alloc (.cells #[.int .i64 r2.sta, .string ⟨#[108, 105, 118, 101]⟩, .int .i64 r2.al.st, .int .i64 r2.al.ca, .int .i64 r2.al.we, .slice A2 3 c2, .int .i64 r2.at_, .int .i64 r2.since] 32)) :=
  ⟨wn.heap.size, A2, c2, rfl, rfl, Blk.new wn _ _, hs.on (al_new wn _), hb.trans ((al_new wn _).mono hb.size), hn⟩
theorem RgQ.b {g : Sg} {r2 : Ro} {H : Nat} {wr wn : World} {A2 : Option Addr} {c2 : Nat} (hq : Blk wn wr.heap.size 32 #[.int .i64 0, .string ⟨#[]⟩, .int .i64 0, .int .i64 0, .int .i64 0, .slice none 0 0, .int .i64 0, .int .i64 0]) (hs : StgQ wn ((wr.alloc (.cells #[.int .i64 0, .string ⟨#[]⟩, .int .i64 0, .int .i64 0, .int .i64 0, .slice none 0 0, .int .i64 0, .int .i64 0] 32)).drew).heap.size A2 c2 g) (hb : Below wr.heap.size wr wn) (hn : H < wr.heap.size) :
    RgQ g r2 H wr (.pointer (some ⟨wr.heap.size, 0, none⟩)) (.int .i64 0) ((((((((wn.setCell ⟨wr.heap.size, 0, none⟩ (.int .i64 r2.sta)).setCell ⟨wr.heap.size, 1, none⟩ (.string ⟨#[108, 105, 118, 101]⟩)).setCell ⟨wr.heap.size, 2, none⟩ (.int .i64 r2.al.st)).setCell ⟨wr.heap.size, 3, none⟩ (.int .i64 r2.al.ca)).setCell ⟨wr.heap.size, 4, none⟩ (.int .i64 r2.al.we)).setCell ⟨wr.heap.size, 5, none⟩ (.slice A2 3 c2)).setCell ⟨wr.heap.size, 6, none⟩ (.int .i64 r2.at_)).setCell ⟨wr.heap.size, 7, none⟩ (.int .i64 r2.since)) :=
  ⟨wr.heap.size, A2, c2, rfl, rfl, hq.set8 _ _ _ _ _ _ _ _, (own8 hs (by simp) _ _ _ _ _ _ _ _).base (by simp), below_set8 hb (Nat.le_refl _) _ _ _ _ _ _ _ _, Nat.ne_of_lt hn⟩
theorem pick_err (id : ByteArray) (x : Al) : (pickS x id).2 = if idL id = false then 4 else 0 := by
  unfold pickS
  split
  · rfl
  · split <;> rfl
set_option maxHeartbeats 16000000 in
set_option maxRecDepth 10000 in
theorem TopShifts_any (w0 w1 w2 bk : Int) (h0 : 0 ≤ w0 ∧ w0 ≤ 65535) (h1 : 0 ≤ w1 ∧ w1 ≤ 65535) (h2 : 0 ≤ w2 ∧ w2 ≤ 65535) (h3 : 0 ≤ bk ∧ bk ≤ 255) (id : ByteArray) (hid : id.size ≤ 9223372036854775807)
    (L : Option Addr) (c : Nat) (l : List (Bool × Int)) (hll : l.length ≤ 9223372036854775807) (ht : ∀ p ∈ l, 0 ≤ p.2 ∧ p.2 ≤ 255) (w : World) (hL : Reads w w.heap.size 2 L l.length (l.flatMap btc))
    (hd : ∀ W, Below w.heap.size w W → Calls Tryz.prog 5 #[] W fun e w' => e = .returned (.bool true) ∧ Below W.heap.size W w') :
    Calls Tryz.prog 3 #[.agg #[.int .u16 w0, .int .u16 w1, .int .u16 w2], .int .u8 bk, .string id, .slice L l.length c] w fun e w' => e = .returned (.bool true) ∧ Below w.heap.size w w' := by
  have hg := sgOf_ok w0 w1 w2 bk
  have hb2 : Below w.heap.size w ((w.alloc (.cells #[.int .u16 w0, .int .u16 w1, .int .u16 w2] 23)).alloc (.cells #[.int .i64 (w0 % 300 + 1), .int .i64 (bk % 10), .int .i64 (w0 % 300 + 1 + w1 % 300 + 1), .int .i64 (w2 % 10), .int .i64 1000, .int .i64 1] 26)) := (al_new w _).alloc (by simp) _
  have b1 : Blk ((w.alloc (.cells #[.int .u16 w0, .int .u16 w1, .int .u16 w2] 23)).alloc (.cells #[.int .i64 (w0 % 300 + 1), .int .i64 (bk % 10), .int .i64 (w0 % 300 + 1 + w1 % 300 + 1), .int .i64 (w2 % 10), .int .i64 1000, .int .i64 1] 26)) (w.heap.size + 1) 26 #[.int .i64 (w0 % 300 + 1), .int .i64 (bk % 10), .int .i64 (w0 % 300 + 1 + w1 % 300 + 1), .int .i64 (w2 % 10), .int .i64 1000, .int .i64 1] := Blk.new1 w _ _ _
  have hs2 : StgR ((w.alloc (.cells #[.int .u16 w0, .int .u16 w1, .int .u16 w2] 23)).alloc (.cells #[.int .i64 (w0 % 300 + 1), .int .i64 (bk % 10), .int .i64 (w0 % 300 + 1 + w1 % 300 + 1), .int .i64 (w2 % 10), .int .i64 1000, .int .i64 1] 26)) (some ⟨w.heap.size + 1, 0, none⟩) (sgOf w0 w1 w2 bk) := ⟨rfl, fun _ => ⟨w.heap.size + 1, 0, rfl, b1.lt, fun j u hu => by rw [Nat.zero_add, b1.cell j]; rw [← hu]; rcases j with _ | _ | _ | _ | _ | _ | j <;> rfl⟩⟩
  have HB2 := Lib.hid hb2
  have HST := Lib.hid (Start_any (sgOf w0 w1 w2 bk) hg (some ⟨w.heap.size + 1, 0, none⟩) 3 ((w.alloc (.cells #[.int .u16 w0, .int .u16 w1, .int .u16 w2] 23)).alloc (.cells #[.int .i64 (w0 % 300 + 1), .int .i64 (bk % 10), .int .i64 (w0 % 300 + 1 + w1 % 300 + 1), .int .i64 (w2 % 10), .int .i64 1000, .int .i64 1] 26)) hs2)
  have HL := Lib.hid hL
  have HT := Lib.hid ht
  have HD := Lib.hid hd
  have HG := Lib.hid hg
  have HBAD := Lib.hid (show ∀ a : Al, pickS a ⟨#[97, 32, 98]⟩ = (0, 4) from fun a => by unfold pickS; rw [if_pos ab_bad])
  clear hb2 hs2 b1 hL ht hd hg
  go_enter Tryz.func3, Tryz.ntmps3
  go_upto_region 4 with fail
  generalize ((w.alloc (.cells #[.int .u16 w0, .int .u16 w1, .int .u16 w2] 23)).alloc (.cells #[.int .i64 (w0 % 300 + 1), .int .i64 (bk % 10), .int .i64 (w0 % 300 + 1 + w1 % 300 + 1), .int .i64 (w2 % 10), .int .i64 1000, .int .i64 1] 26)) = v2 at *
  generalize sgOf w0 w1 w2 bk = g at *
  go_wp2_with fail
  refine HST.out.mono ?_
  rintro e v3 ⟨A, c3, rfl, hs, hb⟩
  have HB3 := Lib.hid (HB2.out.trans (hb.mono HB2.out.size))
  have HS3 := Lib.hid hs.rd
  clear hb hs HST
  go_upto_region 5 with fail
  have hb4 : Below v3.heap.size v3 (v3.alloc (.cells #[.int .i64 1, .string ⟨#[108, 105, 118, 101]⟩, .int .i64 1, .int .i64 2, .int .i64 (wtS g 0), .slice A 3 c3, .int .i64 0, .int .i64 0] 32)) := al_new v3 _
  have b4 : Blk (v3.alloc (.cells #[.int .i64 1, .string ⟨#[108, 105, 118, 101]⟩, .int .i64 1, .int .i64 2, .int .i64 (wtS g 0), .slice A 3 c3, .int .i64 0, .int .i64 0] 32)) v3.heap.size 32 #[.int .i64 1, .string ⟨#[108, 105, 118, 101]⟩, .int .i64 1, .int .i64 2, .int .i64 (wtS g 0), .slice A 3 c3, .int .i64 0, .int .i64 0] := Blk.new v3 _ _
  have HB4 := Lib.hid (HB3.out.trans (hb4.mono HB3.out.size))
  have HS4 := Lib.hid (HS3.out.on hb4)
  have hHw : w.heap.size ≤ v3.heap.size := HB3.out.size
  clear hb4 HB3 HS3
  generalize (v3.alloc (.cells #[.int .i64 1, .string ⟨#[108, 105, 118, 101]⟩, .int .i64 1, .int .i64 2, .int .i64 (wtS g 0), .slice A 3 c3, .int .i64 0, .int .i64 0] 32)) = v4 at *
  generalize v3.heap.size = H at *
  by_cases h40 : 40 < l.length
  · have d1 : decide (40 < l.length) = true := decide_eq_true h40
    have d2 : decide ((40 : Int) < (l.length : Int)) = true := decide_eq_true (by omega)
    have HD4 := Lib.hid (HD.out v4 HB4.out)
    clear h40
    go_wp2_with fail
    refine HD4.out.mono ?_
    rintro e v5 ⟨rfl, hb⟩
    have HB5 := Lib.hid (HB4.out.trans (hb.mono HB4.out.size))
    clear hb
    go_wp2_with fail
    go_ret
    exact ⟨rfl, HB5.out⟩
  · have d1 : decide (40 < l.length) = false := decide_eq_false h40
    have d2 : decide ((40 : Int) < (l.length : Int)) = false := decide_eq_false (by omega)
    have HP1 := Lib.hid (show ∀ W, Calls Tryz.prog 6 #[.agg #[.string ⟨#[108, 105, 118, 101]⟩, .int .i64 1, .int .i64 2, .int .i64 (wtS g 0)], .string ⟨#[97, 32, 98]⟩] W fun e w' => e = .returned (.tuple #[.int .i64 0, .int .i64 4]) ∧ Below W.heap.size W w' from fun W => by
      have h := Pick_any ⟨1, 2, wtS g 0⟩ (al_ok HG.out 0) ⟨#[97, 32, 98]⟩ (by decide) W
      rw [HBAD.out] at h
      exact h)
    obtain ⟨f, hf, hf2⟩ : ∃ f : Int, (∀ x, (pickS x id).2 = f) ∧ (f = 0 ∨ f = 4) := ⟨if idL id = false then 4 else 0, pick_err id, by split <;> simp⟩
    have HF := Lib.hid (And.intro hf hf2)
    have HPK := Lib.hid (show ∀ a : Al, a.ok → ∀ W, Calls Tryz.prog 6 #[.agg #[.string ⟨#[108, 105, 118, 101]⟩, .int .i64 a.st, .int .i64 a.ca, .int .i64 a.we], .string id] W fun e w' => e = .returned (.tuple #[.int .i64 (pickS a id).1, .int .i64 f]) ∧ Below W.heap.size W w' from fun a ha W => by
      have h := Pick_any a ha id hid W
      unfold tup2 at h
      rw [hf a] at h
      exact h)
    have HP2 := Lib.hid (HPK.out ⟨1, 2, wtS g 0⟩ (al_ok HG.out 0))
    have HLN := Lib.hid h40
    clear h40 hf hf2 hid
    have e1 : v4.cell? ⟨H, 1, none⟩ = some (.string ⟨#[108, 105, 118, 101]⟩) := b4.cell 1
    have e2 : v4.cell? ⟨H, 2, none⟩ = some (.int .i64 1) := b4.cell 2
    have e3 : v4.cell? ⟨H, 3, none⟩ = some (.int .i64 2) := b4.cell 3
    have e4 : v4.cell? ⟨H, 4, none⟩ = some (.int .i64 (wtS g 0)) := b4.cell 4
    go_wp2_with fail
    refine (HP1.out _).mono ?_
    rintro e v5 ⟨rfl, hb⟩
    have b5 := b4.on hb
    have HB5 := Lib.hid (HB4.out.trans (hb.mono HB4.out.size))
    have HS5 := Lib.hid (HS4.out.on hb)
    clear hb b4 d1 d2 e1 e2 e3 e4 HS4 HB4
    have e1 : v5.cell? ⟨H, 1, none⟩ = some (.string ⟨#[108, 105, 118, 101]⟩) := b5.cell 1
    have e2 : v5.cell? ⟨H, 2, none⟩ = some (.int .i64 1) := b5.cell 2
    have e3 : v5.cell? ⟨H, 3, none⟩ = some (.int .i64 2) := b5.cell 3
    have e4 : v5.cell? ⟨H, 4, none⟩ = some (.int .i64 (wtS g 0)) := b5.cell 4
    go_wp2_with fail
    refine (HP2.out _).mono ?_
    rintro e v6 ⟨rfl, hb⟩
    have HBK := Lib.hid (b5.on hb)
    have HB6 := Lib.hid (HB5.out.trans (hb.mono HB5.out.size))
    have HS6 := Lib.hid (HS5.out.on hb)
    clear hb b5 e1 e2 e3 e4 HS5 HB5
    generalize hp0 : (pickS ⟨1, 2, wtS g 0⟩ id).1 = p0 at *
    have HP0 := Lib.hid hp0
    clear hp0
    go_wp2_with fail
    go_loopw [16, 18, 19] (fun v16 v18 v19 wx => ∃ (i : Nat) (now : Int) (r : Ro) (A : Option Addr) (c : Nat), i ≤ l.length ∧ v19 = .int .i64 i ∧ v18 = .int .i64 now ∧ 0 ≤ now ∧ now ≤ 255 * i ∧ v16 = .int .i64 (pickS r.al id).1 ∧ Blk wx H 32 #[.int .i64 r.sta, .string ⟨#[108, 105, 118, 101]⟩, .int .i64 r.al.st, .int .i64 r.al.ca, .int .i64 r.al.we, .slice A 3 c, .int .i64 r.at_, .int .i64 r.since] ∧ StgR wx A g ∧ Below w.heap.size w wx ∧ ((∃ (k : Nat) (s : Int), r = ⟨1, ⟨1, 2, wtS g k⟩, (k : Int), s⟩ ∧ k < 3 ∧ 0 ≤ s ∧ s ≤ now) ∨ r.sta = 3 ∨ r.sta = 2)) (fun _ _ v19 _ => l.length - (intOf v19).toNat)
    case atStart => exact ⟨0, 0, ⟨1, ⟨1, 2, wtS g 0⟩, (0 : Nat), 0⟩, A, c3, Nat.zero_le _, rfl, rfl, by omega, by omega, by rw [← HP0.out], HBK.out, HS6.out, HB6.out, .inl ⟨0, 0, rfl, by decide, by omega, by omega⟩⟩
    case round =>
      obtain ⟨i, now, r, A1, c1, hi, rfl, rfl, hn0, hn1, rfl, hbk, hst, hbl, hfm⟩ := hrel
      by_cases hlt : i < l.length
      · obtain ⟨⟨sick, tk⟩, hx⟩ : ∃ x, l[i]? = some x := ⟨_, List.getElem?_eq_getElem hlt⟩
        obtain ⟨hx0, hx1⟩ := HT.out _ (List.mem_of_getElem? hx)
        obtain ⟨b, o, rfl, hlb, hc⟩ := (Reads.below HL.out hbl).elem btc_len hx
        have r0 : wr.cell? ⟨b, o + i * 2, none⟩ = some (.bool sick) := hc 0 _ rfl
        have r1 : wr.cell? ⟨b, o + i * 2 + 1, none⟩ = some (.int .u8 tk) := hc 1 _ rfl
        have hi40 : i < 40 := by have := HLN.out; omega
        have hiI : (i : Int) < (l.length : Int) := by omega
        have hi0 : (0 : Int) ≤ i := by omega
        simp only at hx0 hx1
        obtain ⟨m, hm⟩ : ∃ m : Int, m = now + tk := ⟨_, rfl⟩
        have hkm := w64 (x := now + tk) (by omega) (by omega)
        have wk1 : IntKind.i64.wrap (now + tk) = m := by rw [hkm.1, hm]
        have wk2 : wrap64 (now + tk) = m := by rw [hkm.2, hm]
        have wt0 := (w64 (x := tk) (by omega) (by omega)).2
        have hm0 : 0 ≤ m := by omega
        have hmn : now ≤ m := by omega
        have hm1 : m ≤ 255 * (i + 1) := by omega
        have HM := Lib.hid (And.intro hm0 (And.intro hmn hm1))
        have HI := Lib.hid (And.intro hlt hi40)
        have HBL := Lib.hid hbl
        have HBK1 := Lib.hid hbk
        have HBW := Lib.hid hbk.lt
        have HW1 := Lib.hid (w64 (x := (i : Int) + 1) (by omega) (by omega))
        clear hc hx hkm hm hx0 hx1 hm0 hmn hm1 hn0 hn1 hi hi40 hbl
        rcases hfm with ⟨k, s, rfl, hk, hs0, hs1⟩ | hsta | hsta
        · have HX := Lib.hid (show ∀ W, StgR W A1 g → Calls Tryz.prog 7 #[.agg #[.int .i64 1, .string ⟨#[108, 105, 118, 101]⟩, .int .i64 1, .int .i64 2, .int .i64 (wtS g k), .slice A1 3 c1, .int .i64 (k : Int), .int .i64 s], .bool (!sick), .int .i64 m] W (NxPost W g (nextR g k s (!sick) m)) from fun W h => Next_any g HG.out k hk s m (!sick) hs0 (by have := HM.out; omega) (by have := HM.out; have := HI.out; omega) A1 c1 W h)
          have HST1 := Lib.hid hst
          have HZB := Lib.hid (show Below wr.heap.size wr (wr.alloc (.cells #[.int .i64 0, .string ⟨#[]⟩, .int .i64 0, .int .i64 0, .int .i64 0, .slice none 0 0, .int .i64 0, .int .i64 0] 32)).drew from (al_new wr _).drew)
          have HZC := Lib.hid (show Blk (wr.alloc (.cells #[.int .i64 0, .string ⟨#[]⟩, .int .i64 0, .int .i64 0, .int .i64 0, .slice none 0 0, .int .i64 0, .int .i64 0] 32)).drew wr.heap.size 32 #[.int .i64 0, .string ⟨#[]⟩, .int .i64 0, .int .i64 0, .int .i64 0, .slice none 0 0, .int .i64 0, .int .i64 0] from Blk.new wr _ _)
          have HSH := Lib.hid (shift_law HG.out k hk s (!sick) m id)
          have HNF := Lib.hid (nextR_form g k hk s hs0 (!sick) m (by have := HM.out; omega))
          have HNO := Lib.hid (nextR_ok HG.out k s (!sick) m)
          have e0 : wr.cell? ⟨H, 0, none⟩ = some (.int .i64 1) := hbk.cell 0
          have ze0 : wr.frozen? ⟨H, 0, none⟩ = false := hbk.frozen 0
          have e1 : wr.cell? ⟨H, 1, none⟩ = some (.string ⟨#[108, 105, 118, 101]⟩) := hbk.cell 1
          have ze1 : wr.frozen? ⟨H, 1, none⟩ = false := hbk.frozen 1
          have e2 : wr.cell? ⟨H, 2, none⟩ = some (.int .i64 1) := hbk.cell 2
          have ze2 : wr.frozen? ⟨H, 2, none⟩ = false := hbk.frozen 2
          have e3 : wr.cell? ⟨H, 3, none⟩ = some (.int .i64 2) := hbk.cell 3
          have ze3 : wr.frozen? ⟨H, 3, none⟩ = false := hbk.frozen 3
          have e4 : wr.cell? ⟨H, 4, none⟩ = some (.int .i64 (wtS g k)) := hbk.cell 4
          have ze4 : wr.frozen? ⟨H, 4, none⟩ = false := hbk.frozen 4
          have e5 : wr.cell? ⟨H, 5, none⟩ = some (.slice A1 3 c1) := hbk.cell 5
          have ze5 : wr.frozen? ⟨H, 5, none⟩ = false := hbk.frozen 5
          have e6 : wr.cell? ⟨H, 6, none⟩ = some (.int .i64 (k : Int)) := hbk.cell 6
          have ze6 : wr.frozen? ⟨H, 6, none⟩ = false := hbk.frozen 6
          have e7 : wr.cell? ⟨H, 7, none⟩ = some (.int .i64 s) := hbk.cell 7
          have ze7 : wr.frozen? ⟨H, 7, none⟩ = false := hbk.frozen 7
          have y0 : (wr.alloc (.cells #[.int .i64 0, .string ⟨#[]⟩, .int .i64 0, .int .i64 0, .int .i64 0, .slice none 0 0, .int .i64 0, .int .i64 0] 32)).cell? ⟨b, o + i * 2, none⟩ = some (.bool sick) := ((al_new wr _).cell (p := ⟨b, o + i * 2, none⟩) (block_lt_of_cell r0)).trans r0
          have HZH := Lib.hid (hbk.alloc (.cells #[.int .i64 0, .string ⟨#[]⟩, .int .i64 0, .int .i64 0, .int .i64 0, .slice none 0 0, .int .i64 0, .int .i64 0] 32))
          have y10 : (wr.alloc (.cells #[.int .i64 0, .string ⟨#[]⟩, .int .i64 0, .int .i64 0, .int .i64 0, .slice none 0 0, .int .i64 0, .int .i64 0] 32)).cell? ⟨H, 0, none⟩ = some (.int .i64 1) := HZH.out.cell 0
          have y11 : (wr.alloc (.cells #[.int .i64 0, .string ⟨#[]⟩, .int .i64 0, .int .i64 0, .int .i64 0, .slice none 0 0, .int .i64 0, .int .i64 0] 32)).cell? ⟨H, 1, none⟩ = some (.string ⟨#[108, 105, 118, 101]⟩) := HZH.out.cell 1
          have y12 : (wr.alloc (.cells #[.int .i64 0, .string ⟨#[]⟩, .int .i64 0, .int .i64 0, .int .i64 0, .slice none 0 0, .int .i64 0, .int .i64 0] 32)).cell? ⟨H, 2, none⟩ = some (.int .i64 1) := HZH.out.cell 2
          have y13 : (wr.alloc (.cells #[.int .i64 0, .string ⟨#[]⟩, .int .i64 0, .int .i64 0, .int .i64 0, .slice none 0 0, .int .i64 0, .int .i64 0] 32)).cell? ⟨H, 3, none⟩ = some (.int .i64 2) := HZH.out.cell 3
          have y14 : (wr.alloc (.cells #[.int .i64 0, .string ⟨#[]⟩, .int .i64 0, .int .i64 0, .int .i64 0, .slice none 0 0, .int .i64 0, .int .i64 0] 32)).cell? ⟨H, 4, none⟩ = some (.int .i64 (wtS g k)) := HZH.out.cell 4
          have y15 : (wr.alloc (.cells #[.int .i64 0, .string ⟨#[]⟩, .int .i64 0, .int .i64 0, .int .i64 0, .slice none 0 0, .int .i64 0, .int .i64 0] 32)).cell? ⟨H, 5, none⟩ = some (.slice A1 3 c1) := HZH.out.cell 5
          have y16 : (wr.alloc (.cells #[.int .i64 0, .string ⟨#[]⟩, .int .i64 0, .int .i64 0, .int .i64 0, .slice none 0 0, .int .i64 0, .int .i64 0] 32)).cell? ⟨H, 6, none⟩ = some (.int .i64 (k : Int)) := HZH.out.cell 6
          have y17 : (wr.alloc (.cells #[.int .i64 0, .string ⟨#[]⟩, .int .i64 0, .int .i64 0, .int .i64 0, .slice none 0 0, .int .i64 0, .int .i64 0] 32)).cell? ⟨H, 7, none⟩ = some (.int .i64 s) := HZH.out.cell 7
          clear hbk hs0 hs1 hk hst
          generalize nextR g k s (!sick) m = r2 at *
          go_upto_region 15 with fail
          go_cut [20, 21] from 80 to 154 (fun v20 v21 wx => RgQ g r2 H wr v20 v21 wx)
          case rest =>
            obtain ⟨H2, A2, c2, rfl, rfl, hb2, hs2, hbl2, hne⟩ := hcut
            have bH := HBK1.out.on hbl2
            have HS7 := Lib.hid hs2
            have HB7 := Lib.hid (HBL.out.trans (hbl2.mono HBL.out.size))
            have HSH2 := Lib.hid HSH.out
            clear hs2 hbl2 HX HST1 HZB HZC HZH y0 r0 r1
            clear e0 ze0 y10 e1 ze1 y11 e2 ze2 y12 e3 ze3 y13 e4 ze4 y14 e5 ze5 y15 e6 ze6 y16 e7 ze7 y17
            have e0 : wc.cell? ⟨H2, 0, none⟩ = some (.int .i64 r2.sta) := hb2.cell 0
            have e1 : wc.cell? ⟨H2, 1, none⟩ = some (.string ⟨#[108, 105, 118, 101]⟩) := hb2.cell 1
            have e2 : wc.cell? ⟨H2, 2, none⟩ = some (.int .i64 r2.al.st) := hb2.cell 2
            have e3 : wc.cell? ⟨H2, 3, none⟩ = some (.int .i64 r2.al.ca) := hb2.cell 3
            have e4 : wc.cell? ⟨H2, 4, none⟩ = some (.int .i64 r2.al.we) := hb2.cell 4
            have e5 : wc.cell? ⟨H2, 5, none⟩ = some (.slice A2 3 c2) := hb2.cell 5
            have e6 : wc.cell? ⟨H2, 6, none⟩ = some (.int .i64 r2.at_) := hb2.cell 6
            have e7 : wc.cell? ⟨H2, 7, none⟩ = some (.int .i64 r2.since) := hb2.cell 7
            have g0 : wc.cell? ⟨H, 0, none⟩ = some (.int .i64 1) := bH.cell 0
            have zg0 : wc.frozen? ⟨H, 0, none⟩ = false := bH.frozen 0
            have g1 : wc.cell? ⟨H, 1, none⟩ = some (.string ⟨#[108, 105, 118, 101]⟩) := bH.cell 1
            have zg1 : wc.frozen? ⟨H, 1, none⟩ = false := bH.frozen 1
            have g2 : wc.cell? ⟨H, 2, none⟩ = some (.int .i64 1) := bH.cell 2
            have zg2 : wc.frozen? ⟨H, 2, none⟩ = false := bH.frozen 2
            have g3 : wc.cell? ⟨H, 3, none⟩ = some (.int .i64 2) := bH.cell 3
            have zg3 : wc.frozen? ⟨H, 3, none⟩ = false := bH.frozen 3
            have g4 : wc.cell? ⟨H, 4, none⟩ = some (.int .i64 (wtS g k)) := bH.cell 4
            have zg4 : wc.frozen? ⟨H, 4, none⟩ = false := bH.frozen 4
            have g5 : wc.cell? ⟨H, 5, none⟩ = some (.slice A1 3 c1) := bH.cell 5
            have zg5 : wc.frozen? ⟨H, 5, none⟩ = false := bH.frozen 5
            have g6 : wc.cell? ⟨H, 6, none⟩ = some (.int .i64 (k : Int)) := bH.cell 6
            have zg6 : wc.frozen? ⟨H, 6, none⟩ = false := bH.frozen 6
            have g7 : wc.cell? ⟨H, 7, none⟩ = some (.int .i64 s) := bH.cell 7
            have zg7 : wc.frozen? ⟨H, 7, none⟩ = false := bH.frozen 7
            clear hb2
            go_upto_region 19 with fail
            have HK8 := Lib.hid (bH.set8 (.int .i64 r2.sta) (.string ⟨#[108, 105, 118, 101]⟩) (.int .i64 r2.al.st) (.int .i64 r2.al.ca) (.int .i64 r2.al.we) (.slice A2 3 c2) (.int .i64 r2.at_) (.int .i64 r2.since))
            have HS8 := Lib.hid (own8 HS7.out HBW.out (.int .i64 r2.sta) (.string ⟨#[108, 105, 118, 101]⟩) (.int .i64 r2.al.st) (.int .i64 r2.al.ca) (.int .i64 r2.al.we) (.slice A2 3 c2) (.int .i64 r2.at_) (.int .i64 r2.since))
            have HB8 := Lib.hid (below_set8 HB7.out hHw (.int .i64 r2.sta) (.string ⟨#[108, 105, 118, 101]⟩) (.int .i64 r2.al.st) (.int .i64 r2.al.ca) (.int .i64 r2.al.we) (.slice A2 3 c2) (.int .i64 r2.at_) (.int .i64 r2.since))
            clear bH HS7 HB7 e0 g0 zg0 e1 g1 zg1 e2 g2 zg2 e3 g3 zg3 e4 g4 zg4 e5 g5 zg5 e6 g6 zg6 e7 g7 zg7
            generalize ((((((((wc.setCell ⟨H, 0, none⟩ (.int .i64 r2.sta)).setCell ⟨H, 1, none⟩ (.string ⟨#[108, 105, 118, 101]⟩)).setCell ⟨H, 2, none⟩ (.int .i64 r2.al.st)).setCell ⟨H, 3, none⟩ (.int .i64 r2.al.ca)).setCell ⟨H, 4, none⟩ (.int .i64 r2.al.we)).setCell ⟨H, 5, none⟩ (.slice A2 3 c2)).setCell ⟨H, 6, none⟩ (.int .i64 r2.at_)).setCell ⟨H, 7, none⟩ (.int .i64 r2.since)) = w8 at *
            have HPN := Lib.hid (HPK.out r2.al HNO.out)
            have e1 : w8.cell? ⟨H, 1, none⟩ = some (.string ⟨#[108, 105, 118, 101]⟩) := HK8.out.cell 1
            have e2 : w8.cell? ⟨H, 2, none⟩ = some (.int .i64 r2.al.st) := HK8.out.cell 2
            have e3 : w8.cell? ⟨H, 3, none⟩ = some (.int .i64 r2.al.ca) := HK8.out.cell 3
            have e4 : w8.cell? ⟨H, 4, none⟩ = some (.int .i64 r2.al.we) := HK8.out.cell 4
            generalize hv : (pickS r2.al id).1 = v at *
            generalize (pickS ⟨1, 2, wtS g k⟩ id).1 = u at *
            go_wp2_with fail
            refine (HPN.out _).mono ?_
            rintro e w9 ⟨rfl, hb⟩
            have HK9 := Lib.hid (HK8.out.on hb)
            have HS9 := Lib.hid (HS8.out.rd.on hb)
            have HB9 := Lib.hid (HB8.out.trans (hb.mono HB8.out.size))
            have HV := Lib.hid hv
            obtain ⟨hf, hf2⟩ := HF.out
            have hsh := HSH2.out
            rw [hf, hf] at hsh
            obtain ⟨-, hsh⟩ := hsh
            clear hb hv hf hf2 HK8 HS8 HB8 e1 e2 e3 e4 HPN HPK HP1 HP2 HSH HSH2 HNO HBK HB6 HS6 HP0
            have HM0 := Lib.hid HM.out.1
            have HR1 := Lib.hid (show i + 1 ≤ l.length from HI.out.1)
            have HR2 := Lib.hid (show m ≤ 255 * ((i + 1 : Nat) : Int) from HM.out.2.2)
            have HR3 := Lib.hid (show l.length - (i + 1) < l.length - i from by have := HI.out.1; omega)
            clear HI HM HLN hHw HD HBAD HG HT HL HF HBK1 HBW HBL
            go_upto_region 20 with fail
            go_cut [153] from 119 to 152 (fun v153 wx => v153 = .bool false ∧ wx = w9)
            case rest =>
              obtain ⟨rfl, rfl⟩ := hcut
              obtain ⟨wk3, wk4⟩ := HW1.out
              go_wp2_with fail
              go_roundw
              case rel => clear wk3 wk4; exact ⟨i + 1, m, r2, A2, c2, HR1.out, by first | rfl | exact congrArg (Value.int .i64) HW1.out.2, rfl, HM0.out, HR2.out, by rw [HV.out], HK9.out, HS9.out, HB9.out, HNF.out⟩
              case measure =>
                clear wk3 wk4
                simp only [intOf]
                first | exact HR3.out | (rw [HW1.out.2]; exact HR3.out)
            case first =>
              clear HW1 HR1 HR2 HR3 HS9 HB9 HNF HM0
              rcases hsh with rfl | ⟨rfl, ⟨hsta, huv⟩ | ⟨hsta, hv1⟩ | ⟨hsta, hv1⟩⟩
              · clear HK9 HV
                go_wp2_with fail
                go_meet
                exact ⟨rfl, rfl⟩
              · have e0 : w9.cell? ⟨H, 0, none⟩ = some (.int .i64 1) := by rw [← hsta]; exact HK9.out.cell 0
                have dv : decide (v < u) = false := decide_eq_false (by omega)
                clear hsta HK9 HV huv
                go_wp2_with fail
                go_meet
                exact ⟨rfl, rfl⟩
              · have e0 : w9.cell? ⟨H, 0, none⟩ = some (.int .i64 3) := by rw [← hsta]; exact HK9.out.cell 0
                clear hsta HK9 HV
                subst hv1
                go_wp2_with fail
                go_meet
                exact ⟨rfl, rfl⟩
              · have e0 : w9.cell? ⟨H, 0, none⟩ = some (.int .i64 2) := by rw [← hsta]; exact HK9.out.cell 0
                clear hsta HK9 HV
                subst hv1
                go_wp2_with fail
                go_meet
                exact ⟨rfl, rfl⟩
          case first =>
            go_region_law (first
              | (go_simp; go_at_call 7; ((with_reducible refine (HX.out wr.drew (HST1.out.on (below_drew' wr))).mono ?_); rintro e wn ⟨A2, c2, rfl, hs, hbn⟩; have HBN := Lib.hid (show Below wr.heap.size wr wn from (below_drew' wr).trans hbn); have HSQ := Lib.hid hs; clear hs hbn))
              | (go_simp; go_at_call 7; ((with_reducible refine (HX.out (wr.alloc (.cells #[.int .i64 0, .string ⟨#[]⟩, .int .i64 0, .int .i64 0, .int .i64 0, .slice none 0 0, .int .i64 0, .int .i64 0] 32)).drew (HST1.out.on HZB.out)).mono ?_); rintro e wn ⟨A2, c2, rfl, hs, hbn⟩; have HBN := Lib.hid (show Below wr.heap.size wr wn from HZB.out.trans (hbn.mono HZB.out.size)); have HSQ := Lib.hid hs; have HQ := Lib.hid (HZC.out.on hbn); have q0 : wn.cell? ⟨wr.heap.size, 0, none⟩ = some (.int .i64 0) := HQ.out.cell 0; have f0 : wn.frozen? ⟨wr.heap.size, 0, none⟩ = false := HQ.out.frozen 0; have q1 : wn.cell? ⟨wr.heap.size, 1, none⟩ = some (.string ⟨#[]⟩) := HQ.out.cell 1; have f1 : wn.frozen? ⟨wr.heap.size, 1, none⟩ = false := HQ.out.frozen 1; have q2 : wn.cell? ⟨wr.heap.size, 2, none⟩ = some (.int .i64 0) := HQ.out.cell 2; have f2 : wn.frozen? ⟨wr.heap.size, 2, none⟩ = false := HQ.out.frozen 2; have q3 : wn.cell? ⟨wr.heap.size, 3, none⟩ = some (.int .i64 0) := HQ.out.cell 3; have f3 : wn.frozen? ⟨wr.heap.size, 3, none⟩ = false := HQ.out.frozen 3; have q4 : wn.cell? ⟨wr.heap.size, 4, none⟩ = some (.int .i64 0) := HQ.out.cell 4; have f4 : wn.frozen? ⟨wr.heap.size, 4, none⟩ = false := HQ.out.frozen 4; have q5 : wn.cell? ⟨wr.heap.size, 5, none⟩ = some (.slice none 0 0) := HQ.out.cell 5; have f5 : wn.frozen? ⟨wr.heap.size, 5, none⟩ = false := HQ.out.frozen 5; have q6 : wn.cell? ⟨wr.heap.size, 6, none⟩ = some (.int .i64 0) := HQ.out.cell 6; have f6 : wn.frozen? ⟨wr.heap.size, 6, none⟩ = false := HQ.out.frozen 6; have q7 : wn.cell? ⟨wr.heap.size, 7, none⟩ = some (.int .i64 0) := HQ.out.cell 7; have f7 : wn.frozen? ⟨wr.heap.size, 7, none⟩ = false := HQ.out.frozen 7; clear hs hbn)))
            all_goals
              have hsz : wr.heap.size ≤ wn.heap.size := HBN.out.size
              have HNE := Lib.hid (Nat.ne_of_lt (Nat.lt_of_lt_of_le HBW.out hsz))
              go_wp2_with fail
              go_meet
              first
                | (have hh := RgQ.b (r2 := r2) (g := g) (H := H) HQ.out HSQ.out HBN.out HBW.out; refine hh)
                | (have hh := RgQ.a (r2 := r2) (g := g) (H := H) HSQ.out HBN.out HNE.out; refine hh)
        · have e0 : wr.cell? ⟨H, 0, none⟩ = some (.int .i64 3) := by rw [← hsta]; exact hbk.cell 0
          clear hbk hsta
          have HDE := Lib.hid (HD.out wr HBL.out)
          go_wp2_with fail
          refine HDE.out.mono ?_
          rintro e v7 ⟨rfl, hb⟩
          have HB7 := Lib.hid (HBL.out.trans (hb.mono HBL.out.size))
          clear hb
          go_wp2_with fail
          go_ret
          exact ⟨rfl, HB7.out⟩
        · have e0 : wr.cell? ⟨H, 0, none⟩ = some (.int .i64 2) := by rw [← hsta]; exact hbk.cell 0
          clear hbk hsta
          have HDE := Lib.hid (HD.out wr HBL.out)
          go_wp2_with fail
          refine HDE.out.mono ?_
          rintro e v7 ⟨rfl, hb⟩
          have HB7 := Lib.hid (HBL.out.trans (hb.mono HBL.out.size))
          clear hb
          go_wp2_with fail
          go_ret
          exact ⟨rfl, HB7.out⟩
      · obtain rfl : i = l.length := by omega
        have HBL := Lib.hid hbl
        clear hbl hbk
        have HDE := Lib.hid (HD.out wr HBL.out)
        go_wp2_with fail
        refine HDE.out.mono ?_
        rintro e v7 ⟨rfl, hb⟩
        have HB7 := Lib.hid (HBL.out.trans (hb.mono HBL.out.size))
        clear hb
        go_wp2_with fail
        go_ret
        exact ⟨rfl, HB7.out⟩
end Go.Proofs.YtfhcngnmgfkdkaaGreatDoor
