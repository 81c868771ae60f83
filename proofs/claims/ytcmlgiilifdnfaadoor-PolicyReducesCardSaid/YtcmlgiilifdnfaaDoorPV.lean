/- The examples of the chapter. -/
import Derived.Test.YtcmlgiilifdnfaaDoorPU
namespace Go.Proofs.YtcmlgiilifdnfaaDoor
open Go.RowKit
open Go.Sort (grow)

theorem blk_strl {w : World} {g : Nat} {t : TypeId} {l : List ByteArray} (h : Blk w g t (svals l).toArray) : StrL w w.heap.size (some ⟨g, 0, none⟩) l := by
  refine ⟨by simp [svals], fun _ => ⟨g, 0, rfl, h.lt, fun j u hu => ?_⟩⟩
  rw [Nat.zero_add, h.cell j]
  simpa using hu
theorem blk_sts2 {w : World} {g : Nat} {a b : St} {P Q P2 Q2 : Option Addr} {c d c2 d2 : Nat} (h : Blk w g 31 #[.bool a.al, .slice P a.ac.length c, .slice Q a.re.length d, .bool b.al, .slice P2 b.ac.length c2, .slice Q2 b.re.length d2])
    (h1 : StrL w w.heap.size P a.ac) (h2 : StrL w w.heap.size Q a.re) (h3 : StrL w w.heap.size P2 b.ac) (h4 : StrL w w.heap.size Q2 b.re) : StsAt w w.heap.size (some ⟨g, 0, none⟩) [a, b] := by
  intro k x hk
  match k, hk with
  | 0, hk =>
    obtain rfl : a = x := Option.some.inj hk
    exact ⟨g, 0, P, c, Q, d, rfl, h.lt, h.cell 0, h.cell 1, h.cell 2, h1, h2⟩
  | 1, hk =>
    obtain rfl : b = x := Option.some.inj hk
    exact ⟨g, 0, P2, c2, Q2, d2, rfl, h.lt, h.cell 3, h.cell 4, h.cell 5, h3, h4⟩
  | k + 2, hk => simp at hk
theorem sz_of {s : St} (h : shB s.ac = true) (h2 : shB s.re = true) : SzSt s := ⟨(shB_Sz h).1, (shB_Sz h2).1, (shB_Sz h).2, (shB_Sz h2).2⟩
theorem sz_aw0 : SzSt aw0 := sz_of (by decide) (by decide)
theorem sz_awS1 : SzSt awS1 := sz_of (by decide) (by decide)
theorem sz_awF : SzSt awF := sz_of (by decide) (by decide)
theorem sz_awL : SzL awL := ⟨by decide, fun s hs => by
  rcases List.mem_cons.1 hs with rfl | hs
  · exact sz_aw0
  · rcases List.mem_cons.1 hs with rfl | hs
    · exact sz_awS1
    · cases hs⟩
theorem sz_aw00 : SzL [aw0, aw0] := ⟨by decide, fun s hs => by
  rcases List.mem_cons.1 hs with rfl | hs
  · exact sz_aw0
  · rcases List.mem_cons.1 hs with rfl | hs
    · exact sz_aw0
    · cases hs⟩
theorem aw_Format (A B : Option Addr) (c d : Nat) (w : World) (h1 : StrL w w.heap.size A awF.ac) (h2 : StrL w w.heap.size B awF.re) (hc : 2 ≤ c) (hd : 2 ≤ d) :
    Calls Tryd.prog 13 #[.agg #[.bool true, .slice A 2 c, .slice B 2 d]] w fun e w' => e = .returned (.tuple #[.string ⟨#[97, 108, 108, 111, 119, 32, 103, 101, 116, 44, 112, 117, 116, 32, 97, 47, 42, 44, 98]⟩, .int .i64 0]) ∧ Below w.heap.size w w' := by
  have := Format_any awF (.agg #[.bool true, .slice A 2 c, .slice B 2 d]) w ⟨A, c, B, d, rfl, h1, h2⟩ sz_awF ⟨A, c, B, d, rfl, hc, hd⟩
  rw [aw_f] at this
  exact this
theorem aw_Parse (m : Int) (w : World) (hm : w.cell? ⟨0, 0, none⟩ = some (.int .i64 m)) :
    Calls Tryd.prog 15 #[.string ⟨#[100, 101, 110, 121, 32, 42, 32, 116, 47, 115, 101, 99, 114, 101, 116, 47, 120]⟩] w fun e w' => (∃ A c B d, e = .returned (.tuple #[.agg #[.bool false, .slice A 1 c, .slice B 1 d], .int .i64 0])) ∧ Below w.heap.size w w' := by
  refine (Parse_any awT m w (by decide) hm).mono ?_
  rintro e w' ⟨v, rfl, hv, -, hb⟩
  rw [aw_p] at hv ⊢
  obtain ⟨A, c, B, d, rfl, -, -⟩ := hv
  exact ⟨⟨A, c, B, d, rfl⟩, hb⟩
theorem aw_Decide (a r : ByteArray) (x : Bool) (i : Int) (h : decS awL a r = (x, i)) (A : Option Addr) (c : Nat) (w : World) (hl : StsAt w w.heap.size A awL) (ha : a.size ≤ 9223372036854775807) (hr : r.size ≤ 9223372036854775807) :
    Calls Tryd.prog 11 #[.slice A 2 c, .string a, .string r] w fun e w' => e = .returned (.agg #[.bool x, .int .i64 i]) ∧ Below w.heap.size w w' := by
  have := Decide_any A c awL a r w hl sz_awL ha hr
  rw [h] at this
  exact this
theorem aw_Reduce (A : Option Addr) (c : Nat) (w : World) (hl : StsAt w w.heap.size A [aw0, aw0]) :
    Calls Tryd.prog 23 #[.slice A 2 c] w fun e w' => (∃ p d, e = .returned (.slice p 1 d)) ∧ Below w.heap.size w w' := by
  refine (Reduce_any A c [aw0, aw0] w hl sz_aw00 (by decide)).mono ?_
  rintro e w' ⟨⟨p, d, rfl, -⟩, hb⟩
  rw [aw_r]
  exact ⟨⟨p, d, rfl⟩, hb⟩
theorem held5_step {w0 w1 w2 : World} {p0 p1 p2 p3 p4 : Addr} {a b c d e : Value} (h : (w1.cell? p0 = some a ∧ w1.cell? p1 = some b ∧ w1.cell? p2 = some c ∧ w1.cell? p3 = some d ∧ w1.cell? p4 = some e) ∧ Below w0.heap.size w0 w1) (hb : Below w1.heap.size w1 w2) : (w2.cell? p0 = some a ∧ w2.cell? p1 = some b ∧ w2.cell? p2 = some c ∧ w2.cell? p3 = some d ∧ w2.cell? p4 = some e) ∧ Below w0.heap.size w0 w2 := by
  obtain ⟨⟨h0, h1, h2, h3, h4⟩, hw⟩ := h
  exact ⟨⟨(hb.cell (block_lt_of_cell h0)).trans h0, (hb.cell (block_lt_of_cell h1)).trans h1, (hb.cell (block_lt_of_cell h2)).trans h2, (hb.cell (block_lt_of_cell h3)).trans h3, (hb.cell (block_lt_of_cell h4)).trans h4⟩, hw.trans (hb.mono hw.size)⟩
theorem held5_b {w0 w1 : World} {p0 p1 p2 p3 p4 : Addr} {a b c d e : Value} (h : (w1.cell? p0 = some a ∧ w1.cell? p1 = some b ∧ w1.cell? p2 = some c ∧ w1.cell? p3 = some d ∧ w1.cell? p4 = some e) ∧ Below w0.heap.size w0 w1) : Below w0.heap.size w0 w1 := h.2
theorem aw_D1 (A : Option Addr) (c : Nat) (w : World) (hl : StsAt w w.heap.size A awL) :
    Calls Tryd.prog 11 #[.slice A 2 c, .string ⟨#[103, 101, 116]⟩, .string ⟨#[97, 47, 120]⟩] w fun e w' => e = .returned (.agg #[.bool false, .int .i64 1]) ∧ Below w.heap.size w w' := aw_Decide bGet bAx _ _ aw_d1 A c w hl (by decide) (by decide)
theorem aw_D2 (A : Option Addr) (c : Nat) (w : World) (hl : StsAt w w.heap.size A awL) :
    Calls Tryd.prog 11 #[.slice A 2 c, .string ⟨#[103, 101, 116]⟩, .string ⟨#[97, 47, 121]⟩] w fun e w' => e = .returned (.agg #[.bool true, .int .i64 0]) ∧ Below w.heap.size w w' := aw_Decide bGet bAy _ _ aw_d2 A c w hl (by decide) (by decide)
theorem aw_D3 (A : Option Addr) (c : Nat) (w : World) (hl : StsAt w w.heap.size A awL) :
    Calls Tryd.prog 11 #[.slice A 2 c, .string ⟨#[112, 117, 116]⟩, .string ⟨#[97, 47, 121]⟩] w fun e w' => e = .returned (.agg #[.bool false, .int .i64 (-1)]) ∧ Below w.heap.size w w' := aw_Decide bPut bAy _ _ aw_d3 A c w hl (by decide) (by decide)
theorem aw_R (P Q : Option Addr) (c d : Nat) (w : World) (h1 : StrL w w.heap.size P aw0.ac) (h2 : StrL w w.heap.size Q aw0.re) :
    Calls Tryd.prog 23 #[.slice (some ⟨w.heap.size, 0, none⟩) 2 2] (w.alloc (.cells #[.bool true, .slice P 1 c, .slice Q 1 d, .bool true, .slice P 1 c, .slice Q 1 d] 31)) fun e w' => (∃ p d, e = .returned (.slice p 1 d)) ∧ Below (w.alloc (.cells #[.bool true, .slice P 1 c, .slice Q 1 d, .bool true, .slice P 1 c, .slice Q 1 d] 31)).heap.size (w.alloc (.cells #[.bool true, .slice P 1 c, .slice Q 1 d, .bool true, .slice P 1 c, .slice Q 1 d] 31)) w' :=
  aw_Reduce _ _ _ (blk_sts2 (a := aw0) (b := aw0) (Blk.new w _ _) (h1.on (size_new _ _)) (h2.on (size_new _ _)) (h1.on (size_new _ _)) (h2.on (size_new _ _)))
set_option maxHeartbeats 8000000 in
set_option maxRecDepth 100000 in
theorem awake_any (m : Int) (w : World) (hm : w.cell? ⟨0, 0, none⟩ = some (.int .i64 m)) :
    Calls Tryd.prog 10 #[] w fun e w' => e = .returned (.bool true) ∧ Below w.heap.size w w' := by
  have HM := Lib.hid hm
  have hw0 := block_lt_of_cell hm
  clear hm
  go_enter Tryd.func10, Tryd.ntmps10
  go_wp2_with fail
  have b1 : Blk ((((((((w).alloc (.cells #[.string ⟨#[103, 101, 116]⟩] 9)).alloc (.cells #[.string ⟨#[97, 47, 42]⟩] 9)).alloc (.cells #[.string ⟨#[42]⟩] 9)).alloc (.cells #[.string ⟨#[97, 47, 120]⟩] 9)).alloc (.cells #[.bool true, .slice (some ⟨w.heap.size, 0, none⟩) 1 1, .slice (some ⟨w.heap.size + 1, 0, none⟩) 1 1, .bool false, .slice (some ⟨w.heap.size + 1 + 1, 0, none⟩) 1 1, .slice (some ⟨w.heap.size + 1 + 1 + 1, 0, none⟩) 1 1] 31)).alloc (.cells #[.string ⟨#[103, 101, 116]⟩, .string ⟨#[112, 117, 116]⟩] 9)).alloc (.cells #[.string ⟨#[97, 47, 42]⟩, .string ⟨#[98]⟩] 9)) (w.heap.size) 9 #[.string ⟨#[103, 101, 116]⟩] := by simpa using ((((((Blk.new (w) 9 #[.string ⟨#[103, 101, 116]⟩]).alloc (.cells #[.string ⟨#[97, 47, 42]⟩] 9)).alloc (.cells #[.string ⟨#[42]⟩] 9)).alloc (.cells #[.string ⟨#[97, 47, 120]⟩] 9)).alloc (.cells #[.bool true, .slice (some ⟨w.heap.size, 0, none⟩) 1 1, .slice (some ⟨w.heap.size + 1, 0, none⟩) 1 1, .bool false, .slice (some ⟨w.heap.size + 1 + 1, 0, none⟩) 1 1, .slice (some ⟨w.heap.size + 1 + 1 + 1, 0, none⟩) 1 1] 31)).alloc (.cells #[.string ⟨#[103, 101, 116]⟩, .string ⟨#[112, 117, 116]⟩] 9)).alloc (.cells #[.string ⟨#[97, 47, 42]⟩, .string ⟨#[98]⟩] 9)
  have b2 : Blk ((((((((w).alloc (.cells #[.string ⟨#[103, 101, 116]⟩] 9)).alloc (.cells #[.string ⟨#[97, 47, 42]⟩] 9)).alloc (.cells #[.string ⟨#[42]⟩] 9)).alloc (.cells #[.string ⟨#[97, 47, 120]⟩] 9)).alloc (.cells #[.bool true, .slice (some ⟨w.heap.size, 0, none⟩) 1 1, .slice (some ⟨w.heap.size + 1, 0, none⟩) 1 1, .bool false, .slice (some ⟨w.heap.size + 1 + 1, 0, none⟩) 1 1, .slice (some ⟨w.heap.size + 1 + 1 + 1, 0, none⟩) 1 1] 31)).alloc (.cells #[.string ⟨#[103, 101, 116]⟩, .string ⟨#[112, 117, 116]⟩] 9)).alloc (.cells #[.string ⟨#[97, 47, 42]⟩, .string ⟨#[98]⟩] 9)) (w.heap.size + 1) 9 #[.string ⟨#[97, 47, 42]⟩] := by simpa using (((((Blk.new ((w).alloc (.cells #[.string ⟨#[103, 101, 116]⟩] 9)) 9 #[.string ⟨#[97, 47, 42]⟩]).alloc (.cells #[.string ⟨#[42]⟩] 9)).alloc (.cells #[.string ⟨#[97, 47, 120]⟩] 9)).alloc (.cells #[.bool true, .slice (some ⟨w.heap.size, 0, none⟩) 1 1, .slice (some ⟨w.heap.size + 1, 0, none⟩) 1 1, .bool false, .slice (some ⟨w.heap.size + 1 + 1, 0, none⟩) 1 1, .slice (some ⟨w.heap.size + 1 + 1 + 1, 0, none⟩) 1 1] 31)).alloc (.cells #[.string ⟨#[103, 101, 116]⟩, .string ⟨#[112, 117, 116]⟩] 9)).alloc (.cells #[.string ⟨#[97, 47, 42]⟩, .string ⟨#[98]⟩] 9)
  have b3 : Blk ((((((((w).alloc (.cells #[.string ⟨#[103, 101, 116]⟩] 9)).alloc (.cells #[.string ⟨#[97, 47, 42]⟩] 9)).alloc (.cells #[.string ⟨#[42]⟩] 9)).alloc (.cells #[.string ⟨#[97, 47, 120]⟩] 9)).alloc (.cells #[.bool true, .slice (some ⟨w.heap.size, 0, none⟩) 1 1, .slice (some ⟨w.heap.size + 1, 0, none⟩) 1 1, .bool false, .slice (some ⟨w.heap.size + 1 + 1, 0, none⟩) 1 1, .slice (some ⟨w.heap.size + 1 + 1 + 1, 0, none⟩) 1 1] 31)).alloc (.cells #[.string ⟨#[103, 101, 116]⟩, .string ⟨#[112, 117, 116]⟩] 9)).alloc (.cells #[.string ⟨#[97, 47, 42]⟩, .string ⟨#[98]⟩] 9)) (w.heap.size + 1 + 1) 9 #[.string ⟨#[42]⟩] := by simpa using ((((Blk.new (((w).alloc (.cells #[.string ⟨#[103, 101, 116]⟩] 9)).alloc (.cells #[.string ⟨#[97, 47, 42]⟩] 9)) 9 #[.string ⟨#[42]⟩]).alloc (.cells #[.string ⟨#[97, 47, 120]⟩] 9)).alloc (.cells #[.bool true, .slice (some ⟨w.heap.size, 0, none⟩) 1 1, .slice (some ⟨w.heap.size + 1, 0, none⟩) 1 1, .bool false, .slice (some ⟨w.heap.size + 1 + 1, 0, none⟩) 1 1, .slice (some ⟨w.heap.size + 1 + 1 + 1, 0, none⟩) 1 1] 31)).alloc (.cells #[.string ⟨#[103, 101, 116]⟩, .string ⟨#[112, 117, 116]⟩] 9)).alloc (.cells #[.string ⟨#[97, 47, 42]⟩, .string ⟨#[98]⟩] 9)
  have b4 : Blk ((((((((w).alloc (.cells #[.string ⟨#[103, 101, 116]⟩] 9)).alloc (.cells #[.string ⟨#[97, 47, 42]⟩] 9)).alloc (.cells #[.string ⟨#[42]⟩] 9)).alloc (.cells #[.string ⟨#[97, 47, 120]⟩] 9)).alloc (.cells #[.bool true, .slice (some ⟨w.heap.size, 0, none⟩) 1 1, .slice (some ⟨w.heap.size + 1, 0, none⟩) 1 1, .bool false, .slice (some ⟨w.heap.size + 1 + 1, 0, none⟩) 1 1, .slice (some ⟨w.heap.size + 1 + 1 + 1, 0, none⟩) 1 1] 31)).alloc (.cells #[.string ⟨#[103, 101, 116]⟩, .string ⟨#[112, 117, 116]⟩] 9)).alloc (.cells #[.string ⟨#[97, 47, 42]⟩, .string ⟨#[98]⟩] 9)) (w.heap.size + 1 + 1 + 1) 9 #[.string ⟨#[97, 47, 120]⟩] := by simpa using (((Blk.new ((((w).alloc (.cells #[.string ⟨#[103, 101, 116]⟩] 9)).alloc (.cells #[.string ⟨#[97, 47, 42]⟩] 9)).alloc (.cells #[.string ⟨#[42]⟩] 9)) 9 #[.string ⟨#[97, 47, 120]⟩]).alloc (.cells #[.bool true, .slice (some ⟨w.heap.size, 0, none⟩) 1 1, .slice (some ⟨w.heap.size + 1, 0, none⟩) 1 1, .bool false, .slice (some ⟨w.heap.size + 1 + 1, 0, none⟩) 1 1, .slice (some ⟨w.heap.size + 1 + 1 + 1, 0, none⟩) 1 1] 31)).alloc (.cells #[.string ⟨#[103, 101, 116]⟩, .string ⟨#[112, 117, 116]⟩] 9)).alloc (.cells #[.string ⟨#[97, 47, 42]⟩, .string ⟨#[98]⟩] 9)
  have b5 : Blk ((((((((w).alloc (.cells #[.string ⟨#[103, 101, 116]⟩] 9)).alloc (.cells #[.string ⟨#[97, 47, 42]⟩] 9)).alloc (.cells #[.string ⟨#[42]⟩] 9)).alloc (.cells #[.string ⟨#[97, 47, 120]⟩] 9)).alloc (.cells #[.bool true, .slice (some ⟨w.heap.size, 0, none⟩) 1 1, .slice (some ⟨w.heap.size + 1, 0, none⟩) 1 1, .bool false, .slice (some ⟨w.heap.size + 1 + 1, 0, none⟩) 1 1, .slice (some ⟨w.heap.size + 1 + 1 + 1, 0, none⟩) 1 1] 31)).alloc (.cells #[.string ⟨#[103, 101, 116]⟩, .string ⟨#[112, 117, 116]⟩] 9)).alloc (.cells #[.string ⟨#[97, 47, 42]⟩, .string ⟨#[98]⟩] 9)) (w.heap.size + 1 + 1 + 1 + 1) 31 #[.bool true, .slice (some ⟨w.heap.size, 0, none⟩) 1 1, .slice (some ⟨w.heap.size + 1, 0, none⟩) 1 1, .bool false, .slice (some ⟨w.heap.size + 1 + 1, 0, none⟩) 1 1, .slice (some ⟨w.heap.size + 1 + 1 + 1, 0, none⟩) 1 1] := by simpa using ((Blk.new (((((w).alloc (.cells #[.string ⟨#[103, 101, 116]⟩] 9)).alloc (.cells #[.string ⟨#[97, 47, 42]⟩] 9)).alloc (.cells #[.string ⟨#[42]⟩] 9)).alloc (.cells #[.string ⟨#[97, 47, 120]⟩] 9)) 31 #[.bool true, .slice (some ⟨w.heap.size, 0, none⟩) 1 1, .slice (some ⟨w.heap.size + 1, 0, none⟩) 1 1, .bool false, .slice (some ⟨w.heap.size + 1 + 1, 0, none⟩) 1 1, .slice (some ⟨w.heap.size + 1 + 1 + 1, 0, none⟩) 1 1]).alloc (.cells #[.string ⟨#[103, 101, 116]⟩, .string ⟨#[112, 117, 116]⟩] 9)).alloc (.cells #[.string ⟨#[97, 47, 42]⟩, .string ⟨#[98]⟩] 9)
  have b6 : Blk ((((((((w).alloc (.cells #[.string ⟨#[103, 101, 116]⟩] 9)).alloc (.cells #[.string ⟨#[97, 47, 42]⟩] 9)).alloc (.cells #[.string ⟨#[42]⟩] 9)).alloc (.cells #[.string ⟨#[97, 47, 120]⟩] 9)).alloc (.cells #[.bool true, .slice (some ⟨w.heap.size, 0, none⟩) 1 1, .slice (some ⟨w.heap.size + 1, 0, none⟩) 1 1, .bool false, .slice (some ⟨w.heap.size + 1 + 1, 0, none⟩) 1 1, .slice (some ⟨w.heap.size + 1 + 1 + 1, 0, none⟩) 1 1] 31)).alloc (.cells #[.string ⟨#[103, 101, 116]⟩, .string ⟨#[112, 117, 116]⟩] 9)).alloc (.cells #[.string ⟨#[97, 47, 42]⟩, .string ⟨#[98]⟩] 9)) (w.heap.size + 1 + 1 + 1 + 1 + 1) 9 #[.string ⟨#[103, 101, 116]⟩, .string ⟨#[112, 117, 116]⟩] := by simpa using (Blk.new ((((((w).alloc (.cells #[.string ⟨#[103, 101, 116]⟩] 9)).alloc (.cells #[.string ⟨#[97, 47, 42]⟩] 9)).alloc (.cells #[.string ⟨#[42]⟩] 9)).alloc (.cells #[.string ⟨#[97, 47, 120]⟩] 9)).alloc (.cells #[.bool true, .slice (some ⟨w.heap.size, 0, none⟩) 1 1, .slice (some ⟨w.heap.size + 1, 0, none⟩) 1 1, .bool false, .slice (some ⟨w.heap.size + 1 + 1, 0, none⟩) 1 1, .slice (some ⟨w.heap.size + 1 + 1 + 1, 0, none⟩) 1 1] 31)) 9 #[.string ⟨#[103, 101, 116]⟩, .string ⟨#[112, 117, 116]⟩]).alloc (.cells #[.string ⟨#[97, 47, 42]⟩, .string ⟨#[98]⟩] 9)
  have b7 : Blk ((((((((w).alloc (.cells #[.string ⟨#[103, 101, 116]⟩] 9)).alloc (.cells #[.string ⟨#[97, 47, 42]⟩] 9)).alloc (.cells #[.string ⟨#[42]⟩] 9)).alloc (.cells #[.string ⟨#[97, 47, 120]⟩] 9)).alloc (.cells #[.bool true, .slice (some ⟨w.heap.size, 0, none⟩) 1 1, .slice (some ⟨w.heap.size + 1, 0, none⟩) 1 1, .bool false, .slice (some ⟨w.heap.size + 1 + 1, 0, none⟩) 1 1, .slice (some ⟨w.heap.size + 1 + 1 + 1, 0, none⟩) 1 1] 31)).alloc (.cells #[.string ⟨#[103, 101, 116]⟩, .string ⟨#[112, 117, 116]⟩] 9)).alloc (.cells #[.string ⟨#[97, 47, 42]⟩, .string ⟨#[98]⟩] 9)) (w.heap.size + 1 + 1 + 1 + 1 + 1 + 1) 9 #[.string ⟨#[97, 47, 42]⟩, .string ⟨#[98]⟩] := by simpa using Blk.new (((((((w).alloc (.cells #[.string ⟨#[103, 101, 116]⟩] 9)).alloc (.cells #[.string ⟨#[97, 47, 42]⟩] 9)).alloc (.cells #[.string ⟨#[42]⟩] 9)).alloc (.cells #[.string ⟨#[97, 47, 120]⟩] 9)).alloc (.cells #[.bool true, .slice (some ⟨w.heap.size, 0, none⟩) 1 1, .slice (some ⟨w.heap.size + 1, 0, none⟩) 1 1, .bool false, .slice (some ⟨w.heap.size + 1 + 1, 0, none⟩) 1 1, .slice (some ⟨w.heap.size + 1 + 1 + 1, 0, none⟩) 1 1] 31)).alloc (.cells #[.string ⟨#[103, 101, 116]⟩, .string ⟨#[112, 117, 116]⟩] 9)) 9 #[.string ⟨#[97, 47, 42]⟩, .string ⟨#[98]⟩]
  have HB1 := Lib.hid (show Below w.heap.size w ((((((((w).alloc (.cells #[.string ⟨#[103, 101, 116]⟩] 9)).alloc (.cells #[.string ⟨#[97, 47, 42]⟩] 9)).alloc (.cells #[.string ⟨#[42]⟩] 9)).alloc (.cells #[.string ⟨#[97, 47, 120]⟩] 9)).alloc (.cells #[.bool true, .slice (some ⟨w.heap.size, 0, none⟩) 1 1, .slice (some ⟨w.heap.size + 1, 0, none⟩) 1 1, .bool false, .slice (some ⟨w.heap.size + 1 + 1, 0, none⟩) 1 1, .slice (some ⟨w.heap.size + 1 + 1 + 1, 0, none⟩) 1 1] 31)).alloc (.cells #[.string ⟨#[103, 101, 116]⟩, .string ⟨#[112, 117, 116]⟩] 9)).alloc (.cells #[.string ⟨#[97, 47, 42]⟩, .string ⟨#[98]⟩] 9)) from (((((((Below.refl w.heap.size w).alloc (by simp; try omega) (.cells #[.string ⟨#[103, 101, 116]⟩] 9)).alloc (by simp; try omega) (.cells #[.string ⟨#[97, 47, 42]⟩] 9)).alloc (by simp; try omega) (.cells #[.string ⟨#[42]⟩] 9)).alloc (by simp; try omega) (.cells #[.string ⟨#[97, 47, 120]⟩] 9)).alloc (by simp; try omega) (.cells #[.bool true, .slice (some ⟨w.heap.size, 0, none⟩) 1 1, .slice (some ⟨w.heap.size + 1, 0, none⟩) 1 1, .bool false, .slice (some ⟨w.heap.size + 1 + 1, 0, none⟩) 1 1, .slice (some ⟨w.heap.size + 1 + 1 + 1, 0, none⟩) 1 1] 31)).alloc (by simp; try omega) (.cells #[.string ⟨#[103, 101, 116]⟩, .string ⟨#[112, 117, 116]⟩] 9)).alloc (by simp; try omega) (.cells #[.string ⟨#[97, 47, 42]⟩, .string ⟨#[98]⟩] 9))
  generalize (((((((w).alloc (.cells #[.string ⟨#[103, 101, 116]⟩] 9)).alloc (.cells #[.string ⟨#[97, 47, 42]⟩] 9)).alloc (.cells #[.string ⟨#[42]⟩] 9)).alloc (.cells #[.string ⟨#[97, 47, 120]⟩] 9)).alloc (.cells #[.bool true, .slice (some ⟨w.heap.size, 0, none⟩) 1 1, .slice (some ⟨w.heap.size + 1, 0, none⟩) 1 1, .bool false, .slice (some ⟨w.heap.size + 1 + 1, 0, none⟩) 1 1, .slice (some ⟨w.heap.size + 1 + 1 + 1, 0, none⟩) 1 1] 31)).alloc (.cells #[.string ⟨#[103, 101, 116]⟩, .string ⟨#[112, 117, 116]⟩] 9)).alloc (.cells #[.string ⟨#[97, 47, 42]⟩, .string ⟨#[98]⟩] 9) = w1 at *
  obtain ⟨g1, hg1⟩ : ∃ g, w.heap.size + 1 = g := ⟨_, rfl⟩
  obtain ⟨g2, hg2⟩ : ∃ g, w.heap.size + 1 + 1 = g := ⟨_, rfl⟩
  obtain ⟨g3, hg3⟩ : ∃ g, w.heap.size + 1 + 1 + 1 = g := ⟨_, rfl⟩
  obtain ⟨g4, hg4⟩ : ∃ g, w.heap.size + 1 + 1 + 1 + 1 = g := ⟨_, rfl⟩
  have s1 : StrL w1 w1.heap.size (some ⟨w.heap.size, 0, none⟩) aw0.ac := blk_strl (l := [bGet]) b1
  have s2 : StrL w1 w1.heap.size (some ⟨w.heap.size + 1, 0, none⟩) aw0.re := blk_strl (l := [bAs]) b2
  have s3 : StrL w1 w1.heap.size (some ⟨w.heap.size + 1 + 1, 0, none⟩) awS1.ac := blk_strl (l := [bStar]) b3
  have s4 : StrL w1 w1.heap.size (some ⟨w.heap.size + 1 + 1 + 1, 0, none⟩) awS1.re := blk_strl (l := [bAx]) b4
  have HL := Lib.hid (show StsAt w1 w1.heap.size (some ⟨w.heap.size + 1 + 1 + 1 + 1, 0, none⟩) awL from blk_sts2 (a := aw0) (b := awS1) b5 s1 s2 s3 s4)
  have HS1 := Lib.hid s1
  have HS2 := Lib.hid s2
  refine (aw_Format _ _ 2 2 w1 (blk_strl (l := [bGet, bPut]) b6) (blk_strl (l := [bAs, bB]) b7) (by decide) (by decide)).mono ?_
  rintro e w2 ⟨rfl, hb⟩
  have HB2 := Lib.hid hb
  have b5 := b5.on hb
  clear hb b1 b2 b3 b4 b6 b7 s1 s2 s3 s4 hg1 hg2 hg3 hg4 g1 g2 g3 g4
  go_wp2_with fail
  refine (aw_Parse m w2 ((HB2.out.cell (p := ⟨0, 0, none⟩) (by have := HB1.out.size; exact Nat.lt_of_lt_of_le hw0 this)).trans ((HB1.out.cell (p := ⟨0, 0, none⟩) hw0).trans HM.out))).mono ?_
  rintro e w3 ⟨⟨A, c, B, d, rfl⟩, hb⟩
  have HB3 := Lib.hid (HB2.out.trans (hb.mono HB2.out.size))
  have b5 := b5.on hb
  clear hb
  go_wp2_with fail
  have bx := Blk.new w3 31 #[.bool false, .slice A 1 c, .slice B 1 d]
  have b5 := b5.alloc (.cells #[.bool false, .slice A 1 c, .slice B 1 d] 31)
  have HB4 := Lib.hid (HB3.out.alloc HB3.out.size (.cells #[.bool false, .slice A 1 c, .slice B 1 d] 31))
  generalize w3.alloc (.cells #[.bool false, .slice A 1 c, .slice B 1 d] 31) = w4 at *
  generalize w3.heap.size = X at *
  have HL4 := Lib.hid (HL.out.on HB4.out)
  have HS14 := Lib.hid (HS1.out.on HB4.out)
  have HS24 := Lib.hid (HS2.out.on HB4.out)
  have q0 : w4.cell? ⟨w.heap.size + 1 + 1 + 1 + 1, 0, none⟩ = some (.bool true) := b5.cell 0
  have q1 : w4.cell? ⟨w.heap.size + 1 + 1 + 1 + 1, 1, none⟩ = some (.slice (some ⟨w.heap.size, 0, none⟩) 1 1) := b5.cell 1
  have q2 : w4.cell? ⟨w.heap.size + 1 + 1 + 1 + 1, 2, none⟩ = some (.slice (some ⟨w.heap.size + 1, 0, none⟩) 1 1) := b5.cell 2
  have q3 : w4.cell? ⟨X, 0, none⟩ = some (.bool false) := bx.cell 0
  have q4 : w4.cell? ⟨X, 1, none⟩ = some (.slice A 1 c) := bx.cell 1
  clear b5 bx HM
  go_region_held3 (fun w' => (w'.cell? ⟨w.heap.size + 1 + 1 + 1 + 1, 0, none⟩ = some (.bool true) ∧ w'.cell? ⟨w.heap.size + 1 + 1 + 1 + 1, 1, none⟩ = some (.slice (some ⟨w.heap.size, 0, none⟩) 1 1) ∧ w'.cell? ⟨w.heap.size + 1 + 1 + 1 + 1, 2, none⟩ = some (.slice (some ⟨w.heap.size + 1, 0, none⟩) 1 1) ∧ w'.cell? ⟨X, 0, none⟩ = some (.bool false) ∧ w'.cell? ⟨X, 1, none⟩ = some (.slice A 1 c)) ∧ Below w4.heap.size w4 w') (first | assumption | exact ⟨⟨q0, q1, q2, q3, q4⟩, (Below.refl _ _).drew⟩ | exact held5_step (by assumption) (size_new _ _)) (first | (go_at_call 11; ((with_reducible refine (aw_D1 _ _ _ (HL4.out.on (held5_b (by assumption)))).mono ?_); rintro e w5 ⟨rfl, hb1⟩; have H5 := held5_step (by assumption) hb1)) | (go_at_call 11; ((with_reducible refine (aw_D2 _ _ _ (HL4.out.on (held5_b (by assumption)))).mono ?_); rintro e w6 ⟨rfl, hb2⟩; have H6 := held5_step (by assumption) hb2)) | (go_at_call 11; ((with_reducible refine (aw_D3 _ _ _ (HL4.out.on (held5_b (by assumption)))).mono ?_); rintro e w7 ⟨rfl, hb3⟩; have H7 := held5_step (by assumption) hb3)) | (go_at_call 23; ((with_reducible refine (aw_R _ _ 1 1 w7 (HS14.out.on H7.2) (HS24.out.on H7.2)).mono ?_); rintro e w8 ⟨⟨p, dd, rfl⟩, hb8⟩; have H8 := held5_step (by assumption) hb8)))
  have HFI := Lib.hid H8.2
  clear H8 hb8 H7 H6 H5 hb1 hb2 hb3
  go_wp2_with fail
  go_ret
  exact ⟨rfl, HB1.out.trans ((HB4.out.trans (HFI.out.mono HB4.out.size)).mono HB1.out.size)⟩
end Go.Proofs.YtcmlgiilifdnfaaDoor
