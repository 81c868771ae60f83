/- Check of values and events, Send, Receive. -/
import Derived.Test.YtbofclohnmojmaaGreatDoorY5
import Derived.Test.YtbofclohnmojmaaGreatDoorY4
import Derived.Laws.EntriesVeiled
namespace Go.Proofs.YtbofclohnmojmaaGreatDoor
open Go.RowKit
open Go.Sort (grow)

def chkS (N : Nat) (R : Option (Nat × Shp)) : Int := match R with
  | none => 1
  | some (n, s) => if n ≠ N then 1 else if s.o = true then 2 else if (s.l || decide (200 < N) || decide (8 < s.d) || decide (4000 < s.b)) = true then 3 else 0
/-- The error of a value. -/
def chkV (l : List Cel) : Int := chkS l.length (lkS id l.length l 0 [] ⟨0, 0, false, false⟩)
/-! ### the program's count of bytes may wrap; where it is asked it is exact -/
theorem wr_ww (a b : Int) : IntKind.i64.wrap (IntKind.i64.wrap a + IntKind.i64.wrap b) = IntKind.i64.wrap (a + b) := by
  simp only [IntKind.wrap_i64]; omega
theorem wr_w (a b : Int) : IntKind.i64.wrap (IntKind.i64.wrap a + b) = IntKind.i64.wrap (a + b) := by
  simp only [IntKind.wrap_i64]; omega
def Shp.wr (s : Shp) : Shp := ⟨s.d, IntKind.i64.wrap s.b, s.o, s.l⟩
theorem valS_wr (c : Cel) (h : Nat) (s : Shp) : valS IntKind.i64.wrap c h s.wr = (valS id c h s).wr := by
  unfold valS Shp.wr
  simp only [id, wr_ww]
theorem keyS_wr (c : Cel) (s : Shp) : keyS IntKind.i64.wrap c s.wr = (keyS id c s).wr := by
  unfold keyS Shp.wr
  simp only [id, wr_w]
def wrP (p : Nat × Shp) : Nat × Shp := (p.1, p.2.wr)
theorem lkV_wr {F G : List Opn → Shp → Option (Nat × Shp)} (N i : Nat) (c : Cel) (st : List Opn) (s : Shp) (h : ∀ st s, F st s.wr = (G st s).map wrP) : lkV IntKind.i64.wrap N F i c st s.wr = (lkV id N G i c st s).map wrP := by
  unfold lkV
  rw [valS_wr]
  by_cases h1 : 0 < c.n
  · rw [if_pos h1, if_pos h1]
    by_cases h2 : (N : Int) < c.n
    · rw [if_pos h2, if_pos h2]; rfl
    · rw [if_neg h2, if_neg h2]; exact h _ _
  · rw [if_neg h1, if_neg h1]
    cases closeS st with
    | nil => rfl
    | cons o r => exact h _ _
theorem lk_wr (N : Nat) : ∀ (l : List Cel) (i : Nat) (st : List Opn) (s : Shp), lkS IntKind.i64.wrap N l i st s.wr = (lkS id N l i st s).map wrP
  | [], _, _, _ => rfl
  | c :: l, i, st, s => by
    have ih := lk_wr N l (i + 1)
    cases hp : c.pl with
    | false => rw [lk_bad hp, lk_bad hp]; rfl
    | true =>
      cases st with
      | nil => rw [lk_val hp (show noKey ([] : List Opn) from trivial), lk_val hp (show noKey ([] : List Opn) from trivial)]; exact lkV_wr N i c [] s ih
      | cons o r =>
        cases hk : o.k with
        | false => rw [lk_val hp (show noKey (o :: r) from hk), lk_val hp (show noKey (o :: r) from hk)]; exact lkV_wr N i c (o :: r) s ih
        | true =>
          by_cases hb : c.k ≠ 4 ∨ (o.st = true ∧ leB c.s o.la = true)
          · rw [lk_key0 hp hk hb, lk_key0 hp hk hb]; rfl
          · rw [lk_key hp hk hb, lk_key hp hk hb, keyS_wr]; exact ih _ _
theorem sz_small {c : Cel} (hok : okC c) (hp : c.pl = true) (hs : c.s.size ≤ 200) (hn : c.n ≤ 200) : 0 ≤ c.sz ∧ c.sz ≤ 1000 := by
  obtain ⟨h1, h2⟩ := pl_kind hp
  have hq := qtN_le c.s
  have hl := Lib.itoa_length_le c.i hok.1.1 hok.1.2
  unfold Cel.sz szI
  split
  · omega
  · split
    · rename_i hk; have := h1 hk; omega
    · split
      · omega
      · split <;> omega
/-- What holds of the shape that look leaves where no string is long. -/
def SmE (n : Nat) (s s' : Shp) : Prop := s.l = false ∧ s.b ≤ s'.b ∧ s'.b ≤ s.b + (n : Int) * 1000
theorem SmE.step {n : Nat} {c : Cel} {s s1 s' : Shp} (h : SmE n s1 s') (hl : s1.l = (s.l || decide (200 < c.s.size))) (hb : c.s.size ≤ 200 → s.b ≤ s1.b ∧ s1.b ≤ s.b + 1000) : SmE (n + 1) s s' := by
  obtain ⟨h1, h2, h3⟩ := h
  rw [h1] at hl
  have hl' := hl.symm
  rw [Bool.or_eq_false_iff] at hl'
  have hc : c.s.size ≤ 200 := by have := of_decide_eq_false hl'.2; omega
  have := hb hc
  exact ⟨hl'.1, by omega, by push_cast; omega⟩
theorem lk_small (N : Nat) (hN : N ≤ 200) : ∀ (l : List Cel) (i : Nat) (st : List Opn) (s : Shp) (n : Nat) (s' : Shp), (∀ c ∈ l, okC c) → lkS id N l i st s = some (n, s') → s'.l = false → SmE l.length s s'
  | [], _, _, _, _, _, _, h, _ => by cases h
  | c :: l, i, st, s, n, s', hok, h, hl => by
    have ih := fun st s => lk_small N hN l (i + 1) st s n s' (fun c hc => hok c (by simp [hc]))
    have hc := hok c (by simp)
    cases hp : c.pl with
    | false => rw [lk_bad hp] at h; cases h
    | true =>
      have hval : ∀ st0, noKey st0 → lkS id N (c :: l) i st0 s = some (n, s') → SmE (l.length + 1) s s' := by
        intro st0 hk h
        rw [lk_val hp hk] at h
        by_cases h1 : 0 < c.n
        · by_cases h2 : (N : Int) < c.n
          · rw [lkV_far h1 h2] at h; cases h
          · rw [lkV_push h1 h2] at h
            refine (ih _ _ h hl).step (c := c) rfl fun hs => ?_
            have := sz_small hc hp hs (by omega)
            show s.b ≤ s.b + c.sz ∧ s.b + c.sz ≤ s.b + 1000
            omega
        · cases hcs : closeS st0 with
          | nil =>
            rw [lkV_end h1 hcs] at h
            injection h with h
            injection h with h3 h4
            subst h4
            have h5 : (s.l || decide (200 < c.s.size)) = false := hl
            rw [Bool.or_eq_false_iff] at h5
            have hs : c.s.size ≤ 200 := by have := of_decide_eq_false h5.2; omega
            have h7 := sz_small hc hp hs (by omega)
            refine ⟨h5.1, ?_, ?_⟩
            · show s.b ≤ s.b + c.sz; omega
            · show s.b + c.sz ≤ s.b + ((l.length + 1 : Nat) : Int) * 1000
              push_cast; omega
          | cons o r =>
            rw [lkV_more h1 (by rw [hcs]; simp), hcs] at h
            refine (ih _ _ h hl).step (c := c) rfl fun hs => ?_
            have := sz_small hc hp hs (by omega)
            show s.b ≤ s.b + c.sz ∧ s.b + c.sz ≤ s.b + 1000
            omega
      cases st with
      | nil => exact hval [] trivial h
      | cons o r =>
        cases hk : o.k with
        | false => exact hval (o :: r) hk h
        | true =>
          by_cases hb : c.k ≠ 4 ∨ (o.st = true ∧ leB c.s o.la = true)
          · rw [lk_key0 hp hk hb] at h; cases h
          · rw [lk_key hp hk hb] at h
            refine (ih _ _ h hl).step (c := c) rfl fun hs => ?_
            have := qtN_le c.s
            show s.b ≤ s.b + ((qtN c.s : Nat) + 1) ∧ s.b + ((qtN c.s : Nat) + 1) ≤ s.b + 1000
            omega
theorem chkS_congr {N n : Nat} {s t : Shp} (h1 : s.o = t.o) (h2 : (s.l || decide (200 < N) || decide (8 < s.d) || decide (4000 < s.b)) = (t.l || decide (200 < N) || decide (8 < t.d) || decide (4000 < t.b))) : chkS N (some (n, s)) = chkS N (some (n, t)) := by
  unfold chkS
  simp only []
  rw [h1, h2]
theorem chk_wrap {l : List Cel} (hok : ∀ c ∈ l, okC c) : chkS l.length (lkS IntKind.i64.wrap l.length l 0 [] ⟨0, 0, false, false⟩) = chkV l := by
  have h0 : lkS IntKind.i64.wrap l.length l 0 [] ⟨0, 0, false, false⟩ = (lkS id l.length l 0 [] ⟨0, 0, false, false⟩).map wrP := lk_wr l.length l 0 [] ⟨0, 0, false, false⟩
  unfold chkV
  rw [h0]
  cases h : lkS id l.length l 0 [] ⟨0, 0, false, false⟩ with
  | none => rfl
  | some p =>
    obtain ⟨n, s⟩ := p
    refine chkS_congr (s := s.wr) (t := s) rfl ?_
    have hd : s.wr.d = s.d := rfl
    have hw : s.wr.l = s.l := rfl
    have hb : s.wr.b = IntKind.i64.wrap s.b := rfl
    rw [hd, hw, hb]
    cases hl : s.l with
    | true => simp only [Bool.true_or]
    | false =>
      by_cases hN : l.length ≤ 200
      · have hs := lk_small l.length hN l 0 [] ⟨0, 0, false, false⟩ n s hok h hl
        have h2 : (0 : Int) ≤ s.b := hs.2.1
        have h3 : s.b ≤ 0 + (l.length : Int) * 1000 := hs.2.2
        rw [(w64 (x := s.b) (by omega) (by omega)).1]
      · rw [decide_eq_true (show 200 < l.length by omega)]
        simp only [Bool.or_true, Bool.true_or]
set_option maxHeartbeats 8000000 in
set_option maxRecDepth 20000 in
theorem vCheck_any (A : Option Addr) (cp : Nat) (l : List Cel) (w : World) (hl : CelL w w.heap.size A l) (hok : ∀ c ∈ l, okC c) (hln : l.length ≤ 3518437208780) (hX : LaidW w) :
    Calls Tryz.prog 73 #[.slice A l.length cp] w fun e w' => e = .returned (.int .i64 (chkV l)) ∧ Below w.heap.size w w' := by
  have HC := Lib.hid (look_any A cp l w hl hok hln hX)
  rw [← chk_wrap hok]
  generalize lkS IntKind.i64.wrap l.length l 0 [] ⟨0, 0, false, false⟩ = R at *
  clear hl hok hX
  go_enter Tryz.func73, Tryz.ntmps73
  go_wp2_with fail
  refine HC.out.mono ?_
  rintro e w1 ⟨hb, hR⟩
  have HB := Lib.hid hb
  have hz1 : w.heap.size ≤ w1.heap.size := hb.size
  clear hb
  cases R with
  | none =>
    obtain ⟨s, rfl⟩ := hR
    go_wp2_with fail
    go_ret
    exact ⟨rfl, HB.out.alloc hz1 _⟩
  | some r =>
    obtain ⟨n, s⟩ := r
    obtain rfl := hR
    by_cases hn : n = l.length
    · subst hn
      have d0 : ((l.length : Int) != (l.length : Int)) = false := by simp
      cases ho : s.o with
      | true =>
        have HE := Lib.hid (show (2 : Int) = chkS l.length (some (l.length, s)) by unfold chkS; simp only []; rw [if_neg (by simp), if_pos ho])
        clear ho
        go_wp2_with fail
        go_ret
        exact ⟨ret_int HE.out, HB.out.alloc hz1 _⟩
      | false =>
        have H0 : chkS l.length (some (l.length, s)) = if (s.l || decide (200 < l.length) || decide (8 < s.d) || decide (4000 < s.b)) = true then 3 else 0 := by unfold chkS; simp only []; rw [if_neg (by simp), if_neg (by rw [ho]; decide)]
        cases h1 : s.l with
        | true =>
          have HE := Lib.hid (show (3 : Int) = chkS l.length (some (l.length, s)) by rw [H0, h1]; simp)
          clear H0 h1 ho
          go_wp2_with fail
          go_ret
          exact ⟨ret_int HE.out, HB.out.alloc hz1 _⟩
        | false =>
          by_cases h2 : 200 < l.length
          · have HE := Lib.hid (show (3 : Int) = chkS l.length (some (l.length, s)) by rw [H0, h1, decide_eq_true h2]; simp)
            have d2 : decide ((200 : Int) < (l.length : Int)) = true := decide_eq_true (by omega)
            clear H0 h1 ho h2
            go_wp2_with fail
            go_ret
            exact ⟨ret_int HE.out, HB.out.alloc hz1 _⟩
          · have d2 : decide ((200 : Int) < (l.length : Int)) = false := decide_eq_false (by omega)
            by_cases h3 : 8 < s.d
            · have HE := Lib.hid (show (3 : Int) = chkS l.length (some (l.length, s)) by rw [H0, h1, decide_eq_false h2, decide_eq_true h3]; simp)
              have d3 : decide ((8 : Int) < s.d) = true := decide_eq_true h3
              clear H0 h1 ho h2 h3
              go_wp2_with fail
              go_ret
              exact ⟨ret_int HE.out, HB.out.alloc hz1 _⟩
            · have d3 : decide ((8 : Int) < s.d) = false := decide_eq_false h3
              by_cases h4 : 4000 < s.b
              · have HE := Lib.hid (show (3 : Int) = chkS l.length (some (l.length, s)) by rw [H0, h1, decide_eq_false h2, decide_eq_false h3, decide_eq_true h4]; simp)
                have d4 : decide ((4000 : Int) < s.b) = true := decide_eq_true h4
                clear H0 h1 ho h2 h3 h4
                go_wp2_with fail
                go_ret
                exact ⟨ret_int HE.out, HB.out.alloc hz1 _⟩
              · have HE := Lib.hid (show (0 : Int) = chkS l.length (some (l.length, s)) by rw [H0, h1, decide_eq_false h2, decide_eq_false h3, decide_eq_false h4]; simp)
                have d4 : decide ((4000 : Int) < s.b) = false := decide_eq_false h4
                clear H0 h1 ho h2 h3 h4
                go_wp2_with fail
                go_ret
                exact ⟨ret_int HE.out, HB.out.alloc hz1 _⟩
    · have d0 : ((n : Int) != (l.length : Int)) = true := by simp; omega
      have HE := Lib.hid (show (1 : Int) = chkS l.length (some (n, s)) by unfold chkS; simp only []; rw [if_pos hn])
      clear hn
      go_wp2_with fail
      go_ret
      exact ⟨ret_int HE.out, HB.out.alloc hz1 _⟩

/-! ### event.Check -/
def optB (s : ByteArray) : Bool := decide (s.size = 0) || idL s
def namesB (x : Ev) : Bool := idL x.id && idL x.tn && idL x.src && optB x.key && optB x.cause
/-- The error of an event. -/
def chkE (x : Ev) : Int := if namesB x = false then 4 else if timeB x.at_ = false then 2 else chkV x.body
/-- Strings within the model's bounds. -/
def evSz (x : Ev) : Prop := x.id.size ≤ 1048576 ∧ x.tn.size ≤ 1048576 ∧ x.src.size ≤ 1048576 ∧ x.key.size ≤ 1048576 ∧ x.cause.size ≤ 1048576 ∧ x.body.length ≤ 1048576 ∧ ∀ c ∈ x.body, okC c
/-- What the form bears. -/
def evB (x : Ev) : Prop := x.id.size ≤ 140737488351232 ∧ x.tn.size ≤ 140737488351232 ∧ x.src.size ≤ 140737488351232 ∧ x.key.size ≤ 140737488351232 ∧ x.cause.size ≤ 140737488351232 ∧ x.body.length ≤ 3518437208780 ∧ ∀ c ∈ x.body, okC c
theorem evSz.big {x : Ev} (h : evSz x) : evB x := by
  obtain ⟨h1, h2, h3, h4, h5, h6, h7⟩ := h
  exact ⟨by omega, by omega, by omega, by omega, by omega, by omega, h7⟩
theorem idL_size {s : ByteArray} (h : idL s = true) : s.size ≤ 64 := by
  unfold idL at h
  rw [Bool.and_eq_true] at h
  exact (of_decide_eq_true h.1).2
theorem optB_size {s : ByteArray} (h : optB s = true) : s.size ≤ 64 := by
  unfold optB at h
  rcases (Bool.or_eq_true _ _).mp h with h | h
  · have := of_decide_eq_true h; omega
  · exact idL_size h
theorem chkV_len {l : List Cel} (h : chkV l = 0) : l.length ≤ 200 := by
  unfold chkV at h
  cases hR : lkS id l.length l 0 [] ⟨0, 0, false, false⟩ with
  | none => rw [hR] at h; cases h
  | some p =>
    rw [hR] at h
    by_cases hN : 200 < l.length
    · exfalso
      unfold chkS at h
      simp only [decide_eq_true hN, Bool.or_true, Bool.true_or] at h
      split at h
      · cases h
      · split at h <;> simp at h
    · omega
/-- What the check lets in is small. -/
theorem evB.sz {x : Ev} (h : evB x) (hc : chkE x = 0) : evSz x := by
  unfold chkE at hc
  by_cases hn : namesB x = false
  · rw [if_pos hn] at hc; cases hc
  · rw [if_neg hn] at hc
    by_cases ht : timeB x.at_ = false
    · rw [if_pos ht] at hc; cases hc
    · rw [if_neg ht] at hc
      have hl := chkV_len hc
      have hn' : namesB x = true := by simpa using hn
      unfold namesB at hn'
      simp only [Bool.and_eq_true] at hn'
      obtain ⟨⟨⟨⟨h1, h2⟩, h3⟩, h4⟩, h5⟩ := hn'
      have a1 := idL_size h1
      have a2 := idL_size h2
      have a3 := idL_size h3
      have a4 := optB_size h4
      have a5 := optB_size h5
      exact ⟨by omega, by omega, by omega, by omega, by omega, by omega, h.2.2.2.2.2.2⟩
theorem chkE_no {x : Ev} (h : namesB x = false) : (4 : Int) = chkE x := by unfold chkE; rw [if_pos h]
set_option maxHeartbeats 16000000 in
set_option maxRecDepth 20000 in
theorem eCheck_any (x : Ev) (w : World) (hx : EvIn w w.heap.size x) (hs : evB x) (hX : LaidW w) :
    Calls Tryz.prog 47 #[.agg #[.string x.id, .string x.tn, .string x.src, .string x.key, .int .i64 x.at_, .string x.cause, .slice x.A x.body.length x.cp]] w fun e w' => e = .returned (.int .i64 (chkE x)) ∧ Below w.heap.size w w' := by
  have HX := Lib.hid hx
  have HS := Lib.hid hs
  have HL := Lib.hid hX
  clear hx hs hX
  go_enter Tryz.func47, Tryz.ntmps47
  go_upto_region 1 with fail
  have b := Blk.new w 40 #[.string x.id, .string x.tn, .string x.src, .string x.key, .int .i64 x.at_, .string x.cause, .slice x.A x.body.length x.cp]
  have HB0 := Lib.hid (al_new w (.cells #[.string x.id, .string x.tn, .string x.src, .string x.key, .int .i64 x.at_, .string x.cause, .slice x.A x.body.length x.cp] 40))
  generalize w.alloc (.cells #[.string x.id, .string x.tn, .string x.src, .string x.key, .int .i64 x.at_, .string x.cause, .slice x.A x.body.length x.cp] 40) = w0 at *
  have q0 : w0.cell? ⟨w.heap.size, 0, none⟩ = some (.string x.id) := b.cell 0
  have q1 : w0.cell? ⟨w.heap.size, 1, none⟩ = some (.string x.tn) := b.cell 1
  have q2 : w0.cell? ⟨w.heap.size, 2, none⟩ = some (.string x.src) := b.cell 2
  have q3 : w0.cell? ⟨w.heap.size, 3, none⟩ = some (.string x.key) := b.cell 3
  have q4 : w0.cell? ⟨w.heap.size, 4, none⟩ = some (.int .i64 x.at_) := b.cell 4
  have q5 : w0.cell? ⟨w.heap.size, 5, none⟩ = some (.string x.cause) := b.cell 5
  have q6 : w0.cell? ⟨w.heap.size, 6, none⟩ = some (.slice x.A x.body.length x.cp) := b.cell 6
  go_wp2_with fail
  refine (ID_any x.id _ (by have := HS.out.1; omega)).mono ?_
  rintro e w1 ⟨rfl, hb⟩
  have b : Blk w1 w.heap.size 40 #[.string x.id, .string x.tn, .string x.src, .string x.key, .int .i64 x.at_, .string x.cause, .slice x.A x.body.length x.cp] := b.on hb
  have HB1 := Lib.hid (HB0.out.trans (hb.mono HB0.out.size))
  clear hb
  clear q0 q1 q2 q3 q4 q5 q6
  have q0 : w1.cell? ⟨w.heap.size, 0, none⟩ = some (.string x.id) := b.cell 0
  have q1 : w1.cell? ⟨w.heap.size, 1, none⟩ = some (.string x.tn) := b.cell 1
  have q2 : w1.cell? ⟨w.heap.size, 2, none⟩ = some (.string x.src) := b.cell 2
  have q3 : w1.cell? ⟨w.heap.size, 3, none⟩ = some (.string x.key) := b.cell 3
  have q4 : w1.cell? ⟨w.heap.size, 4, none⟩ = some (.int .i64 x.at_) := b.cell 4
  have q5 : w1.cell? ⟨w.heap.size, 5, none⟩ = some (.string x.cause) := b.cell 5
  have q6 : w1.cell? ⟨w.heap.size, 6, none⟩ = some (.slice x.A x.body.length x.cp) := b.cell 6
  cases h_id : idL x.id with
  | false =>
    have HE := Lib.hid (show (4 : Int) = chkE x from chkE_no (by unfold namesB; simp [h_id]))
    go_wp2_with fail
    go_ret
    exact ⟨ret_int HE.out, HB1.out⟩
  | true =>
    go_wp2_with fail
    refine (ID_any x.tn _ (by have := HS.out.2.1; omega)).mono ?_
    rintro e w2 ⟨rfl, hb⟩
    have b : Blk w2 w.heap.size 40 #[.string x.id, .string x.tn, .string x.src, .string x.key, .int .i64 x.at_, .string x.cause, .slice x.A x.body.length x.cp] := b.on hb
    have HB2 := Lib.hid (HB1.out.trans (hb.mono HB1.out.size))
    clear hb
    clear q0 q1 q2 q3 q4 q5 q6
    have q0 : w2.cell? ⟨w.heap.size, 0, none⟩ = some (.string x.id) := b.cell 0
    have q1 : w2.cell? ⟨w.heap.size, 1, none⟩ = some (.string x.tn) := b.cell 1
    have q2 : w2.cell? ⟨w.heap.size, 2, none⟩ = some (.string x.src) := b.cell 2
    have q3 : w2.cell? ⟨w.heap.size, 3, none⟩ = some (.string x.key) := b.cell 3
    have q4 : w2.cell? ⟨w.heap.size, 4, none⟩ = some (.int .i64 x.at_) := b.cell 4
    have q5 : w2.cell? ⟨w.heap.size, 5, none⟩ = some (.string x.cause) := b.cell 5
    have q6 : w2.cell? ⟨w.heap.size, 6, none⟩ = some (.slice x.A x.body.length x.cp) := b.cell 6
    cases h_tn : idL x.tn with
    | false =>
      have HE := Lib.hid (show (4 : Int) = chkE x from chkE_no (by unfold namesB; simp [h_id, h_tn]))
      go_wp2_with fail
      go_ret
      exact ⟨ret_int HE.out, HB2.out⟩
    | true =>
      go_wp2_with fail
      refine (ID_any x.src _ (by have := HS.out.2.2.1; omega)).mono ?_
      rintro e w3 ⟨rfl, hb⟩
      have b : Blk w3 w.heap.size 40 #[.string x.id, .string x.tn, .string x.src, .string x.key, .int .i64 x.at_, .string x.cause, .slice x.A x.body.length x.cp] := b.on hb
      have HB3 := Lib.hid (HB2.out.trans (hb.mono HB2.out.size))
      clear hb
      clear q0 q1 q2 q3 q4 q5 q6
      have q0 : w3.cell? ⟨w.heap.size, 0, none⟩ = some (.string x.id) := b.cell 0
      have q1 : w3.cell? ⟨w.heap.size, 1, none⟩ = some (.string x.tn) := b.cell 1
      have q2 : w3.cell? ⟨w.heap.size, 2, none⟩ = some (.string x.src) := b.cell 2
      have q3 : w3.cell? ⟨w.heap.size, 3, none⟩ = some (.string x.key) := b.cell 3
      have q4 : w3.cell? ⟨w.heap.size, 4, none⟩ = some (.int .i64 x.at_) := b.cell 4
      have q5 : w3.cell? ⟨w.heap.size, 5, none⟩ = some (.string x.cause) := b.cell 5
      have q6 : w3.cell? ⟨w.heap.size, 6, none⟩ = some (.slice x.A x.body.length x.cp) := b.cell 6
      cases h_src : idL x.src with
      | false =>
        have HE := Lib.hid (show (4 : Int) = chkE x from chkE_no (by unfold namesB; simp [h_id, h_tn, h_src]))
        go_wp2_with fail
        go_ret
        exact ⟨ret_int HE.out, HB3.out⟩
      | true =>
        by_cases z_key : x.key.size = 0
        · have f_key := isEmpty_of z_key
          have o_key : optB x.key = true := by unfold optB; rw [decide_eq_true z_key]; rfl
          clear z_key
          by_cases z_cause : x.cause.size = 0
          · have f_cause := isEmpty_of z_cause
            have o_cause : optB x.cause = true := by unfold optB; rw [decide_eq_true z_cause]; rfl
            clear z_cause
            have HN := Lib.hid (show namesB x = true by unfold namesB; simp [h_id, h_tn, h_src, o_key, o_cause])
            by_cases ht : 0 ≤ x.at_ ∧ x.at_ ≤ 1073741824
            · have HE := Lib.hid (show chkV x.body = chkE x by unfold chkE; rw [if_neg (by rw [HN.out]; decide), if_neg (by rw [(timeB_iff x.at_).2 ht]; decide)])
              have d1 : decide (x.at_ < 0) = false := decide_eq_false (by omega)
              have d2 : decide ((1073741824 : Int) < x.at_) = false := decide_eq_false (by omega)
              go_wp2_with fail
              refine (vCheck_any x.A x.cp x.body _ (HX.out.on HB3.out) HS.out.2.2.2.2.2.2 HS.out.2.2.2.2.2.1 (HL.out.below HB3.out)).mono ?_
              rintro e wz ⟨rfl, hb⟩
              go_wp2_with fail
              go_ret
              exact ⟨ret_int HE.out, HB3.out.trans (hb.mono HB3.out.size)⟩
            · have HE := Lib.hid (show (2 : Int) = chkE x by unfold chkE; rw [if_neg (by rw [HN.out]; decide), if_pos (timeB_no ht).symm])
              by_cases h0 : x.at_ < 0
              · have d1 : decide (x.at_ < 0) = true := decide_eq_true h0
                go_wp2_with fail
                go_ret
                exact ⟨ret_int HE.out, HB3.out⟩
              · have d1 : decide (x.at_ < 0) = false := decide_eq_false h0
                have d2 : decide ((1073741824 : Int) < x.at_) = true := decide_eq_true (by omega)
                go_wp2_with fail
                go_ret
                exact ⟨ret_int HE.out, HB3.out⟩
          · have f_cause := isEmpty_not (s := x.cause) (by omega)
            go_wp2_with fail
            refine (ID_any x.cause _ (by have := HS.out.2.2.2.2.1; omega)).mono ?_
            rintro e w4 ⟨rfl, hb⟩
            have b : Blk w4 w.heap.size 40 #[.string x.id, .string x.tn, .string x.src, .string x.key, .int .i64 x.at_, .string x.cause, .slice x.A x.body.length x.cp] := b.on hb
            have HB4 := Lib.hid (HB3.out.trans (hb.mono HB3.out.size))
            clear hb
            clear q0 q1 q2 q3 q4 q5 q6
            have q0 : w4.cell? ⟨w.heap.size, 0, none⟩ = some (.string x.id) := b.cell 0
            have q1 : w4.cell? ⟨w.heap.size, 1, none⟩ = some (.string x.tn) := b.cell 1
            have q2 : w4.cell? ⟨w.heap.size, 2, none⟩ = some (.string x.src) := b.cell 2
            have q3 : w4.cell? ⟨w.heap.size, 3, none⟩ = some (.string x.key) := b.cell 3
            have q4 : w4.cell? ⟨w.heap.size, 4, none⟩ = some (.int .i64 x.at_) := b.cell 4
            have q5 : w4.cell? ⟨w.heap.size, 5, none⟩ = some (.string x.cause) := b.cell 5
            have q6 : w4.cell? ⟨w.heap.size, 6, none⟩ = some (.slice x.A x.body.length x.cp) := b.cell 6
            cases h_cause : idL x.cause with
            | false =>
              have o_cause : optB x.cause = false := by unfold optB; rw [decide_eq_false z_cause, h_cause]; rfl
              have HE := Lib.hid (show (4 : Int) = chkE x from chkE_no (by unfold namesB; simp [h_id, h_tn, h_src, o_key, o_cause]))
              go_wp2_with fail
              go_ret
              exact ⟨ret_int HE.out, HB4.out⟩
            | true =>
              have o_cause : optB x.cause = true := by unfold optB; rw [h_cause, Bool.or_true]
              clear z_cause h_cause
              have HN := Lib.hid (show namesB x = true by unfold namesB; simp [h_id, h_tn, h_src, o_key, o_cause])
              by_cases ht : 0 ≤ x.at_ ∧ x.at_ ≤ 1073741824
              · have HE := Lib.hid (show chkV x.body = chkE x by unfold chkE; rw [if_neg (by rw [HN.out]; decide), if_neg (by rw [(timeB_iff x.at_).2 ht]; decide)])
                have d1 : decide (x.at_ < 0) = false := decide_eq_false (by omega)
                have d2 : decide ((1073741824 : Int) < x.at_) = false := decide_eq_false (by omega)
                go_wp2_with fail
                refine (vCheck_any x.A x.cp x.body _ (HX.out.on HB4.out) HS.out.2.2.2.2.2.2 HS.out.2.2.2.2.2.1 (HL.out.below HB4.out)).mono ?_
                rintro e wz ⟨rfl, hb⟩
                go_wp2_with fail
                go_ret
                exact ⟨ret_int HE.out, HB4.out.trans (hb.mono HB4.out.size)⟩
              · have HE := Lib.hid (show (2 : Int) = chkE x by unfold chkE; rw [if_neg (by rw [HN.out]; decide), if_pos (timeB_no ht).symm])
                by_cases h0 : x.at_ < 0
                · have d1 : decide (x.at_ < 0) = true := decide_eq_true h0
                  go_wp2_with fail
                  go_ret
                  exact ⟨ret_int HE.out, HB4.out⟩
                · have d1 : decide (x.at_ < 0) = false := decide_eq_false h0
                  have d2 : decide ((1073741824 : Int) < x.at_) = true := decide_eq_true (by omega)
                  go_wp2_with fail
                  go_ret
                  exact ⟨ret_int HE.out, HB4.out⟩
        · have f_key := isEmpty_not (s := x.key) (by omega)
          go_wp2_with fail
          refine (ID_any x.key _ (by have := HS.out.2.2.2.1; omega)).mono ?_
          rintro e w4 ⟨rfl, hb⟩
          have b : Blk w4 w.heap.size 40 #[.string x.id, .string x.tn, .string x.src, .string x.key, .int .i64 x.at_, .string x.cause, .slice x.A x.body.length x.cp] := b.on hb
          have HB4 := Lib.hid (HB3.out.trans (hb.mono HB3.out.size))
          clear hb
          clear q0 q1 q2 q3 q4 q5 q6
          have q0 : w4.cell? ⟨w.heap.size, 0, none⟩ = some (.string x.id) := b.cell 0
          have q1 : w4.cell? ⟨w.heap.size, 1, none⟩ = some (.string x.tn) := b.cell 1
          have q2 : w4.cell? ⟨w.heap.size, 2, none⟩ = some (.string x.src) := b.cell 2
          have q3 : w4.cell? ⟨w.heap.size, 3, none⟩ = some (.string x.key) := b.cell 3
          have q4 : w4.cell? ⟨w.heap.size, 4, none⟩ = some (.int .i64 x.at_) := b.cell 4
          have q5 : w4.cell? ⟨w.heap.size, 5, none⟩ = some (.string x.cause) := b.cell 5
          have q6 : w4.cell? ⟨w.heap.size, 6, none⟩ = some (.slice x.A x.body.length x.cp) := b.cell 6
          cases h_key : idL x.key with
          | false =>
            have o_key : optB x.key = false := by unfold optB; rw [decide_eq_false z_key, h_key]; rfl
            have HE := Lib.hid (show (4 : Int) = chkE x from chkE_no (by unfold namesB; simp [h_id, h_tn, h_src, o_key]))
            go_wp2_with fail
            go_ret
            exact ⟨ret_int HE.out, HB4.out⟩
          | true =>
            have o_key : optB x.key = true := by unfold optB; rw [h_key, Bool.or_true]
            clear z_key h_key
            by_cases z_cause : x.cause.size = 0
            · have f_cause := isEmpty_of z_cause
              have o_cause : optB x.cause = true := by unfold optB; rw [decide_eq_true z_cause]; rfl
              clear z_cause
              have HN := Lib.hid (show namesB x = true by unfold namesB; simp [h_id, h_tn, h_src, o_key, o_cause])
              by_cases ht : 0 ≤ x.at_ ∧ x.at_ ≤ 1073741824
              · have HE := Lib.hid (show chkV x.body = chkE x by unfold chkE; rw [if_neg (by rw [HN.out]; decide), if_neg (by rw [(timeB_iff x.at_).2 ht]; decide)])
                have d1 : decide (x.at_ < 0) = false := decide_eq_false (by omega)
                have d2 : decide ((1073741824 : Int) < x.at_) = false := decide_eq_false (by omega)
                go_wp2_with fail
                refine (vCheck_any x.A x.cp x.body _ (HX.out.on HB4.out) HS.out.2.2.2.2.2.2 HS.out.2.2.2.2.2.1 (HL.out.below HB4.out)).mono ?_
                rintro e wz ⟨rfl, hb⟩
                go_wp2_with fail
                go_ret
                exact ⟨ret_int HE.out, HB4.out.trans (hb.mono HB4.out.size)⟩
              · have HE := Lib.hid (show (2 : Int) = chkE x by unfold chkE; rw [if_neg (by rw [HN.out]; decide), if_pos (timeB_no ht).symm])
                by_cases h0 : x.at_ < 0
                · have d1 : decide (x.at_ < 0) = true := decide_eq_true h0
                  go_wp2_with fail
                  go_ret
                  exact ⟨ret_int HE.out, HB4.out⟩
                · have d1 : decide (x.at_ < 0) = false := decide_eq_false h0
                  have d2 : decide ((1073741824 : Int) < x.at_) = true := decide_eq_true (by omega)
                  go_wp2_with fail
                  go_ret
                  exact ⟨ret_int HE.out, HB4.out⟩
            · have f_cause := isEmpty_not (s := x.cause) (by omega)
              go_wp2_with fail
              refine (ID_any x.cause _ (by have := HS.out.2.2.2.2.1; omega)).mono ?_
              rintro e w5 ⟨rfl, hb⟩
              have b : Blk w5 w.heap.size 40 #[.string x.id, .string x.tn, .string x.src, .string x.key, .int .i64 x.at_, .string x.cause, .slice x.A x.body.length x.cp] := b.on hb
              have HB5 := Lib.hid (HB4.out.trans (hb.mono HB4.out.size))
              clear hb
              clear q0 q1 q2 q3 q4 q5 q6
              have q0 : w5.cell? ⟨w.heap.size, 0, none⟩ = some (.string x.id) := b.cell 0
              have q1 : w5.cell? ⟨w.heap.size, 1, none⟩ = some (.string x.tn) := b.cell 1
              have q2 : w5.cell? ⟨w.heap.size, 2, none⟩ = some (.string x.src) := b.cell 2
              have q3 : w5.cell? ⟨w.heap.size, 3, none⟩ = some (.string x.key) := b.cell 3
              have q4 : w5.cell? ⟨w.heap.size, 4, none⟩ = some (.int .i64 x.at_) := b.cell 4
              have q5 : w5.cell? ⟨w.heap.size, 5, none⟩ = some (.string x.cause) := b.cell 5
              have q6 : w5.cell? ⟨w.heap.size, 6, none⟩ = some (.slice x.A x.body.length x.cp) := b.cell 6
              cases h_cause : idL x.cause with
              | false =>
                have o_cause : optB x.cause = false := by unfold optB; rw [decide_eq_false z_cause, h_cause]; rfl
                have HE := Lib.hid (show (4 : Int) = chkE x from chkE_no (by unfold namesB; simp [h_id, h_tn, h_src, o_key, o_cause]))
                go_wp2_with fail
                go_ret
                exact ⟨ret_int HE.out, HB5.out⟩
              | true =>
                have o_cause : optB x.cause = true := by unfold optB; rw [h_cause, Bool.or_true]
                clear z_cause h_cause
                have HN := Lib.hid (show namesB x = true by unfold namesB; simp [h_id, h_tn, h_src, o_key, o_cause])
                by_cases ht : 0 ≤ x.at_ ∧ x.at_ ≤ 1073741824
                · have HE := Lib.hid (show chkV x.body = chkE x by unfold chkE; rw [if_neg (by rw [HN.out]; decide), if_neg (by rw [(timeB_iff x.at_).2 ht]; decide)])
                  have d1 : decide (x.at_ < 0) = false := decide_eq_false (by omega)
                  have d2 : decide ((1073741824 : Int) < x.at_) = false := decide_eq_false (by omega)
                  go_wp2_with fail
                  refine (vCheck_any x.A x.cp x.body _ (HX.out.on HB5.out) HS.out.2.2.2.2.2.2 HS.out.2.2.2.2.2.1 (HL.out.below HB5.out)).mono ?_
                  rintro e wz ⟨rfl, hb⟩
                  go_wp2_with fail
                  go_ret
                  exact ⟨ret_int HE.out, HB5.out.trans (hb.mono HB5.out.size)⟩
                · have HE := Lib.hid (show (2 : Int) = chkE x by unfold chkE; rw [if_neg (by rw [HN.out]; decide), if_pos (timeB_no ht).symm])
                  by_cases h0 : x.at_ < 0
                  · have d1 : decide (x.at_ < 0) = true := decide_eq_true h0
                    go_wp2_with fail
                    go_ret
                    exact ⟨ret_int HE.out, HB5.out⟩
                  · have d1 : decide (x.at_ < 0) = false := decide_eq_false h0
                    have d2 : decide ((1073741824 : Int) < x.at_) = true := decide_eq_true (by omega)
                    go_wp2_with fail
                    go_ret
                    exact ⟨ret_int HE.out, HB5.out⟩
end Go.Proofs.YtbofclohnmojmaaGreatDoor
namespace Go.Proofs.YtbofclohnmojmaaGreatDoor
open Go.RowKit
open Go.Sort (grow)

theorem same_any (y : Ev) (id : ByteArray) (be : Nat) (w : World) (h1 : w.cell? ⟨be, 0, none⟩ = some (.string id)) :
    Calls Tryz.prog 48 #[.agg #[.string y.id, .string y.tn, .string y.src, .string y.key, .int .i64 y.at_, .string y.cause, .slice y.A y.body.length y.cp], .pointer (some ⟨be, 0, none⟩)] w fun e w' => e = .returned (.bool (eqS y.id id)) ∧ Below w.heap.size w w' := by
  have c1 := cell_al h1 (.cells #[.string y.id, .string y.tn, .string y.src, .string y.key, .int .i64 y.at_, .string y.cause, .slice y.A y.body.length y.cp] 40)
  have ht := toL_eq y.id id
  go_enter Tryz.func48, Tryz.ntmps48
  go_wp2_with fail
  go_ret
  exact ⟨rfl, al_new w _⟩
theorem enters_s1 (args : Array Value) (w : World) : Sem.run Tryz.prog (callFunc 48 args) w = .ok (.enter 48 args) w := enters_of Tryz.func48 (by kernel_rfl) rfl args w
theorem enters_s2 (args : Array Value) (w : World) : Sem.run Tryz.prog (callFunc 51 args) w = .ok (.enter 51 args) w := enters_of Tryz.func51 (by kernel_rfl) rfl args w
theorem same2_any (x : En) (id : ByteArray) (be bf : Nat) (w : World) (h1 : w.cell? ⟨be, 0, none⟩ = some (.string id)) (h2 : w.cell? ⟨bf, 0, none⟩ = some (.func (.func 48) #[] #[.pointer (some ⟨be, 0, none⟩)])) :
    Calls Tryz.prog 51 #[.agg #[.string x.ev.id, .string x.ev.tn, .string x.ev.src, .string x.ev.key, .int .i64 x.ev.at_, .string x.ev.cause, .slice x.ev.A x.ev.body.length x.ev.cp, .int .i64 x.vis, .int .i64 x.rcv, .bool x.held, .int .i64 x.arr], .pointer (some ⟨bf, 0, none⟩)] w fun e w' => e = .returned (.bool (eqS x.ev.id id)) ∧ Below w.heap.size w w' := by
  have c1 := cell_al h1 (.cells #[.string x.ev.id, .string x.ev.tn, .string x.ev.src, .string x.ev.key, .int .i64 x.ev.at_, .string x.ev.cause, .slice x.ev.A x.ev.body.length x.ev.cp, .int .i64 x.vis, .int .i64 x.rcv, .bool x.held, .int .i64 x.arr] 76)
  have c2 := cell_al h2 (.cells #[.string x.ev.id, .string x.ev.tn, .string x.ev.src, .string x.ev.key, .int .i64 x.ev.at_, .string x.ev.cause, .slice x.ev.A x.ev.body.length x.ev.cp, .int .i64 x.vis, .int .i64 x.rcv, .bool x.held, .int .i64 x.arr] 76)
  have HC := Lib.hid (same_any x.ev id be _ c1)
  go_enter Tryz.func51, Tryz.ntmps51
  go_wp2_with fail
  refine HC.out.mono ?_
  rintro e w1 ⟨rfl, hb⟩
  go_wp2_with fail
  go_ret
  exact ⟨rfl, (al_new w _).trans (hb.mono (by simp))⟩
def hasD (d : List Ev) (id : ByteArray) : Bool := d.any fun y => eqS y.id id
def hasL (l : List En) (id : ByteArray) : Bool := l.any fun x => eqS x.ev.id id
section
variable {w : World} {B q c c' : Nat} {A A' : Option Addr} {s : QS}
theorem hasD_any (id : ByteArray) (be base : Nat) (A : Option Addr) (c : Nat) (l : List Ev) (w : World) (hl : OwnV w base (.slice A l.length c) l) (hn : l.length ≤ 1000000) (h1 : w.cell? ⟨be, 0, none⟩ = some (.string id)) :
    Calls Tryz.prog 49 #[.slice A l.length c, .func (.func 48) #[] #[.pointer (some ⟨be, 0, none⟩)]] w fun e w' => e = .returned (.bool (hasD l id)) ∧ Below w.heap.size w w' :=
  Contains_ev _ enters_s1 _ (fun y => eqS y.id id) A c base l w hl hn (fun y _ W hW => same_any y id be W ((hW.cell (p := ⟨be, 0, none⟩) (cell_lt h1)).trans h1))
theorem hasL_any (id : ByteArray) (be bf base : Nat) (A : Option Addr) (c : Nat) (l : List En) (w : World) (hl : OwnE w base (.slice A l.length c) l) (hn : l.length ≤ 1000000) (h1 : w.cell? ⟨be, 0, none⟩ = some (.string id)) (h2 : w.cell? ⟨bf, 0, none⟩ = some (.func (.func 48) #[] #[.pointer (some ⟨be, 0, none⟩)])) :
    Calls Tryz.prog 50 #[.slice A l.length c, .func (.func 51) #[] #[.pointer (some ⟨bf, 0, none⟩)]] w fun e w' => e = .returned (.bool (hasL l id)) ∧ Below w.heap.size w w' :=
  Contains_en _ enters_s2 _ (fun x => eqS x.ev.id id) A c base l w hl hn (fun x _ W hW => same2_any x id be bf W ((hW.cell (p := ⟨be, 0, none⟩) (cell_lt h1)).trans h1) ((hW.cell (p := ⟨bf, 0, none⟩) (cell_lt h2)).trans h2))
end
/-! ### a queue behind a call -/
def QTo (w : World) (B q : Nat) (A A' : Option Addr) (s : QS) (w' : World) : Prop := ∃ A2 c2 A3 c3, FQ w' B q A2 c2 A3 c3 s ∧ Chg (ff q A A') w w' ∧ ∀ k, ff q A2 A3 k → ff q A A' k ∨ w.heap.size ≤ k
theorem QTo.below {w w1 w' : World} {B q : Nat} {A A' : Option Addr} {s : QS} (h : QTo w B q A A' s w1) (hb : Below w1.heap.size w1 w') : QTo w B q A A' s w' := by
  obtain ⟨A2, c2, A3, c3, h1, h2, h3⟩ := h
  exact ⟨A2, c2, A3, c3, h1.below hb, h2.below hb, h3⟩
theorem FQ.to {w w' : World} {B q c c' : Nat} {A A' : Option Addr} {s : QS} (h : FQ w B q A c A' c' s) (hb : Below w.heap.size w w') : QTo w B q A A' s w' := ⟨A, c, A', c', h.below hb, Chg.of_below hb, fun _ hk => .inl hk⟩
/-- One change of the queue behind another. -/
theorem QTo.trans {w w1 w' : World} {B q : Nat} {A A' A2 A3 : Option Addr} {s' : QS} (h2 : Chg (ff q A A') w w1) (h3 : ∀ k, ff q A2 A3 k → ff q A A' k ∨ w.heap.size ≤ k) (h : QTo w1 B q A2 A3 s' w') : QTo w B q A A' s' w' := by
  obtain ⟨A4, c4, A5, c5, g1, g2, g3⟩ := h
  refine ⟨A4, c4, A5, c5, g1, h2.narrow g2 (fun k hk => h3 k hk), fun k hk => ?_⟩
  rcases g3 k hk with h | h
  · exact h3 k h
  · exact .inr (Nat.le_trans h2.size h)
/-- The state behind accept. -/
def accS (s : QS) (now : Int) (r : List En) : QS := { s with now := now, l := s.l.filter (fun x => !goneB now s.r x), d := s.d ++ r.map En.ev }
def AccR (s : QS) (now : Int) (s1 : QS) : Prop := ∃ r, IsSrt (s.l.filter (goneB now s.r)) r ∧ s1 = accS s now r
theorem part_len {α : Type} (p : α → Bool) : ∀ l : List α, (l.filter p).length + (l.filter fun x => !p x).length = l.length
  | [] => rfl
  | x :: l => by
    have ih := part_len p l
    cases h : p x <;> simp [h] <;> omega
theorem AccR.len {s s1 : QS} {now : Int} (h : AccR s now s1) : s1.l.length + s1.d.length = s.l.length + s.d.length := by
  obtain ⟨r, hr, rfl⟩ := h
  have h1 := hr.1.length_eq
  have h2 := part_len (goneB now s.r) s.l
  unfold accS
  simp only [List.length_append, List.length_map]
  omega
theorem AccR.mem {s s1 : QS} {now : Int} (h : AccR s now s1) : (∀ x ∈ s1.l, x ∈ s.l) ∧ (∀ e ∈ s1.d, e ∈ s.d ∨ ∃ x ∈ s.l, x.ev = e) := by
  obtain ⟨r, hr, rfl⟩ := h
  refine ⟨fun x hx => (List.mem_filter.1 hx).1, fun e he => ?_⟩
  rcases List.mem_append.1 he with he | he
  · exact .inl he
  · obtain ⟨x, hx, rfl⟩ := List.mem_map.1 he
    exact .inr ⟨x, (List.mem_filter.1 (hr.1.mem_iff.1 hx)).1, rfl⟩
/-- What a queue's state keeps to. -/
structure QS.ok (s : QS) : Prop where
  v : 1 ≤ s.v ∧ s.v ≤ 1073741824
  r : 1 ≤ s.r ∧ s.r ≤ 10
  now : 0 ≤ s.now ∧ s.now ≤ 1073741824
  arr : 0 ≤ s.arr ∧ s.arr ≤ 1000000
  len : s.l.length + s.d.length ≤ 256
  ord : s.l.Pairwise (fun a b => a.arr < b.arr)
  arrs : ∀ x ∈ s.l, x.arr < s.arr
  rcv : ∀ x ∈ s.l, 0 ≤ x.rcv ∧ x.rcv ≤ 10
  vis : ∀ x ∈ s.l, 0 ≤ x.vis ∧ x.vis ≤ 4294967296
  els : ∀ x ∈ s.l, evSz x.ev
  dels : ∀ e ∈ s.d, evSz e
theorem AccR.ok {s s1 : QS} {now : Int} (h : AccR s now s1) (hok : s.ok) (hn : 0 ≤ now ∧ now ≤ 1073741824) : s1.ok := by
  have hl := h.len
  have hm := h.mem
  obtain ⟨r, hr, rfl⟩ := h
  refine ⟨hok.v, hok.r, hn, hok.arr, by rw [hl]; exact hok.len, hok.ord.filter _, fun x hx => hok.arrs x (hm.1 x hx), fun x hx => hok.rcv x (hm.1 x hx), fun x hx => hok.vis x (hm.1 x hx), fun x hx => hok.els x (hm.1 x hx), fun e he => ?_⟩
  rcases hm.2 e he with he | ⟨x, hx, rfl⟩
  · exact hok.dels e he
  · exact hok.els x hx
theorem accept_to {w : World} {B q c c' : Nat} {A A' : Option Addr} {s : QS} (now : Int) (hB : B ≤ w.heap.size) (hQ : FQ w B q A c A' c' s) (hok : s.ok) :
    Calls Tryz.prog 43 #[.pointer (some ⟨q, 0, none⟩), .int .i64 now] w fun e w' => e = .returned (.tuple #[]) ∧ ∃ s1, AccR s now s1 ∧ QTo w B q A A' s1 w' := by
  have hl := hok.len
  refine (accept_any w B q c c' A A' s now hB hQ (by omega) (by omega) hok.ord).mono ?_
  rintro e w' ⟨rfl, r, A2, c2, A3, c3, hr, h1, h2, h3⟩
  exact ⟨rfl, accS s now r, ⟨r, hr, rfl⟩, A2, c2, A3, c3, h1, h2, h3⟩
end Go.Proofs.YtbofclohnmojmaaGreatDoor
namespace Go.Proofs.YtbofclohnmojmaaGreatDoor
open Go.RowKit
open Go.Sort (grow)

/-- The listed table, that lies below block B. -/
def LaidB (w : World) (B : Nat) : Prop := Lib.TabBelow Tryz.prog B w "internal/strconv.uint64pow10" .u64 Lib.pow10Tab
theorem LaidB.at_ {w : World} {B : Nat} (h : LaidB w B) : LaidW w := ⟨Lib.TabBelow.here h⟩
theorem LaidB.on {w w' : World} {B : Nat} (h : LaidB w B) (hb : Below B w w') : LaidB w' B := Lib.TabBelow.on h hb
theorem LaidW.below_ {w : World} (h : LaidW w) : LaidB w w.heap.size := Lib.tabBelow_of_tabIs h.tab
theorem ff_ge {w : World} {B q c c' : Nat} {A A' : Option Addr} {s : QS} (h : FQ w B q A c A' c' s) : ∀ k, ff q A A' k → B ≤ k := fun k hk => (h.foot_lt k hk).1
/-- The error of an event that is sent, its time being accepted. -/
def sndE (s : QS) (x : Ev) : Int := if chkE x ≠ 0 then chkE x else if (hasD s.d x.id || hasL s.l x.id) = true then 6 else if 256 ≤ s.l.length + s.d.length then 3 else 0
def sndS (s : QS) (x : Ev) (now : Int) (Ay : Option Addr) (cy : Nat) : QS := if sndE s x = 0 then { s with l := s.l ++ [⟨{ x with A := Ay, cp := cy }, now, 0, false, s.arr⟩], arr := s.arr + 1 } else s
/-- What Send leaves. -/
def SdPost (w : World) (B q : Nat) (A A' : Option Addr) (s : QS) (x : Ev) (now : Int) (e : Ending) (w' : World) : Prop :=
  (clkE s.now now ≠ 0 ∧ e = .returned (.int .i64 (clkE s.now now)) ∧ QTo w B q A A' s w') ∨
  (clkE s.now now = 0 ∧ ∃ s1 Ay cy, AccR s now s1 ∧ e = .returned (.int .i64 (sndE s1 x)) ∧ QTo w B q A A' (sndS s1 x now Ay cy) w')
theorem clk0 {t now : Int} (h : clkE t now = 0) : 0 ≤ now ∧ now ≤ 1073741824 ∧ t ≤ now := by
  unfold clkE at h
  split at h
  · cases h
  · rename_i h1
    split at h
    · cases h
    · have := (timeB_iff now).1 (by cases e : timeB now; · exact absurd e h1
                                    · rfl)
      omega
section
variable {w : World} {B q c c' : Nat} {A A' : Option Addr} {s : QS}
/-- The queue behind one more waiting event. -/
theorem FQ.pushL {w w5 : World} {s : QS} (h : FQ w B q A c A' c' s) {x : En} {v' : Value} (he : EvQ w B x.ev) (hown : w5.ownsRow B 76 11 v' (s.l.length + 1) (s.l.flatMap En.cells ++ x.cells)) (hc : Chg (fun k => A.map (·.block) = some k) w w5) (hblk : v'.ownBlock = (Value.slice A s.l.length c).ownBlock ∨ ∃ n, v'.ownBlock = some n ∧ w.heap.size ≤ n) :
    ∃ A2 c2, v' = .slice A2 (s.l.length + 1) c2 ∧ FQ (w5.setCell ⟨q, 4, none⟩ v') B q A2 c2 A' c' { s with l := s.l ++ [x] } ∧ Chg (fun k => k = q ∨ A.map (·.block) = some k) w (w5.setCell ⟨q, 4, none⟩ v') ∧ ∀ k, A2.map (·.block) = some k → A.map (·.block) = some k ∨ w.heap.size ≤ k := by
  obtain ⟨A2, c2, rfl⟩ := own_slice hown
  have hne := h.ne
  have hoff : OffC w (fun k => A.map (·.block) = some k) := fun k hk => h.offC k (.inr (.inl hk))
  have hA2 : ∀ k, A2.map (·.block) = some k → A.map (·.block) = some k ∨ w.heap.size ≤ k := fun k hk => by
    rcases hblk with e | ⟨n, e, hn⟩
    · rw [own_eq, own_eq] at e
      exact .inl (by rw [← e]; exact hk)
    · rw [own_eq, hk] at e
      injection e with e
      exact .inr (by omega)
  have hd : OwnE w5 B (.slice A2 (s.l ++ [x]).length c2) (s.l ++ [x]) := by
    unfold OwnE
    rw [List.length_append, List.flatMap_append]
    simpa using hown
  have hblk5 : Blk w5 q 57 (qC s A c A' c') := hc.blk h.blk hne.1
  have hdead5 := hc.own h.dead (fun k hk e => by rw [own_eq] at hk; exact hne.2.2 k e hk)
  have hc2 : Chg (fun k => k = q) w5 (w5.setCell ⟨q, 4, none⟩ (.slice A2 (s.l.length + 1) c2)) := (Chg.refl (fun k => k = q) w5).setCell (p := ⟨q, 4, none⟩) (fun _ => rfl) _
  have hoff2 : OffC w5 (fun k => k = q) := by
    rintro k rfl cs m e
    unfold Blk at hblk5
    rw [hblk5] at e
    injection e with e
    injection e with _ e
    exact absurd e (by decide)
  refine ⟨A2, c2, rfl, ⟨?_, ?_, ?_, fun y hy => ?_, fun y hy => ((h.bd y hy).chg hc hoff).chg hc2 hoff2, h.hq⟩, (hc.mono (T := fun k => k = q ∨ A.map (·.block) = some k) (fun _ hk => .inr hk)).trans hc2 (fun _ _ hk => .inl hk), hA2⟩
  · have := hblk5.set_ 4 (.slice A2 (s.l.length + 1) c2)
    unfold qC at this ⊢
    rw [List.length_append]
    exact this
  · exact hc2.own hd (fun k hk e => by subst e; exact hblk5.off hd (by decide) (k := k) hk rfl)
  · exact hc2.own hdead5 (fun k hk e => by subst e; exact hblk5.off hdead5 (by decide) (k := k) hk rfl)
  · rcases List.mem_append.1 hy with hy | hy
    · exact ((h.bl y hy).chg hc hoff).chg hc2 hoff2
    · rw [List.mem_singleton.1 hy]; exact (he.chg hc hoff).chg hc2 hoff2
theorem built_en (x : Ev) (Ay : Option Addr) (cy : Nat) (now arr : Int) (W : World) : (Instr.build 76 #[(0, .agg #[.string x.id, .string x.tn, .string x.src, .string x.key, .int .i64 x.at_, .string x.cause, .slice Ay x.body.length cy]), (1, .int .i64 now), (4, .int .i64 arr)]).run Tryz.prog W = .ok (.agg #[.string x.id, .string x.tn, .string x.src, .string x.key, .int .i64 x.at_, .string x.cause, .slice Ay x.body.length cy, .int .i64 now, .int .i64 0, .bool false, .int .i64 arr]) W := run_build W _ _ _ (by kernel_rfl)
/-- The queue behind one more waiting event, in the middle of Send. -/
def PushLMid (w wx : World) (B q : Nat) (A A' : Option Addr) (c' : Nat) (s : QS) (x : Ev) (now : Int) : Prop := ∃ Ay cy A2 c2, FQ wx B q A2 c2 A' c' { s with l := s.l ++ [⟨{ x with A := Ay, cp := cy }, now, 0, false, s.arr⟩] } ∧ Chg (fun k => k = q ∨ A.map (·.block) = some k) w wx ∧ ∀ k, A2.map (·.block) = some k → A.map (·.block) = some k ∨ w.heap.size ≤ k
theorem pushL_mid {w5 w6 w7 : World} {B q c c' c4 : Nat} {A A' A4 : Option Addr} {s : QS} {x : Ev} {now : Int} {Ay : Option Addr} {cy : Nat} {v' : Value} {o : Obj} (hq : FQ w6 B q A c A' c' s) (hb : Below w5.heap.size w5 w6) (hev : EvQ w6 w5.heap.size { x with A := Ay, cp := cy }) (hB : B ≤ w5.heap.size)
    (hown : w7.ownsRow B 76 11 v' (s.l.length + 1) (s.l.flatMap En.cells ++ (⟨{ x with A := Ay, cp := cy }, now, 0, false, s.arr⟩ : En).cells)) (hcg : Chg (fun k => A.map (·.block) = some k) w6 w7) (hblk : v'.ownBlock = (Value.slice A s.l.length c).ownBlock ∨ v'.ownBlock = some (w6.alloc o).heap.size) (hv : v' = .slice A4 (s.l.length + 1) c4) :
    PushLMid w5 (w7.setCell ⟨q, 4, none⟩ (.slice A4 (s.l.length + 1) c4)) B q A A' c' s x now := by
  subst hv
  obtain ⟨A5, c5, e5, h1, h2, h3⟩ := FQ.pushL hq (x := ⟨{ x with A := Ay, cp := cy }, now, 0, false, s.arr⟩) (hev.base hB) hown hcg (hblk.imp id (fun h => ⟨_, h, by simp⟩))
  exact ⟨Ay, cy, A5, c5, h1, (Chg.of_below hb).trans h2 (fun _ _ h => h), fun k hk => (h3 k hk).imp id (fun h => Nat.le_trans hb.size h)⟩
attribute [local go_sem ↓] built_en
theorem reads_new11 (W : World) (T : TypeId) (x0 x1 x2 x3 x4 x5 x6 x7 x8 x9 x10 : Value) : Reads (W.alloc (.cells #[x0, x1, x2, x3, x4, x5, x6, x7, x8, x9, x10] T)) (W.heap.size + 1) 11 (some ⟨W.heap.size, 0, none⟩) 1 [x0, x1, x2, x3, x4, x5, x6, x7, x8, x9, x10] :=
  ⟨rfl, fun _ => ⟨_, _, rfl, by omega, fun j u hu => by have := cells_new_at (w := W) (cs := [x0, x1, x2, x3, x4, x5, x6, x7, x8, x9, x10]) (e := T) (g := W.heap.size) rfl j u hu; rwa [Addr.add_lit] at this⟩⟩
/-- A body that a call on the queue leaves alone. -/
def EvStay (w : World) (q : Nat) (A A' : Option Addr) (x : Ev) : Prop := ∀ w', Chg (ff q A A') w w' → EvIn w' w'.heap.size x
set_option maxHeartbeats 16000000 in
set_option maxRecDepth 20000 in
theorem Send_gen (hB : B ≤ w.heap.size) (hQ : FQ w B q A c A' c' s) (hok : s.ok) (harr : s.arr < 1000000) (x : Ev) (hx : EvStay w q A A' x) (hs : evB x) (now : Int) (hX : LaidB w B) :
    Calls Tryz.prog 28 #[.pointer (some ⟨q, 0, none⟩), .agg #[.string x.id, .string x.tn, .string x.src, .string x.key, .int .i64 x.at_, .string x.cause, .slice x.A x.body.length x.cp], .int .i64 now] w (SdPost w B q A A' s x now) := by
  have hr : 0 < s.r := by have := hok.r; omega
  have hql := hQ.blk.lt
  have HQ := Lib.hid hQ
  have HK := Lib.hid hok
  have HX := Lib.hid hx
  have HS := Lib.hid hs
  have HL := Lib.hid hX
  have HBW := Lib.hid hB
  clear hQ hok hx hs hX hB
  go_enter Tryz.func28, Tryz.ntmps28
  go_upto_region 1 with fail
  have hb0 := al_new w (.cells #[.string x.id, .string x.tn, .string x.src, .string x.key, .int .i64 x.at_, .string x.cause, .slice x.A x.body.length x.cp] 40)
  have be := Blk.new w 40 #[.string x.id, .string x.tn, .string x.src, .string x.key, .int .i64 x.at_, .string x.cause, .slice x.A x.body.length x.cp]
  have HQ0 := Lib.hid (HQ.out.below hb0)
  have HX0 := Lib.hid (show ∀ w', Chg (ff q A A') (w.alloc (.cells #[.string x.id, .string x.tn, .string x.src, .string x.key, .int .i64 x.at_, .string x.cause, .slice x.A x.body.length x.cp] 40)) w' → EvIn w' w'.heap.size x from fun w' hc => HX.out w' ((Chg.of_below hb0).trans hc (fun _ _ h => h)))
  have HL0 := Lib.hid (HL.out.on (hb0.mono HBW.out))
  have HB0 := Lib.hid hb0
  have hz0 : w.heap.size < (w.alloc (.cells #[.string x.id, .string x.tn, .string x.src, .string x.key, .int .i64 x.at_, .string x.cause, .slice x.A x.body.length x.cp] 40)).heap.size := be.lt
  clear hb0
  generalize w.alloc (.cells #[.string x.id, .string x.tn, .string x.src, .string x.key, .int .i64 x.at_, .string x.cause, .slice x.A x.body.length x.cp] 40) = w0 at *
  go_wp2_with fail
  refine (madeQ_any HQ0.out hr).mono ?_
  rintro e wq ⟨rfl, hq⟩
  obtain rfl := hq.symm
  go_wp2_with fail
  refine (clock_any HQ0.out now).mono ?_
  rintro e wq ⟨rfl, hq⟩
  obtain rfl := hq.symm
  by_cases hc : clkE s.now now = 0
  · have HC := Lib.hid hc
    rw [hc]
    clear hc
    go_wp2_with fail
    refine (accept_to now (Nat.le_trans HBW.out (Nat.le_of_lt hz0)) HQ0.out HK.out).mono ?_
    rintro e w1 ⟨rfl, s1, hacc, A2, c2, A3, c3, hq1, hch, hfr⟩
    have HAC := Lib.hid hacc
    have HK1 := Lib.hid (hacc.ok HK.out ⟨(clk0 HC.out).1, (clk0 HC.out).2.1⟩)
    have HSA := Lib.hid (show s1.arr = s.arr by obtain ⟨r, _, rfl⟩ := hacc; rfl)
    have hfoot := HQ.out.foot_lt
    have b1 := hch.blk be (fun hk => by have := (hfoot _ hk).2; omega)
    have HCH := Lib.hid hch
    have HFR := Lib.hid hfr
    have HQ1 := Lib.hid hq1
    have hbl := hch.toBelow (B := B) (fun k hk => (hfoot k hk).1) (Nat.le_trans HBW.out (Nat.le_of_lt hz0))
    have HX1 := Lib.hid (show EvIn w1 w1.heap.size x from HX0.out w1 hch)
    have HL1 := Lib.hid (HL0.out.on hbl)
    have hz1 : w0.heap.size ≤ w1.heap.size := hbl.size
    clear hacc hq1 hch hfr hfoot hbl be
    have e0 : w1.cell? ⟨w.heap.size, 0, none⟩ = some (.string x.id) := b1.cell 0
    have e1 : w1.cell? ⟨w.heap.size, 1, none⟩ = some (.string x.tn) := b1.cell 1
    have e2 : w1.cell? ⟨w.heap.size, 2, none⟩ = some (.string x.src) := b1.cell 2
    have e3 : w1.cell? ⟨w.heap.size, 3, none⟩ = some (.string x.key) := b1.cell 3
    have e4 : w1.cell? ⟨w.heap.size, 4, none⟩ = some (.int .i64 x.at_) := b1.cell 4
    have e5 : w1.cell? ⟨w.heap.size, 5, none⟩ = some (.string x.cause) := b1.cell 5
    have e6 : w1.cell? ⟨w.heap.size, 6, none⟩ = some (.slice x.A x.body.length x.cp) := b1.cell 6
    go_wp2_with fail
    refine (eCheck_any x w1 HX1.out HS.out HL1.out.at_).mono ?_
    rintro e w2 ⟨rfl, hb⟩
    have HQ2 := Lib.hid (HQ1.out.below hb)
    have b2 := b1.on hb
    have HB2 := Lib.hid hb
    have HX2 := Lib.hid (HX1.out.on hb)
    have hz2 : w1.heap.size ≤ w2.heap.size := hb.size
    clear hb b1 e0 e1 e2 e3 e4 e5 e6
    by_cases he : chkE x = 0
    · have HE0 := Lib.hid he
      rw [he]
      clear he
      go_upto_region 11 with fail
      have hb3 := al_new w2 (.cells #[.func (.func 48) #[] #[.pointer (some ⟨w.heap.size, 0, none⟩)]] 88)
      have bf := Blk.new w2 88 #[.func (.func 48) #[] #[.pointer (some ⟨w.heap.size, 0, none⟩)]]
      have HQ3 := Lib.hid (HQ2.out.below hb3)
      have b3 := b2.on hb3
      have HB3 := Lib.hid (HB2.out.trans (hb3.mono hz2))
      have HX3 := Lib.hid (HX2.out.on hb3)
      have hz3 : w2.heap.size < (w2.alloc (.cells #[.func (.func 48) #[] #[.pointer (some ⟨w.heap.size, 0, none⟩)]] 88)).heap.size := bf.lt
      clear hb3 b2
      generalize w2.alloc (.cells #[.func (.func 48) #[] #[.pointer (some ⟨w.heap.size, 0, none⟩)]] 88) = w3 at *
      have hlen := HK1.out.len
      have r0 := fun d os => cell_regrown (v := .slice A3 s1.d.length c3) (HQ3.out.blk.cell 5) d os
      have r1 := fun d os => cell_regrown (v := .slice A2 s1.l.length c2) (HQ3.out.blk.cell 4) d os
      have r2 := fun d os => cell_regrown (v := .func (.func 48) #[] #[.pointer (some ⟨w.heap.size, 0, none⟩)]) (bf.cell 0) d os
      have HCD := Lib.hid (fun d os => Calls.regrown_of (hasD_any x.id w.heap.size B A3 c3 s1.d (grow (redrawn w3 d) os) (own_below HQ3.out.dead (below_regrown w3 d os)) (by omega) (cell_regrown (b3.cell 0) d os)))
      have HCL := Lib.hid (fun d os => Calls.regrown_of (hasL_any x.id w.heap.size w2.heap.size B A2 c2 s1.l (grow (redrawn w3 d) os) (own_below HQ3.out.row (below_regrown w3 d os)) (by omega) (cell_regrown (b3.cell 0) d os) (cell_regrown (bf.cell 0) d os)))
      cases hd : hasD s1.d x.id with
      | true =>
        rw [hd] at HCD
        refine wp_region_quiet_below (by kernel_rfl) (by kernel_rfl) ?_
        repeat (go_big_quiet_step (first | (go_at_call 49; go_must (exact HCD.out _ _)) | (go_at_call 50; go_must (exact HCL.out _ _))))
        refine wpQuiet_nil ?_
        intro _ hw'
        obtain ⟨⟨dq, osq⟩, hw''⟩ := hw'
        subst hw''
        have hb4 := below_regrown w3 dq osq
        have HB4 := Lib.hid (HB3.out.trans (hb4.mono (Nat.le_trans hz2 (Nat.le_of_lt hz3))))
        have HQ4 := Lib.hid (HQ3.out.below hb4)
        have b4 := b3.on hb4
        have HX4 := Lib.hid (HX3.out.on hb4)
        have hz4 : w3.heap.size ≤ (grow (redrawn w3 dq) osq).heap.size := hb4.size
        clear hb4 r0 r1 r2 HCD HCL b3 bf
        generalize grow (redrawn w3 dq) osq = w4 at *
        have HE := Lib.hid (show (6 : Int) = sndE s1 x by unfold sndE; rw [if_neg (by rw [HE0.out]; decide), if_pos (by rw [hd]; rfl)])
        go_wp2_with fail
        go_ret
        refine .inr ⟨HC.out, s1, none, 0, HAC.out, ret_int HE.out, ?_⟩
        have e2 : sndS s1 x now none 0 = s1 := by unfold sndS; rw [← HE.out, if_neg (by decide)]
        rw [e2]
        exact QTo.trans (w1 := w1) ((Chg.of_below HB0.out).trans HCH.out (fun _ _ h => h)) (fun k hk => (HFR.out k hk).imp id (fun h => by omega)) (HQ1.out.to HB4.out)
      | false =>
        rw [hd] at HCD
        cases hl : hasL s1.l x.id with
        | true =>
          rw [hl] at HCL
          refine wp_region_quiet_below (by kernel_rfl) (by kernel_rfl) ?_
          repeat (go_big_quiet_step (first | (go_at_call 49; go_must (exact HCD.out _ _)) | (go_at_call 50; go_must (exact HCL.out _ _))))
          refine wpQuiet_nil ?_
          intro _ hw'
          obtain ⟨⟨dq, osq⟩, hw''⟩ := hw'
          subst hw''
          have hb4 := below_regrown w3 dq osq
          have HB4 := Lib.hid (HB3.out.trans (hb4.mono (Nat.le_trans hz2 (Nat.le_of_lt hz3))))
          have HQ4 := Lib.hid (HQ3.out.below hb4)
          have b4 := b3.on hb4
          have HX4 := Lib.hid (HX3.out.on hb4)
          have hz4 : w3.heap.size ≤ (grow (redrawn w3 dq) osq).heap.size := hb4.size
          clear hb4 r0 r1 r2 HCD HCL b3 bf
          generalize grow (redrawn w3 dq) osq = w4 at *
          have HE := Lib.hid (show (6 : Int) = sndE s1 x by unfold sndE; rw [if_neg (by rw [HE0.out]; decide), if_pos (by rw [hd, hl]; rfl)])
          go_wp2_with fail
          go_ret
          refine .inr ⟨HC.out, s1, none, 0, HAC.out, ret_int HE.out, ?_⟩
          have e2 : sndS s1 x now none 0 = s1 := by unfold sndS; rw [← HE.out, if_neg (by decide)]
          rw [e2]
          exact QTo.trans (w1 := w1) ((Chg.of_below HB0.out).trans HCH.out (fun _ _ h => h)) (fun k hk => (HFR.out k hk).imp id (fun h => by omega)) (HQ1.out.to HB4.out)
        | false =>
          rw [hl] at HCL
          refine wp_region_quiet_below (by kernel_rfl) (by kernel_rfl) ?_
          repeat (go_big_quiet_step (first | (go_at_call 49; go_must (exact HCD.out _ _)) | (go_at_call 50; go_must (exact HCL.out _ _))))
          refine wpQuiet_nil ?_
          intro _ hw'
          obtain ⟨⟨dq, osq⟩, hw''⟩ := hw'
          subst hw''
          have hb4 := below_regrown w3 dq osq
          have HB4 := Lib.hid (HB3.out.trans (hb4.mono (Nat.le_trans hz2 (Nat.le_of_lt hz3))))
          have HQ4 := Lib.hid (HQ3.out.below hb4)
          have b4 := b3.on hb4
          have HX4 := Lib.hid (HX3.out.on hb4)
          have hz4 : w3.heap.size ≤ (grow (redrawn w3 dq) osq).heap.size := hb4.size
          clear hb4 r0 r1 r2 HCD HCL b3 bf
          generalize grow (redrawn w3 dq) osq = w4 at *
          have hno : ¬ (hasD s1.d x.id || hasL s1.l x.id) = true := by rw [hd, hl]; decide
          have HNO := Lib.hid hno
          have e5 : w4.cell? ⟨q, 5, none⟩ = some (.slice A3 s1.d.length c3) := HQ4.out.blk.cell 5
          have e4 : w4.cell? ⟨q, 4, none⟩ = some (.slice A2 s1.l.length c2) := HQ4.out.blk.cell 4
          clear hno hd hl
          have HWS := Lib.hid (w64 (x := (s1.l.length : Int) + s1.d.length) (by omega) (by omega))
          by_cases hful : 256 ≤ s1.l.length + s1.d.length
          · have HE := Lib.hid (show (3 : Int) = sndE s1 x by unfold sndE; rw [if_neg (by rw [HE0.out]; decide), if_neg HNO.out, if_pos hful])
            have d1 : decide ((256 : Int) ≤ (s1.l.length : Int) + s1.d.length) = true := decide_eq_true (by omega)
            obtain ⟨ws1, ws2⟩ := HWS.out
            go_wp2_with fail
            go_quiet (fail)
            go_wp2_with fail
            go_ret
            refine .inr ⟨HC.out, s1, none, 0, HAC.out, ret_int HE.out, ?_⟩
            have e2 : sndS s1 x now none 0 = s1 := by unfold sndS; rw [← HE.out, if_neg (by decide)]
            rw [e2]
            exact QTo.trans (w1 := w1) ((Chg.of_below HB0.out).trans HCH.out (fun _ _ h => h)) (fun k hk => (HFR.out k hk).imp id (fun h => by clear ws1 ws2; omega)) (HQ1.out.to (HB4.out.trans (below_drewN' _ _ _)))
          · have HE := Lib.hid (show (0 : Int) = sndE s1 x by unfold sndE; rw [if_neg (by rw [HE0.out]; decide), if_neg HNO.out, if_neg hful])
            have d1 : decide ((256 : Int) ≤ (s1.l.length : Int) + s1.d.length) = false := decide_eq_false (by omega)
            have HLEN := Lib.hid (show s1.l.length ≤ 256 by omega)
            obtain ⟨ws1, ws2⟩ := HWS.out
            go_wp2_with fail
            go_quiet (fail)
            have hb5 := below_drewN' w4.heap.size w4 nq
            have HQ5 := Lib.hid (HQ4.out.below hb5)
            have b5 := b4.on hb5
            have HX5 := Lib.hid (show EvIn (w4.drewN nq).drew (w4.drewN nq).drew.heap.size x from HX4.out.on (hb5.drew))
            have HB5 := Lib.hid (HB4.out.trans (hb5.mono (by clear ws1 ws2; omega)))
            have hz5 : w3.heap.size ≤ (w4.drewN nq).heap.size := hz4
            clear ws1 ws2 d1 hful e5 e4 hb5 b4
            generalize w4.drewN nq = w5 at *
            have e4 : w5.cell? ⟨q, 4, none⟩ = some (.slice A2 s1.l.length c2) := HQ5.out.blk.cell 4
            have f4 : w5.frozen? ⟨q, 4, none⟩ = false := HQ5.out.blk.frozen 4
            have e3 : w5.cell? ⟨q, 3, none⟩ = some (.int .i64 s1.arr) := HQ5.out.blk.cell 3
            have g0 : w5.cell? ⟨w.heap.size, 0, none⟩ = some (.string x.id) := b5.cell 0
            have g1 : w5.cell? ⟨w.heap.size, 1, none⟩ = some (.string x.tn) := b5.cell 1
            have g2 : w5.cell? ⟨w.heap.size, 2, none⟩ = some (.string x.src) := b5.cell 2
            have g3 : w5.cell? ⟨w.heap.size, 3, none⟩ = some (.string x.key) := b5.cell 3
            have g4 : w5.cell? ⟨w.heap.size, 4, none⟩ = some (.int .i64 x.at_) := b5.cell 4
            have g5 : w5.cell? ⟨w.heap.size, 5, none⟩ = some (.string x.cause) := b5.cell 5
            have g6 : w5.cell? ⟨w.heap.size, 6, none⟩ = some (.slice x.A x.body.length x.cp) := b5.cell 6
            have hq5 : q < w5.heap.size := HQ5.out.blk.lt
            have hbl : x.body.length ≤ 3518437208780 := HS.out.2.2.2.2.2.1
            obtain ⟨i0, ih, iz0, iz1, iz2⟩ := info_partsO info_entry2
            have HX1' := Lib.hid (show s1.l.length + 1 ≤ maxLen by have := HLEN.out; simp only [maxLen]; omega)
            have HX2' := Lib.hid (show (s1.l.length + 1) * 144 ≤ 140737488355328 by have := HLEN.out; omega)
            have HX3' := Lib.hid (show B ≤ w5.heap.size by have := HBW.out; omega)
            go_wp2_with fail
            go_cut [] from 42 to 77 (fun wx => PushLMid w5 wx B q A2 A3 c3 s1 x now)
            case first =>
              go_region_law (first
                | (go_simp; go_at_call 45; ((with_reducible refine (own_any x w5.drew HX5.out hbl).mono ?_); rintro e w6 ⟨Ay, cy, rfl, hev, hb6⟩; have HB6 := Lib.hid (show Below w5.heap.size w5 w6 from (below_drew' w5).trans hb6); have HEV := Lib.hid hev; have HQ6 := Lib.hid (HQ5.out.below HB6.out); have e4' := ((HB6.out).cell (p := ⟨q, 4, none⟩) hq5).trans e4; have e3' := ((HB6.out).cell (p := ⟨q, 3, none⟩) hq5).trans e3; have f4' := ((HB6.out).frozen (p := ⟨q, 4, none⟩) hq5).trans f4; have e4a := cell_al e4' (.cells #[.string x.id, .string x.tn, .string x.src, .string x.key, .int .i64 x.at_, .string x.cause, .slice Ay x.body.length cy, .int .i64 now, .int .i64 0, .bool false, .int .i64 s1.arr] 76); clear hev hb6; simp only [Ev.val]))
                | (refine step_append_any _ rfl (.tmp 58) (.tmp 67) 55 rfl B 76 i0 (.agg #[.string ⟨#[]⟩, .string ⟨#[]⟩, .string ⟨#[]⟩, .string ⟨#[]⟩, .int .i64 0, .string ⟨#[]⟩, .slice none 0 0, .int .i64 0, .int .i64 0, .bool false, .int .i64 0]) 11 144 Tryz.underlying55 ih iz0 iz1 iz2 rfl (by decide) (.slice A2 s1.l.length c2) s1.l.length (s1.l.flatMap En.cells) (by simp [Act.eval]) (HQ6.out.row.alloc _) (w6.heap.size + 1) (some ⟨w6.heap.size, 0, none⟩) 1 1 [.string x.id, .string x.tn, .string x.src, .string x.key, .int .i64 x.at_, .string x.cause, .slice Ay x.body.length cy, .int .i64 now, .int .i64 0, .bool false, .int .i64 s1.arr] (by simp [Act.eval]) (reads_new11 w6 _ _ _ _ _ _ _ _ _ _ _ _) (En.one ⟨{ x with A := Ay, cp := cy }, now, 0, false, s1.arr⟩) HX1'.out HX2'.out (Nat.le_trans HX3'.out (Nat.le_trans HB6.out.size (by simp))) ?_; intro v' w7 hown hgr hblk; obtain ⟨A4, c4, hv⟩ := own_slice hown; have hcg : Chg (fun k => A2.map (·.block) = some k) w6 w7 := ((Chg.refl _ w6).alloc _).grown hgr (fun k hk _ => by rw [own_eq] at hk; exact hk); have HG7 := Lib.hid (And.intro hown (And.intro hcg hblk)); have e47 := (hcg.cell (p := ⟨q, 4, none⟩) HQ6.out.blk.lt HQ6.out.ne.1).trans e4'; have f47 : w7.frozen? ⟨q, 4, none⟩ = false := (hcg.blk HQ6.out.blk HQ6.out.ne.1).frozen 4; clear hown hgr hblk hcg; rw [hv]))
              all_goals
                go_wp2_with fail
                go_meet
                exact pushL_mid HQ6.out HB6.out HEV.out HX3'.out HG7.out.1 HG7.out.2.1 HG7.out.2.2 hv
            case rest =>
              obtain ⟨Ay, cy, A4, c4, hq8, hc8, hA8⟩ := hcut
              have HQ8 := Lib.hid hq8
              have q3 : wc.cell? ⟨q, 3, none⟩ = some (.int .i64 s1.arr) := hq8.blk.cell 3
              have f3 : wc.frozen? ⟨q, 3, none⟩ = false := hq8.blk.frozen 3
              have h9 := hq8.setq (j := 3) (u := .int .i64 (s1.arr + 1)) (s' := { s1 with l := s1.l ++ [⟨{ x with A := Ay, cp := cy }, now, 0, false, s1.arr⟩], arr := s1.arr + 1 }) rfl rfl rfl
              have H9 := Lib.hid h9
              have HC8 := Lib.hid (And.intro hc8 hA8)
              have HAW := Lib.hid (w64 (x := s1.arr + 1) (by have := HK.out.arr; rw [HSA.out]; omega) (by have := HK.out.arr; rw [HSA.out]; omega))
              obtain ⟨wa1, wa2⟩ := HAW.out
              clear hq8 hc8 hA8 h9 e4 f4 e3 b5 g0 g1 g2 g3 g4 g5 g6
              go_wp2_with fail
              go_ret
              have e2 : sndS s1 x now Ay cy = { s1 with l := s1.l ++ [⟨{ x with A := Ay, cp := cy }, now, 0, false, s1.arr⟩], arr := s1.arr + 1 } := by unfold sndS; rw [if_pos HE.out.symm]
              refine .inr ⟨HC.out, s1, Ay, cy, HAC.out, ret_int HE.out, ?_⟩
              rw [e2]
              refine QTo.trans (w1 := w1) (A2 := A2) (A3 := A3) ((Chg.of_below HB0.out).trans HCH.out (fun _ _ h => h)) (fun k hk => (HFR.out k hk).imp id (fun h => by clear wa1 wa2; omega)) ⟨A4, c4, A3, c3, H9.out.1, ?_, ?_⟩
              · refine (Chg.of_below HB5.out).trans (HC8.out.1.trans (H9.out.2.mono (T := fun k => k = q ∨ A2.map (·.block) = some k) (fun _ h => .inl h)) (fun _ _ h => h)) (fun k _ h => h.elim .inl (fun h => .inr (.inl h)))
              · rintro k (rfl | e | e)
                · exact .inl (.inl rfl)
                · exact (HC8.out.2 k e).imp (fun h => .inr (.inl h)) (fun h => Nat.le_trans HB5.out.size h)
                · exact .inl (.inr (.inr e))
    · have d1 : (chkE x != 0) = true := by simpa using he
      have HE := Lib.hid (show sndE s1 x = chkE x by unfold sndE; rw [if_pos he])
      have HN := Lib.hid he
      clear he
      go_wp2_with fail
      go_ret
      refine .inr ⟨HC.out, s1, none, 0, HAC.out, by rw [HE.out]; rfl, ?_⟩
      have e2 : sndS s1 x now none 0 = s1 := by unfold sndS; rw [HE.out, if_neg HN.out]
      rw [e2]
      exact QTo.trans (w1 := w1) ((Chg.of_below HB0.out).trans HCH.out (fun _ _ h => h)) (fun k hk => (HFR.out k hk).imp id (fun h => by omega)) (HQ1.out.to HB2.out)
  · have d1 : (clkE s.now now != 0) = true := by simpa using hc
    have HC := Lib.hid hc
    clear hc
    go_wp2_with fail
    go_ret
    exact .inl ⟨HC.out, rfl, HQ.out.to HB0.out⟩
theorem EvIn.stay {x : Ev} (hB : B ≤ w.heap.size) (hQ : FQ w B q A c A' c' s) (hx : EvIn w B x) : EvStay w q A A' x := fun _ hc =>
  have hbl := hc.toBelow (B := B) (fun k hk => (hQ.foot_lt k hk).1) hB
  (hx.keep hbl).more (Nat.le_trans hB hbl.size)
theorem EvQ.stay {x : Ev} {B2 : Nat} (hQ : FQ w B q A c A' c' s) (hx : EvQ w B2 x) : EvStay w q A A' x := fun _ hc => (hx.chg hc hQ.offC).inn
theorem Send_any (hB : B ≤ w.heap.size) (hQ : FQ w B q A c A' c' s) (hok : s.ok) (harr : s.arr < 1000000) (x : Ev) (hx : EvIn w B x) (hs : evB x) (now : Int) (hX : LaidB w B) :
    Calls Tryz.prog 28 #[.pointer (some ⟨q, 0, none⟩), .agg #[.string x.id, .string x.tn, .string x.src, .string x.key, .int .i64 x.at_, .string x.cause, .slice x.A x.body.length x.cp], .int .i64 now] w (SdPost w B q A A' s x now) := Send_gen hB hQ hok harr x (hx.stay hB hQ) hs now hX
end
end Go.Proofs.YtbofclohnmojmaaGreatDoor
namespace Go.Proofs.YtbofclohnmojmaaGreatDoor
open Go.RowKit
open Go.Sort (grow)

structure De where
  rc : ByteArray
  ev : Ev
  cnt : Int
def De.cells (d : De) : List Value := [.string d.rc, .string d.ev.id, .string d.ev.tn, .string d.ev.src, .string d.ev.key, .int .i64 d.ev.at_, .string d.ev.cause, .slice d.ev.A d.ev.body.length d.ev.cp, .int .i64 d.cnt]
theorem De.len (d : De) : d.cells.length = 9 := rfl
theorem De.one (d : De) : ∀ u ∈ d.cells, u.oneCell' = true := by intro u hu; simp [De.cells] at hu; rcases hu with rfl | rfl | rfl | rfl | rfl | rfl | rfl | rfl | rfl <;> rfl
def De.core (d : De) : De := { d with ev := d.ev.core }
def OwnD (w : World) (B : Nat) (v : Value) (l : List De) : Prop := w.ownsRow B 46 9 v l.length (l.flatMap De.cells)
theorem OwnD.push {w : World} {base : Nat} {v : Value} {l : List De} {x : De} (h : w.ownsRow base 46 9 v (l.length + 1) (l.flatMap De.cells ++ x.cells)) : OwnD w base v (l ++ [x]) := by
  unfold OwnD
  rw [List.length_append, List.flatMap_append]
  simpa using h
theorem info_del : (Tryz.prog.info? 46).map (fun i => (i.zero, i.size, i.bytes)) = some (some (.agg #[.string ⟨#[]⟩, .string ⟨#[]⟩, .string ⟨#[]⟩, .string ⟨#[]⟩, .string ⟨#[]⟩, .int .i64 0, .string ⟨#[]⟩, .slice none 0 0, .int .i64 0]), 9, 136) := by kernel_rfl
/-- An entry behind its delivery. -/
def En.got (now v : Int) (x : En) : En := { x with vis := now + v, rcv := x.rcv + 1, held := true }
def En.del (x : En) : De := ⟨rcpS x.ev.id x.rcv, x.ev, x.rcv⟩
/-- What is delivered of the indices, and the entries behind it. -/
def rcvGo (now v : Int) : List Nat → List En → List De × List En
  | [], l => ([], l)
  | i :: is, l => match l[i]? with
    | none => ([], l)
    | some x => ((x.got now v).del :: (rcvGo now v is (l.set i (x.got now v))).1, (rcvGo now v is (l.set i (x.got now v))).2)
theorem rcvGo_cons {now v : Int} {i : Nat} {is : List Nat} {l : List En} {x : En} (h : l[i]? = some x) : rcvGo now v (i :: is) l = ((x.got now v).del :: (rcvGo now v is (l.set i (x.got now v))).1, (rcvGo now v is (l.set i (x.got now v))).2) := by
  rw [rcvGo, h]
/-- The indices that a Receive takes. -/
def takeI (now : Int) (l : List En) (most : Int) : List Nat := (rdyL now l l.length).take most.toNat
def rcvS (s : QS) (most : Int) : QS := { s with l := (rcvGo s.now s.v (takeI s.now s.l most) s.l).2 }
def rcvD (s : QS) (most : Int) : List De := (rcvGo s.now s.v (takeI s.now s.l most) s.l).1
theorem En.set8 (x : En) (u : Int) : { x with rcv := u }.cells = x.cells.set 8 (.int .i64 u) := rfl
theorem En.set9 (x : En) (u : Bool) : { x with held := u }.cells = x.cells.set 9 (.bool u) := rfl
theorem En.set7 (x : En) (u : Int) : { x with vis := u }.cells = x.cells.set 7 (.int .i64 u) := rfl
section
variable {w : World} {B q c c' g : Nat} {A A' : Option Addr} {s : QS}
/-- A store into an entry. -/
theorem FQ.setE (h : FQ w B q (some ⟨g, 0, none⟩) c A' c' s) {i j : Nat} {x x' : En} {u : Value} (hx : s.l[i]? = some x) (hj : j < 11) (hu : x'.cells = x.cells.set j u) (he : x'.ev = x.ev) :
    FQ (w.setCell ⟨g, i * 11 + j, none⟩ u) B q (some ⟨g, 0, none⟩) c A' c' { s with l := s.l.set i x' } ∧ Chg (fun k => k = g) w (w.setCell ⟨g, i * 11 + j, none⟩ u) := by
  have hc : Chg (fun k => k = g) w (w.setCell ⟨g, i * 11 + j, none⟩ u) := (Chg.refl (fun k => k = g) w).setCell (p := ⟨g, i * 11 + j, none⟩) (fun _ => rfl) u
  have hne := h.ne
  have hS : OffC w (fun k => k = g) := fun k hk => h.offC k (.inr (.inl (by rw [hk]; rfl)))
  have hrow := own_store h.row (i * 11 + j) u
  rw [flat_set En.len hj s.l i x hx hu] at hrow
  refine ⟨⟨?_, ?_, hc.own h.dead (fun k hk e => by rw [own_eq] at hk; exact hne.2.2 k (by rw [e]; rfl) hk), fun y hy => ?_, fun e he => (h.bd e he).chg hc hS, h.hq⟩, hc⟩
  · have := hc.blk h.blk (fun e => hne.1 (by rw [e]; rfl))
    unfold qC at this ⊢
    rw [List.length_set]
    exact this
  · unfold OwnE
    rw [List.length_set]
    exact hrow
  · rcases List.mem_or_eq_of_mem_set hy with hy | rfl
    · exact (h.bl y hy).chg hc hS
    · rw [he]
      exact (h.bl x (List.mem_of_getElem? hx)).chg hc hS
theorem FQ.got (h : FQ w B q (some ⟨g, 0, none⟩) c A' c' s) {i : Nat} {x : En} (hx : s.l[i]? = some x) (now v : Int) :
    FQ (((w.setCell ⟨g, i * 11 + 8, none⟩ (.int .i64 (x.rcv + 1))).setCell ⟨g, i * 11 + 9, none⟩ (.bool true)).setCell ⟨g, i * 11 + 7, none⟩ (.int .i64 (now + v))) B q (some ⟨g, 0, none⟩) c A' c' { s with l := s.l.set i (x.got now v) } ∧
    Chg (fun k => k = g) w (((w.setCell ⟨g, i * 11 + 8, none⟩ (.int .i64 (x.rcv + 1))).setCell ⟨g, i * 11 + 9, none⟩ (.bool true)).setCell ⟨g, i * 11 + 7, none⟩ (.int .i64 (now + v))) := by
  have hi := (List.getElem?_eq_some_iff.1 hx).1
  have h1 := h.setE hx (j := 8) (by omega) (En.set8 x (x.rcv + 1)) rfl
  have h2 := h1.1.setE (i := i) (x := { x with rcv := x.rcv + 1 }) (by simp [hi]) (j := 9) (by omega) (En.set9 _ true) rfl
  have h3 := h2.1.setE (i := i) (x := { x with rcv := x.rcv + 1, held := true }) (by simp [hi]) (j := 7) (by omega) (En.set7 _ (now + v)) rfl
  refine ⟨?_, (h1.2.trans h2.2 (fun _ _ h => h)).trans h3.2 (fun _ _ h => h)⟩
  have := h3.1
  simp only [List.set_set] at this
  exact this
/-- The cells of an entry. -/
theorem FQ.ecell (h : FQ w B q (some ⟨g, 0, none⟩) c A' c' s) {i : Nat} {x : En} (hx : s.l[i]? = some x) {j : Nat} {u : Value} (hj : x.cells[j]? = some u) : w.cell? ⟨g, i * 11 + j, none⟩ = some u ∧ w.frozen? ⟨g, i * 11 + j, none⟩ = false := by
  have hi := (List.getElem?_eq_some_iff.1 hx).1
  obtain ⟨g', c2, e1, -, -, -, -, hc, hf⟩ := own_at h.row (by omega)
  injection e1 with e1 _ _
  injection e1 with e1
  injection e1 with e1
  subst e1
  have hjk : j < 11 := by rw [← En.len x]; exact (List.getElem?_eq_some_iff.1 hj).1
  exact ⟨hc _ _ (by rw [flat_at hx hjk]; exact hj), hf _⟩
theorem FQ.eload' (h : FQ w B q (some ⟨g, 0, none⟩) c A' c' s) {i : Nat} {x : En} (hx : s.l[i]? = some x) (P : Program) {w' : World} (hw : ∀ j, w'.cell? ⟨g, j, none⟩ = w.cell? ⟨g, j, none⟩) : Sem.run P (lc7 ⟨g, i * 11, none⟩) w' = .ok #[.string x.ev.id, .string x.ev.tn, .string x.ev.src, .string x.ev.key, .int .i64 x.ev.at_, .string x.ev.cause, .slice x.ev.A x.ev.body.length x.ev.cp] w' := by
  have := run_loadCellsFrom_list P w' ⟨g, i * 11, none⟩ x.ev.cells 7 rfl (fun j u hj => by
    rw [Addr.add_lit, hw]
    have hjk : j < 7 := by rw [← Ev.len x.ev]; exact (List.getElem?_eq_some_iff.1 hj).1
    refine (h.ecell hx (j := j) (u := u) ?_).1
    have e : x.cells = x.ev.cells ++ [.int .i64 x.vis, .int .i64 x.rcv, .bool x.held, .int .i64 x.arr] := rfl
    rw [e, List.getElem?_append_left (by rw [Ev.len]; exact hjk)]
    exact hj)
  exact this
/-- The event of an entry, loaded whole. -/
theorem FQ.eload (h : FQ w B q (some ⟨g, 0, none⟩) c A' c' s) {i : Nat} {x : En} (hx : s.l[i]? = some x) (P : Program) : Sem.run P (lc7 ⟨g, i * 11, none⟩) w = .ok #[.string x.ev.id, .string x.ev.tn, .string x.ev.src, .string x.ev.key, .int .i64 x.ev.at_, .string x.ev.cause, .slice x.ev.A x.ev.body.length x.ev.cp] w := by
  have := run_loadCellsFrom_list P w ⟨g, i * 11, none⟩ x.ev.cells 7 rfl (fun j u hj => by
    rw [Addr.add_lit]
    have hjk : j < 7 := by rw [← Ev.len x.ev]; exact (List.getElem?_eq_some_iff.1 hj).1
    refine (h.ecell hx (j := j) (u := u) ?_).1
    have e : x.cells = x.ev.cells ++ [.int .i64 x.vis, .int .i64 x.rcv, .bool x.held, .int .i64 x.arr] := rfl
    rw [e, List.getElem?_append_left (by rw [Ev.len]; exact hjk)]
    exact hj)
  exact this
end
end Go.Proofs.YtbofclohnmojmaaGreatDoor
namespace Go.Proofs.YtbofclohnmojmaaGreatDoor
open Go.RowKit
open Go.Sort (grow)

theorem reads_new9 (W : World) (T : TypeId) (x0 x1 x2 x3 x4 x5 x6 x7 x8 : Value) : Reads (W.alloc (.cells #[x0, x1, x2, x3, x4, x5, x6, x7, x8] T)) (W.heap.size + 1) 9 (some ⟨W.heap.size, 0, none⟩) 1 [x0, x1, x2, x3, x4, x5, x6, x7, x8] :=
  ⟨rfl, fun _ => ⟨_, _, rfl, by omega, fun j u hu => by have := cells_new_at (w := W) (cs := [x0, x1, x2, x3, x4, x5, x6, x7, x8]) (e := T) (g := W.heap.size) rfl j u hu; rwa [Addr.add_lit] at this⟩⟩
theorem laid_held {w3 w' : World} {B : Nat} (h : LaidB w3 B) (hb : Below w3.heap.size w3 w') (hB : B ≤ w3.heap.size) : LaidW w' := (h.on (hb.mono hB)).at_
theorem rdy_lt {now : Int} {l : List En} {n k i : Nat} (h : (rdyL now l n)[k]? = some i) : i < n := by
  have := List.mem_of_getElem? h
  unfold rdyL at this
  exact List.mem_range.1 (List.mem_filter.1 this).1
theorem takeI_at {now : Int} {l : List En} {most : Int} {k i : Nat} (h : (rdyL now l l.length)[k]? = some i) (hm : (k : Int) < most) : (takeI now l most).drop k = i :: (takeI now l most).drop (k + 1) := by
  refine drop_cons ?_
  unfold takeI
  rw [List.getElem?_take, if_pos (by omega)]
  exact h
theorem takeI_end {now : Int} {l : List En} {most : Int} {k : Nat} (h : (rdyL now l l.length).length ≤ k ∨ most ≤ k) : (takeI now l most).drop k = [] := by
  refine List.drop_of_length_le ?_
  unfold takeI
  rw [List.length_take]
  omega
theorem held_b2 {w3 w1 w' : World} {b : Nat} (hz : b ≤ w3.heap.size) (h : Below b w3 w1) (hb : Below w1.heap.size w1 w') : Below b w3 w' := h.trans (hb.mono (Nat.le_trans hz h.size))
theorem EvIn.more {w : World} {b b' : Nat} {e : Ev} (h : EvIn w b e) (hB : b ≤ b') : EvIn w b' e := Reads.more h hB
theorem EvQ.inB {w : World} {B b : Nat} {e : Ev} (h : EvQ w B e) (hb : ∀ k, e.A.map (·.block) = some k → k < b) : EvIn w b e := by
  have h2 := h.inn
  exact ⟨h2.1, fun hn => by
    obtain ⟨k, o, e1, _, hc⟩ := h2.2 hn
    exact ⟨k, o, e1, hb k (by rw [e1]; rfl), hc⟩⟩
/-- In the loop: k events have been delivered. -/
def RcRel (w2 : World) (B q c2 c3 : Nat) (A2 A3 : Option Addr) (s1 : QS) (most : Int) (v7 v26 : Value) (wx : World) : Prop :=
  ∃ (k : Nat) (cur : List En) (D r : List De), k ≤ (rdyL s1.now s1.l s1.l.length).length ∧ v26 = .int .i64 k ∧ OwnD wx w2.heap.size v7 r ∧ r.length = k ∧ r.map De.core = D.map De.core ∧ (∀ d ∈ r, EvQ wx w2.heap.size d.ev) ∧ FQ wx B q A2 c2 A3 c3 { s1 with l := cur } ∧ cur.length = s1.l.length ∧
    rcvGo s1.now s1.v (takeI s1.now s1.l most) s1.l = (D ++ (rcvGo s1.now s1.v ((takeI s1.now s1.l most).drop k) cur).1, (rcvGo s1.now s1.v ((takeI s1.now s1.l most).drop k) cur).2) ∧
    Chg (fun j => A2.map (·.block) = some j) w2 wx ∧ ∀ x ∈ cur, (0 ≤ x.rcv ∧ x.rcv ≤ 10 + k) ∧ evSz x.ev ∧ ∀ b, x.ev.A.map (·.block) = some b → b < w2.heap.size
/-- What Receive leaves. -/
def RcPost (w : World) (B q : Nat) (A A' : Option Addr) (s : QS) (now most : Int) (e : Ending) (w' : World) : Prop :=
  (clkE s.now now ≠ 0 ∧ e = .returned (.slice none 0 0) ∧ QTo w B q A A' s w') ∨
  (clkE s.now now = 0 ∧ ∃ s1 v r, AccR s now s1 ∧ e = .returned v ∧ OwnD w' w.heap.size v r ∧ r.map De.core = (rcvD s1 most).map De.core ∧ (∀ d ∈ r, EvQ w' w.heap.size d.ev) ∧ QTo w B q A A' (rcvS s1 most) w')
section
variable {w : World} {B q c c' : Nat} {A A' : Option Addr} {s : QS}
attribute [local go_sem ↓] run_lc7
set_option maxHeartbeats 16000000 in
set_option maxRecDepth 20000 in
theorem Receive_any (hB : B ≤ w.heap.size) (hQ : FQ w B q A c A' c' s) (hok : s.ok) (now most : Int) (hX : LaidB w B) :
    Calls Tryz.prog 30 #[.pointer (some ⟨q, 0, none⟩), .int .i64 now, .int .i64 most] w (RcPost w B q A A' s now most) := by
  have hr : 0 < s.r := by have := hok.r; omega
  have HQ := Lib.hid hQ
  have HK := Lib.hid hok
  have HL := Lib.hid hX
  have HBW := Lib.hid hB
  clear hQ hok hX hB
  go_enter Tryz.func30, Tryz.ntmps30
  go_wp2_with fail
  refine (madeQ_any HQ.out hr).mono ?_
  rintro e wq ⟨rfl, hq⟩
  obtain rfl := hq.symm
  go_wp2_with fail
  refine (clock_any HQ.out now).mono ?_
  rintro e wq ⟨rfl, hq⟩
  obtain rfl := hq.symm
  by_cases hc : clkE s.now now = 0
  · have HC := Lib.hid hc
    rw [hc]
    clear hc
    go_wp2_with fail
    refine (accept_to now HBW.out HQ.out HK.out).mono ?_
    rintro e w1 ⟨rfl, s1, hacc, A2, c2, A3, c3, hq1, hch, hfr⟩
    have HAC := Lib.hid hacc
    have hk1 := hacc.ok HK.out ⟨(clk0 HC.out).1, (clk0 HC.out).2.1⟩
    have HK1 := Lib.hid hk1
    have hnw : s1.now = now := by obtain ⟨r, _, rfl⟩ := hacc; rfl
    have HNW := Lib.hid hnw
    have HVV := Lib.hid (show s1.v = s.v by obtain ⟨r, _, rfl⟩ := hacc; rfl)
    have hfoot := HQ.out.foot_lt
    have HCH := Lib.hid hch
    have HFR := Lib.hid hfr
    have HQ1 := Lib.hid hq1
    have hbl := hch.toBelow (B := B) (fun k hk => (hfoot k hk).1) HBW.out
    have HL1 := Lib.hid (HL.out.on hbl)
    have hz1 : w.heap.size ≤ w1.heap.size := hbl.size
    have hll : s1.l.length ≤ 256 := by have := hk1.len; omega
    clear hacc hq1 hch hfr hfoot hbl hk1 hnw
    go_wp2_with fail
    refine (ready_any HQ1.out (by omega) (fun x hx => (HK1.out.els x hx).2.2.2.1)).mono ?_
    rintro e w2 ⟨vr, rfl, hri, hb2⟩
    have HQ2 := Lib.hid (HQ1.out.below hb2)
    have HL2 := Lib.hid (HL1.out.on (hb2.mono (Nat.le_trans HBW.out hz1)))
    have HB2 := Lib.hid hb2
    have hz2 : w1.heap.size ≤ w2.heap.size := hb2.size
    obtain ⟨Ai, ci, rfl⟩ := own_slice hri
    have hil : (intsOf (rdyL s1.now s1.l s1.l.length)).length = (rdyL s1.now s1.l s1.l.length).length := by unfold intsOf; rw [List.length_map]
    obtain ⟨N, hN⟩ : ∃ N, N = (rdyL s1.now s1.l s1.l.length).length := ⟨_, rfl⟩
    have hNl : N ≤ 256 := by rw [hN]; exact Nat.le_trans (rdyL_len _ _ _) hll
    have HN := Lib.hid hN
    have HRI := Lib.hid (show w2.ownsRow w1.heap.size 3 1 (.slice Ai N ci) N (ivals (intsOf (rdyL s1.now s1.l s1.l.length))) by unfold OwnI at hri; rw [hil, ← hN] at hri; exact hri)
    rw [hil, ← hN]
    have HFT := Lib.hid HQ2.out.foot_lt
    have hB2 : B ≤ w2.heap.size := Nat.le_trans (Nat.le_trans HBW.out hz1) hz2
    clear hri hb2 hil hN
    go_wp2_with fail
    go_loopw [7, 26] (fun v7 v26 wr => RcRel w2 B q c2 c3 A2 A3 s1 most v7 v26 wr) (fun _ v26 _ => N - (intOf v26).toNat)
    case atStart => exact ⟨0, s1.l, [], [], Nat.zero_le _, rfl, own_nil _ _ _ _, rfl, rfl, (fun d hd => absurd hd (by simp)), HQ2.out, rfl, by simp, Chg.refl _ _, fun x hx => ⟨by have := HK1.out.rcv x hx; omega, HK1.out.els x hx, fun b hb => (own_lt (HQ2.out.bl x hx) (k := b) (by rw [own_eq]; exact hb)).2⟩⟩
    case round =>
      obtain ⟨k, cur, D, r, hk, rfl, hown, hrl, hrD, hre, hq5, hcl, hgo, hch5, hcur⟩ := hrel
      obtain ⟨v, rfl⟩ : ∃ v : Value, v = u7 := ⟨_, rfl⟩
      obtain ⟨Ad, cd, rfl⟩ := own_slice hown
      rw [← HN.out] at hk
      have HO := Lib.hid hown
      have HRD := Lib.hid hrD
      have HRE := Lib.hid hre
      have HQ5 := Lib.hid hq5
      have HGO := Lib.hid hgo
      have HCH5 := Lib.hid hch5
      have HCUR := Lib.hid hcur
      have HRL := Lib.hid hrl
      have HCL := Lib.hid hcl
      have hz5 : w2.heap.size ≤ wr.heap.size := hch5.size
      rw [hrl]
      clear hown hrD hre hq5 hgo hch5 hcur hcl
      have hfin : ∀ (hend : (rdyL s1.now s1.l s1.l.length).length ≤ k ∨ most ≤ k), RcPost w B q A A' s now most (.returned (.slice Ad k cd)) wr := fun hend => by
        have hg := HGO.out
        rw [takeI_end hend] at hg
        simp only [rcvGo, List.append_nil] at hg
        refine .inr ⟨HC.out, s1, _, r, HAC.out, by rw [HRL.out], own_base HO.out (by omega), ?_, fun d hd => (HRE.out d hd).base (by omega), ?_⟩
        · unfold rcvD; rw [hg]; exact HRD.out
        · refine QTo.trans (w1 := w1) HCH.out HFR.out ⟨A2, c2, A3, c3, ?_, ?_, fun j hj => .inl hj⟩
          · unfold rcvS
            rw [hg]
            exact HQ5.out
          · exact (Chg.of_below HB2.out).trans HCH5.out (fun j _ hj => .inr (.inl hj))
      have HFIN := Lib.hid hfin
      clear hfin
      by_cases hlt : k < N
      · obtain ⟨i, hi⟩ : ∃ i, (rdyL s1.now s1.l s1.l.length)[k]? = some i := ⟨_, List.getElem?_eq_getElem (by rw [← HN.out]; exact hlt)⟩
        have hil := rdy_lt hi
        obtain ⟨gi, ci', e1, hg1, -, -, hgl, hcell, -⟩ := own_at HRI.out (by omega)
        injection e1 with e1 _ e3
        subst e1 e3
        have hne : ¬ A2.map (·.block) = some gi := fun e => by
          obtain ⟨cs, hb⟩ := own_blk HQ2.out.row (k := gi) (by rw [own_eq]; exact e)
          exact hb.off HRI.out (by decide) (k := gi) rfl rfl
        have ei : wr.cell? ⟨gi, k, none⟩ = some (.int .i64 (i : Int)) := (HCH5.out.cell (p := ⟨gi, k, none⟩) hgl hne).trans (hcell k _ (by unfold ivals intsOf; rw [List.getElem?_map, List.getElem?_map, hi]; rfl))
        have hki : (k : Int) < N := by omega
        have hk0 : (0 : Int) ≤ k := by omega
        clear hcell hne
        by_cases hm : most ≤ k
        · have dm : decide (most ≤ (k : Int)) = true := decide_eq_true hm
          have HF := Lib.hid (HFIN.out (.inr hm))
          go_wp2_with fail
          go_ret
          exact HF.out
        · have dm : decide (most ≤ (k : Int)) = false := decide_eq_false hm
          have hil2 : i < cur.length := by rw [HCL.out]; exact hil
          obtain ⟨x, hx⟩ : ∃ x, cur[i]? = some x := ⟨_, List.getElem?_eq_getElem hil2⟩
          obtain ⟨g, c9, e2, -, -, -, hgl2, -, -⟩ := own_at HQ5.out.row (show 0 < cur.length by omega)
          injection e2 with e2 _ _
          subst e2
          have hw := HCUR.out x (List.mem_of_getElem? hx)
          have hii : (i : Int) < cur.length := by omega
          have hi0 : (0 : Int) ≤ i := by omega
          have e4 : wr.cell? ⟨q, 4, none⟩ = some (.slice (some ⟨g, 0, none⟩) cur.length c2) := HQ5.out.blk.cell 4
          have ev : wr.cell? ⟨q, 0, none⟩ = some (.int .i64 s1.v) := HQ5.out.blk.cell 0
          have hqg : q ≠ g := fun e => HQ5.out.ne.1 (by rw [e]; rfl)
          obtain ⟨e8, f8⟩ := HQ5.out.ecell hx (j := 8) (u := .int .i64 x.rcv) rfl
          obtain ⟨e9, f9⟩ := HQ5.out.ecell hx (j := 9) (u := .bool x.held) rfl
          obtain ⟨e7, f7⟩ := HQ5.out.ecell hx (j := 7) (u := .int .i64 x.vis) rfl
          have h6 := HQ5.out.got hx now s1.v
          have HQ6 := Lib.hid h6.1
          have HC6 := Lib.hid h6.2
          have hx' : (cur.set i (x.got now s1.v))[i]? = some (x.got now s1.v) := by rw [List.getElem?_set_self hil2]
          have HX' := Lib.hid hx'
          have HX := Lib.hid hx
          have HWB := Lib.hid hw
          have HGS := Lib.hid (show rcvGo s1.now s1.v (takeI s1.now s1.l most) s1.l = ((D ++ [(x.got now s1.v).del]) ++ (rcvGo s1.now s1.v ((takeI s1.now s1.l most).drop (k + 1)) (cur.set i (x.got now s1.v))).1, (rcvGo s1.now s1.v ((takeI s1.now s1.l most).drop (k + 1)) (cur.set i (x.got now s1.v))).2) by
            have hg := HGO.out
            rw [takeI_at hi (by omega), rcvGo_cons hx, HNW.out] at hg
            rw [HNW.out, hg, List.append_assoc]
            rfl)
          have HCUR2 := Lib.hid (show ∀ y ∈ cur.set i (x.got now s1.v), (0 ≤ y.rcv ∧ y.rcv ≤ 10 + ((k + 1 : Nat) : Int)) ∧ evSz y.ev ∧ ∀ b, y.ev.A.map (·.block) = some b → b < w2.heap.size from fun y hy => by
            rcases List.mem_or_eq_of_mem_set hy with hy | rfl
            · have := HCUR.out y hy; exact ⟨by omega, this.2⟩
            · exact ⟨by simp only [En.got]; omega, hw.2⟩)
          have HK1' := Lib.hid (show k + 1 ≤ (rdyL s1.now s1.l s1.l.length).length by rw [← HN.out]; exact hlt)
          have HKW := Lib.hid (w64 (x := (k : Int) + 1) (by omega) (by omega))
          have HW1 := Lib.hid (w64 (x := x.rcv + 1) (by omega) (by omega))
          have HW2 := Lib.hid (w64 (x := now + s1.v) (by have := HK1.out.v; have := (clk0 HC.out).1; omega) (by have := HK1.out.v; have := (clk0 HC.out).2.1; omega))
          have HBR := Lib.hid (show -9223372036854775808 ≤ x.rcv + 1 ∧ x.rcv + 1 ≤ 9223372036854775807 by omega)
          have HSL := Lib.hid hil2
          obtain ⟨wa1, wa2⟩ := HW1.out
          obtain ⟨wb1, wb2⟩ := HW2.out
          clear hw h6 hx hx' hi hil hil2
          go_upto_region 12 with fail
          clear wa1 wa2 wb1 wb2 e8 f8 e9 f9 e7 f7 e4 ev ei
          have hz6 := HC6.out.size
          generalize ((wr.setCell ⟨g, i * 11 + 8, none⟩ (.int .i64 (x.rcv + 1))).setCell ⟨g, i * 11 + 9, none⟩ (.bool true)).setCell ⟨g, i * 11 + 7, none⟩ (.int .i64 (now + s1.v)) = w3 at *
          have e0 : w3.cell? ⟨g, i * 11, none⟩ = some (.string x.ev.id) := (HQ6.out.ecell HX'.out (j := 0) rfl).1
          have e8 : w3.cell? ⟨g, i * 11 + 8, none⟩ = some (.int .i64 (x.rcv + 1)) := (HQ6.out.ecell HX'.out (j := 8) rfl).1
          have hg2 : g < w2.heap.size := (HFT.out g (.inr (.inl rfl))).2
          have HS := Lib.hid (show ∀ w', Below w2.heap.size w3 w' → (w'.cell? ⟨g, i * 11, none⟩ = some (.string x.ev.id) ∧ w'.cell? ⟨g, i * 11 + 8, none⟩ = some (.int .i64 (x.rcv + 1)) ∧ Sem.run Tryz.prog (lc7 ⟨g, i * 11, none⟩) w' = .ok #[.string x.ev.id, .string x.ev.tn, .string x.ev.src, .string x.ev.key, .int .i64 x.ev.at_, .string x.ev.cause, .slice x.ev.A x.ev.body.length x.ev.cp] w') ∧ Below w2.heap.size w3 w' from fun w' hb =>
            ⟨⟨(hb.cell (p := ⟨g, i * 11, none⟩) hg2).trans e0, (hb.cell (p := ⟨g, i * 11 + 8, none⟩) hg2).trans e8, HQ6.out.eload' HX'.out _ (fun j => hb.cell (p := ⟨g, j, none⟩) hg2)⟩, hb⟩)
          have hz3 : w2.heap.size ≤ w3.heap.size := by omega
          have HEI := Lib.hid (show EvIn w3 w2.heap.size x.ev from EvQ.inB (show EvQ w3 B x.ev from HQ6.out.bl (x.got now s1.v) (List.mem_of_getElem? HX'.out)) HWB.out.2.2)
          have hoffg : OffC wr (fun j => j = g) := fun j hj => HQ5.out.offC j (.inr (.inl (by rw [hj]; rfl)))
          have HO6 := Lib.hid (show OwnD w3 w2.heap.size (.slice Ad r.length cd) r from HC6.out.own HO.out (fun j hj e => by
            subst e
            obtain ⟨cs, hb⟩ := own_blk HO.out hj
            exact hb.off HQ5.out.row (by decide) (k := j) rfl rfl))
          have HRE6 := Lib.hid (show ∀ d ∈ r, EvQ w3 w2.heap.size d.ev from fun d hd => (HRE.out d hd).chg HC6.out hoffg)
          have hgB : B ≤ g := (HFT.out g (.inr (.inl rfl))).1
          have HL3 := Lib.hid (HL2.out.on ((HCH5.out.trans HC6.out (fun j _ hj => by rw [hj]; rfl)).toBelow (B := B) (fun j hj => by have : g = j := Option.some.inj hj; omega) hB2))
          have hbl : x.ev.body.length ≤ 3518437208780 := Nat.le_trans HWB.out.2.1.2.2.2.2.2.1 (by decide)
          have hids : x.ev.id.size ≤ 1048576 := HWB.out.2.1.1
          obtain ⟨i0, ih, iz0, iz1, iz2⟩ := info_partsO info_del
          have HA1 := Lib.hid (show r.length + 1 ≤ maxLen by rw [HRL.out]; simp only [maxLen]; omega)
          have HA2 := Lib.hid (show (r.length + 1) * 136 ≤ 140737488355328 by rw [HRL.out]; omega)
          have hrl2 := HRL.out
          rw [← hrl2]
          obtain ⟨wk1, wk2⟩ := HKW.out
          clear hrl2 hoffg e0 e8
          go_region_held3 (fun w' => (w'.cell? ⟨g, i * 11, none⟩ = some (.string x.ev.id) ∧ w'.cell? ⟨g, i * 11 + 8, none⟩ = some (.int .i64 (x.rcv + 1)) ∧ Sem.run Tryz.prog (lc7 ⟨g, i * 11, none⟩) w' = .ok #[.string x.ev.id, .string x.ev.tn, .string x.ev.src, .string x.ev.key, .int .i64 x.ev.at_, .string x.ev.cause, .slice x.ev.A x.ev.body.length x.ev.cp] w') ∧ Below w2.heap.size w3 w') (first | assumption | exact HS.out _ (by assumption) | exact HS.out _ (Below.refl _ _) | exact HS.out _ (Below.refl _ _).drew | exact HS.out _ (held_b2 hz3 (by assumption) (al_new _ _))) (first
            | (go_at_call 52; ((with_reducible refine (receipt_any x.ev.id (x.rcv + 1) w3.drew HBR.out.1 HBR.out.2 hids (laid_held HL3.out (below_drew' w3) (Nat.le_trans hB2 hz3))).mono ?_); rintro e wa ⟨rfl, hba⟩; have HBA := Lib.hid (show Below w3.heap.size w3 wa from (below_drew' w3).trans hba); have HSA := HBA.out.mono hz3; clear hba))
            | (go_at_call 45; ((with_reducible refine (own_any x.ev wa ((HEI.out.keep (HBA.out.mono hz3)).more (Nat.le_trans hz3 HBA.out.size)) hbl).mono ?_); rintro e wb ⟨Ay, cy, rfl, hev, hbb⟩; have HBB := Lib.hid (HBA.out.trans (hbb.mono HBA.out.size)); have HSB := HBB.out.mono hz3; have HEV := Lib.hid (hev.base (Nat.le_trans hz3 HBA.out.size)); clear hev hbb; simp only [Ev.val]))
            | (refine step_append_any _ rfl (.tmp 60) (.tmp 81) 35 rfl w2.heap.size 46 i0 (.agg #[.string ⟨#[]⟩, .string ⟨#[]⟩, .string ⟨#[]⟩, .string ⟨#[]⟩, .string ⟨#[]⟩, .int .i64 0, .string ⟨#[]⟩, .slice none 0 0, .int .i64 0]) 9 136 Tryz.underlying35 ih iz0 iz1 iz2 rfl (by decide) (.slice Ad r.length cd) r.length (r.flatMap De.cells) (by simp [Act.eval, HRL.out]) ((own_below HO6.out HBB.out).alloc _) (wb.heap.size + 1) (some ⟨wb.heap.size, 0, none⟩) 1 1 [.string (rcpS x.ev.id (x.rcv + 1)), .string x.ev.id, .string x.ev.tn, .string x.ev.src, .string x.ev.key, .int .i64 x.ev.at_, .string x.ev.cause, .slice Ay x.ev.body.length cy, .int .i64 (x.rcv + 1)] (by simp [Act.eval]) (reads_new9 wb _ _ _ _ _ _ _ _ _ _) (De.one ⟨rcpS x.ev.id (x.rcv + 1), { x.ev with A := Ay, cp := cy }, x.rcv + 1⟩) HA1.out HA2.out (Nat.le_trans hz3 (Nat.le_trans HBB.out.size (by simp))) ?_; intro v' wn hown hgr hblk; have HGN := Lib.hid (And.intro hown hgr); have HSN : Below w2.heap.size w3 wn := (held_b2 hz3 HSB (al_new wb _)).grown hgr (Nat.le_trans hz3 (Nat.le_trans HBB.out.size (by simp))) (fun j hj => own_ge HO6.out j hj); clear hown hgr hblk))
          have hcw : Chg (fun j => (Value.slice Ad r.length cd).ownBlock = some j) wb wn := ((Chg.refl _ wb).alloc _).grown HGN.out.2 (fun j hj _ => hj)
          have hoffw : OffC wb (fun j => (Value.slice Ad r.length cd).ownBlock = some j) := fun j hj cs m e => by
            obtain ⟨cs', hb⟩ := own_blk (own_below HO6.out HBB.out) hj
            unfold Blk at hb
            rw [hb] at e
            injection e with e
            injection e with _ e
            exact absurd e (by decide)
          have HQN := Lib.hid ((HQ6.out.below HBB.out).chg hcw (fun j hj e => by
            have h1 := (HFT.out j hj).2
            have h2 := own_ge HO6.out j e
            clear wk1 wk2
            omega) hoffw)
          have HON := Lib.hid (OwnD.push (x := ⟨rcpS x.ev.id (x.rcv + 1), { x.ev with A := Ay, cp := cy }, x.rcv + 1⟩) HGN.out.1)
          have HEN := Lib.hid (show ∀ d ∈ r ++ [(⟨rcpS x.ev.id (x.rcv + 1), { x.ev with A := Ay, cp := cy }, x.rcv + 1⟩ : De)], EvQ wn w2.heap.size d.ev from fun d hd => by
            rcases List.mem_append.1 hd with hd | hd
            · exact ((HRE6.out d hd).below HBB.out).chg hcw hoffw
            · rw [List.mem_singleton.1 hd]; exact HEV.out.chg hcw hoffw)
          have HCN := Lib.hid (show Chg (fun j => Option.map (·.block) (some (⟨g, 0, none⟩ : Addr)) = some j) w2 wn from ((HCH5.out.trans HC6.out (fun j _ hj => by rw [hj]; rfl)).below HBB.out).trans hcw (fun j hj e => by
            have h2 := own_ge HO6.out j e
            clear wk1 wk2
            omega))
          rename_i hHeld
          clear hcw hoffw hHeld HSA HSB HSN
          go_wp2_with fail
          clear wk1 wk2
          go_roundw
          case rel => exact ⟨k + 1, _, _, _, HK1'.out, by first | rfl | go_num, HON.out, by rw [List.length_append, HRL.out]; rfl, by rw [List.map_append, List.map_append, HRD.out]; rfl, HEN.out, HQN.out, by rw [List.length_set, HCL.out], HGS.out, HCN.out, HCUR2.out⟩
          case measure => exact meas_lt hlt
      · obtain rfl : k = N := by omega
        have HF := Lib.hid (HFIN.out (.inl (by rw [← HN.out]; exact Nat.le_refl _)))
        go_wp2_with fail
        go_ret
        exact HF.out
  · have d1 : (clkE s.now now != 0) = true := by simpa using hc
    have HC := Lib.hid hc
    clear hc
    go_wp2_with fail
    go_ret
    exact .inl ⟨HC.out, rfl, HQ.out.to (Below.refl _ _)⟩
end
end Go.Proofs.YtbofclohnmojmaaGreatDoor
