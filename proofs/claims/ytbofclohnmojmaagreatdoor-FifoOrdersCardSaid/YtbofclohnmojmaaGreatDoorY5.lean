/- A queue in memory; accept, Len, Waiting, Dead, ready. -/
import Derived.Test.YtbofclohnmojmaaGreatDoorY2
import Derived.Test.YtbofclohnmojmaaGreatDoorY3
import Derived.Deep.WholeRow
import Derived.Deep.CutBlock
import Derived.Maps.OwnSet
import Derived.StringKeys
import Derived.Carry
namespace Go.Proofs.YtbofclohnmojmaaGreatDoor
open Go.RowKit
open Go.Sort (grow)

section
variable {α : Type}
def idxG (l : List α) (p : α → Bool) : Int := match l.findIdx? p with | some i => (i : Int) | none => -1
theorem idxG_hit {l : List α} {p : α → Bool} {k : Nat} {t : α} (ht : l[k]? = some t) (hp : p t = true) (hno : ∀ j x, j < k → l[j]? = some x → p x = false) : (k : Int) = idxG l p := by
  unfold idxG
  have hk : k < l.length := (List.getElem?_eq_some_iff.1 ht).1
  have he : l[k] = t := (List.getElem?_eq_some_iff.1 ht).2
  have : l.findIdx? p = some k := by
    rw [List.findIdx?_eq_some_iff_getElem]
    exact ⟨hk, by rw [he]; exact hp, fun j hj => by have := hno j _ hj (List.getElem?_eq_getElem (by omega)); simp [this]⟩
  rw [this]
theorem idxG_none {l : List α} {p : α → Bool} (hno : ∀ j x, j < l.length → l[j]? = some x → p x = false) : (-1 : Int) = idxG l p := by
  unfold idxG
  have : l.findIdx? p = none := by
    rw [List.findIdx?_eq_none_iff]
    intro x hx
    obtain ⟨j, hj⟩ := List.getElem?_of_mem hx
    exact hno j x (List.getElem?_eq_some_iff.1 hj).1 hj
  rw [this]
theorem idxG_any (l : List α) (p : α → Bool) : decide (0 ≤ idxG l p) = l.any p := by
  unfold idxG
  cases h : l.findIdx? p with
  | none =>
    rw [List.findIdx?_eq_none_iff] at h
    have : l.any p = false := by rw [List.any_eq_false]; intro x hx; simp [h x hx]
    rw [this]; rfl
  | some i =>
    obtain ⟨hi, hp, -⟩ := List.findIdx?_eq_some_iff_getElem.1 h
    have : l.any p = true := by rw [List.any_eq_true]; exact ⟨_, List.getElem_mem hi, hp⟩
    rw [this]; simp
end
/-- Loads of 11 and of 7 cells, that the walk leaves whole. -/
def lc7 (a : Addr) : Sem (Array Value) := loadCellsFrom a 0 7 #[]
theorem run_lc7 (P : Program) (a : Addr) (W : World) : Sem.run P (loadCellsFrom a 0 7 #[]) W = Sem.run P (lc7 a) W := rfl
def lc11 (a : Addr) : Sem (Array Value) := loadCellsFrom a 0 11 #[]
theorem run_lc11 (P : Program) (a : Addr) (W : World) : Sem.run P (loadCellsFrom a 0 11 #[]) W = Sem.run P (lc11 a) W := rfl
def En.val (x : En) : Value := .agg #[.string x.ev.id, .string x.ev.tn, .string x.ev.src, .string x.ev.key, .int .i64 x.ev.at_, .string x.ev.cause, .slice x.ev.A x.ev.body.length x.ev.cp, .int .i64 x.vis, .int .i64 x.rcv, .bool x.held, .int .i64 x.arr]
/-- What a function value answers in every later world. -/
def Ans (K : Nat) (caps : Array Value) (w : World) (v : Value) (b : Bool) : Prop :=
  ∀ W, Below w.heap.size w W → Calls Tryz.prog K (#[v] ++ caps) W fun e w' => e = .returned (.bool b) ∧ Below W.heap.size W w'
/-- The row's elements, each loaded whole. -/
theorem ld_en {w : World} {base : Nat} {A : Option Addr} {c : Nat} {l : List En} (h : w.ownsRow base 76 11 (.slice A l.length c) l.length (l.flatMap En.cells)) {k : Nat} {x : En} (hk : l[k]? = some x) :
    ∃ g, A = some ⟨g, 0, none⟩ ∧ base ≤ g ∧ g < w.heap.size ∧ l.length ≤ c ∧ Sem.run Tryz.prog (lc11 ⟨g, k * 11, none⟩) w = .ok #[.string x.ev.id, .string x.ev.tn, .string x.ev.src, .string x.ev.key, .int .i64 x.ev.at_, .string x.ev.cause, .slice x.ev.A x.ev.body.length x.ev.cp, .int .i64 x.vis, .int .i64 x.rcv, .bool x.held, .int .i64 x.arr] w := by
  obtain ⟨g, c', e, hb, hc, -, hlt, -, -⟩ := own_at h (by have := (List.getElem?_eq_some_iff.1 hk).1; omega)
  injection e with e _ e3
  subst e e3
  exact ⟨g, rfl, hb, hlt, hc, own_load En.len h hk _⟩
theorem ld_ev {w : World} {base : Nat} {A : Option Addr} {c : Nat} {l : List Ev} (h : w.ownsRow base 40 7 (.slice A l.length c) l.length (l.flatMap Ev.cells)) {k : Nat} {x : Ev} (hk : l[k]? = some x) :
    ∃ g, A = some ⟨g, 0, none⟩ ∧ base ≤ g ∧ g < w.heap.size ∧ l.length ≤ c ∧ Sem.run Tryz.prog (lc7 ⟨g, k * 7, none⟩) w = .ok #[.string x.id, .string x.tn, .string x.src, .string x.key, .int .i64 x.at_, .string x.cause, .slice x.A x.body.length x.cp] w := by
  obtain ⟨g, c', e, hb, hc, -, hlt, -, -⟩ := own_at h (by have := (List.getElem?_eq_some_iff.1 hk).1; omega)
  injection e with e _ e3
  subst e e3
  exact ⟨g, rfl, hb, hlt, hc, own_load Ev.len h hk _⟩
section
attribute [local go_sem ↓] run_lc7
set_option maxHeartbeats 2000000 in
set_option maxRecDepth 20000 in
theorem Index_ev (K : Nat) (hK : ∀ args w, Sem.run Tryz.prog (callFunc K args) w = .ok (.enter K args) w) (caps : Array Value) (p : Ev → Bool) (A : Option Addr) (c base : Nat) (l : List Ev) (w : World) (hl : w.ownsRow base 40 7 (.slice A l.length c) l.length (l.flatMap Ev.cells)) (hn : l.length ≤ 1000000) (hf : ∀ x ∈ l, Ans K caps w x.val (p x)) :
    Calls Tryz.prog 74 #[.slice A l.length c, .func (.func K) #[] caps] w fun e w' => e = .returned (.int .i64 (idxG l p)) ∧ Below w.heap.size w w' := by
  have HL := Lib.hid hl
  have HF := Lib.hid hf
  clear hl hf
  go_enter Tryz.func74, Tryz.ntmps74
  go_wp2_with fail
  go_loopw [5, 8] (fun _ i wr => ∃ k : Nat, k ≤ l.length ∧ i = .int .i64 k ∧ (∀ j x, j < k → l[j]? = some x → p x = false) ∧ Below w.heap.size w wr) (fun _ i _ => l.length - (intOf i).toNat)
  case atStart => exact ⟨0, Nat.zero_le _, rfl, fun j x hj => absurd hj (by omega), Below.refl _ _⟩
  case round =>
    obtain ⟨k, hk, rfl, hno, hbr⟩ := hrel
    have HN := Lib.hid hno
    have HB := Lib.hid hbr
    have hzr : w.heap.size ≤ wr.heap.size := hbr.size
    clear hno hbr
    by_cases hlt : k < l.length
    · obtain ⟨x, ht⟩ : ∃ t, l[k]? = some t := ⟨_, List.getElem?_eq_getElem hlt⟩
      obtain ⟨b, rfl, -, -, -, hld⟩ := ld_ev (own_below HL.out HB.out) ht
      have HT := Lib.hid ht
      have HA := Lib.hid (HF.out x (List.mem_of_getElem? ht) wr HB.out)
      have hki : (k : Int) < l.length := by omega
      have hk0 : (0 : Int) ≤ k := by omega
      clear ht
      go_wp2_with fail
      refine HA.out.mono ?_
      rintro e w1 ⟨rfl, hb⟩
      have HB1 := Lib.hid (HB.out.trans (hb.mono HB.out.size))
      clear hb
      cases hpt : p x
      · have HP := Lib.hid hpt
        clear hpt
        go_wp2_with fail
        go_round
        · exact ⟨k + 1, by omega, by simp, fun j x' hj hx => by
            rcases Nat.lt_or_ge j k with h | h
            · exact HN.out j x' h hx
            · obtain rfl : j = k := by omega
              rw [HT.out] at hx
              obtain rfl := Option.some.inj hx
              exact HP.out, HB1.out⟩
        · simp only [intOf]
          omega
      · have HP := Lib.hid hpt
        clear hpt
        go_wp2_with fail
        go_ret
        exact ⟨ret_int (idxG_hit HT.out HP.out HN.out), HB1.out⟩
    · have hki : ¬ (k : Int) < l.length := by omega
      go_wp2_with fail
      go_ret
      exact ⟨ret_int (idxG_none (fun j x hj hx => HN.out j x (by omega) hx)), HB.out⟩
end
theorem Contains_ev (K : Nat) (hK : ∀ args w, Sem.run Tryz.prog (callFunc K args) w = .ok (.enter K args) w) (caps : Array Value) (p : Ev → Bool) (A : Option Addr) (c base : Nat) (l : List Ev) (w : World) (hl : w.ownsRow base 40 7 (.slice A l.length c) l.length (l.flatMap Ev.cells)) (hn : l.length ≤ 1000000) (hf : ∀ x ∈ l, Ans K caps w x.val (p x)) :
    Calls Tryz.prog 49 #[.slice A l.length c, .func (.func K) #[] caps] w fun e w' => e = .returned (.bool (l.any p)) ∧ Below w.heap.size w w' := by
  have HC := Lib.hid (Index_ev K hK caps p A c base l w hl hn hf)
  have HD := Lib.hid (idxG_any l p)
  clear hl hf hK
  go_enter Tryz.func49, Tryz.ntmps49
  go_wp2_with fail
  refine HC.out.mono ?_
  rintro e w1 ⟨rfl, hb⟩
  generalize idxG l p = n at *
  go_wp2_with fail
  go_ret
  exact ⟨ret_bool HD.out, hb⟩
section
attribute [local go_sem ↓] run_lc11
set_option maxHeartbeats 2000000 in
set_option maxRecDepth 20000 in
theorem Index_en (K : Nat) (hK : ∀ args w, Sem.run Tryz.prog (callFunc K args) w = .ok (.enter K args) w) (caps : Array Value) (p : En → Bool) (A : Option Addr) (c base : Nat) (l : List En) (w : World) (hl : w.ownsRow base 76 11 (.slice A l.length c) l.length (l.flatMap En.cells)) (hn : l.length ≤ 1000000) (hf : ∀ x ∈ l, Ans K caps w x.val (p x)) :
    Calls Tryz.prog 75 #[.slice A l.length c, .func (.func K) #[] caps] w fun e w' => e = .returned (.int .i64 (idxG l p)) ∧ Below w.heap.size w w' := by
  have HL := Lib.hid hl
  have HF := Lib.hid hf
  clear hl hf
  go_enter Tryz.func75, Tryz.ntmps75
  go_wp2_with fail
  go_loopw [5, 8] (fun _ i wr => ∃ k : Nat, k ≤ l.length ∧ i = .int .i64 k ∧ (∀ j x, j < k → l[j]? = some x → p x = false) ∧ Below w.heap.size w wr) (fun _ i _ => l.length - (intOf i).toNat)
  case atStart => exact ⟨0, Nat.zero_le _, rfl, fun j x hj => absurd hj (by omega), Below.refl _ _⟩
  case round =>
    obtain ⟨k, hk, rfl, hno, hbr⟩ := hrel
    have HN := Lib.hid hno
    have HB := Lib.hid hbr
    have hzr : w.heap.size ≤ wr.heap.size := hbr.size
    clear hno hbr
    by_cases hlt : k < l.length
    · obtain ⟨x, ht⟩ : ∃ t, l[k]? = some t := ⟨_, List.getElem?_eq_getElem hlt⟩
      obtain ⟨b, rfl, -, -, -, hld⟩ := ld_en (own_below HL.out HB.out) ht
      have HT := Lib.hid ht
      have HA := Lib.hid (HF.out x (List.mem_of_getElem? ht) wr HB.out)
      have hki : (k : Int) < l.length := by omega
      have hk0 : (0 : Int) ≤ k := by omega
      clear ht
      go_wp2_with fail
      refine HA.out.mono ?_
      rintro e w1 ⟨rfl, hb⟩
      have HB1 := Lib.hid (HB.out.trans (hb.mono HB.out.size))
      clear hb
      cases hpt : p x
      · have HP := Lib.hid hpt
        clear hpt
        go_wp2_with fail
        go_round
        · exact ⟨k + 1, by omega, by simp, fun j x' hj hx => by
            rcases Nat.lt_or_ge j k with h | h
            · exact HN.out j x' h hx
            · obtain rfl : j = k := by omega
              rw [HT.out] at hx
              obtain rfl := Option.some.inj hx
              exact HP.out, HB1.out⟩
        · simp only [intOf]
          omega
      · have HP := Lib.hid hpt
        clear hpt
        go_wp2_with fail
        go_ret
        exact ⟨ret_int (idxG_hit HT.out HP.out HN.out), HB1.out⟩
    · have hki : ¬ (k : Int) < l.length := by omega
      go_wp2_with fail
      go_ret
      exact ⟨ret_int (idxG_none (fun j x hj hx => HN.out j x (by omega) hx)), HB.out⟩
end
theorem Contains_en (K : Nat) (hK : ∀ args w, Sem.run Tryz.prog (callFunc K args) w = .ok (.enter K args) w) (caps : Array Value) (p : En → Bool) (A : Option Addr) (c base : Nat) (l : List En) (w : World) (hl : w.ownsRow base 76 11 (.slice A l.length c) l.length (l.flatMap En.cells)) (hn : l.length ≤ 1000000) (hf : ∀ x ∈ l, Ans K caps w x.val (p x)) :
    Calls Tryz.prog 50 #[.slice A l.length c, .func (.func K) #[] caps] w fun e w' => e = .returned (.bool (l.any p)) ∧ Below w.heap.size w w' := by
  have HC := Lib.hid (Index_en K hK caps p A c base l w hl hn hf)
  have HD := Lib.hid (idxG_any l p)
  clear hl hf hK
  go_enter Tryz.func50, Tryz.ntmps50
  go_wp2_with fail
  refine HC.out.mono ?_
  rintro e w1 ⟨rfl, hb⟩
  generalize idxG l p = n at *
  go_wp2_with fail
  go_ret
  exact ⟨ret_bool HD.out, hb⟩

/-! ### the small functions -/
def timeB (n : Int) : Bool := decide (0 ≤ n) && decide (n ≤ 1073741824)
theorem timeB_iff (n : Int) : timeB n = true ↔ 0 ≤ n ∧ n ≤ 1073741824 := by simp [timeB]
theorem timeB_no {n : Int} (h : ¬ (0 ≤ n ∧ n ≤ 1073741824)) : false = timeB n := by
  cases e : timeB n
  · rfl
  · exact absurd ((timeB_iff n).1 e) h
theorem instant_any (n : Int) (w : World) : Calls Tryz.prog 55 #[.int .i64 n] w fun e w' => e = .returned (.bool (timeB n)) ∧ w' = w := by
  by_cases h1 : 0 ≤ n
  · have d1 : decide (0 ≤ n) = true := decide_eq_true h1
    by_cases h2 : n ≤ 1073741824
    · have HE := Lib.hid (show true = timeB n from ((timeB_iff n).2 ⟨h1, h2⟩).symm)
      have d2 : decide (n ≤ 1073741824) = true := decide_eq_true h2
      go_enter Tryz.func55, Tryz.ntmps55
      go_wp2_with fail
      go_ret
      exact ⟨ret_bool HE.out, rfl⟩
    · have HE := Lib.hid (show false = timeB n from timeB_no (fun h => h2 h.2))
      have d2 : decide (n ≤ 1073741824) = false := decide_eq_false h2
      go_enter Tryz.func55, Tryz.ntmps55
      go_wp2_with fail
      go_ret
      exact ⟨ret_bool HE.out, rfl⟩
  · have HE := Lib.hid (show false = timeB n from timeB_no (fun h => h1 h.1))
    have d1 : decide (0 ≤ n) = false := decide_eq_false h1
    go_enter Tryz.func55, Tryz.ntmps55
    go_wp2_with fail
    go_ret
    exact ⟨ret_bool HE.out, rfl⟩
def rcpS (id : ByteArray) (n : Int) : ByteArray := id ++ ⟨#[35]⟩ ++ ⟨(Lib.itoa n).toArray⟩
theorem receipt_any (id : ByteArray) (n : Int) (w : World) (h0 : -9223372036854775808 ≤ n) (h1 : n ≤ 9223372036854775807) (hs : id.size ≤ 1048576) (hX : LaidW w) :
    Calls Tryz.prog 52 #[.string id, .int .i64 n] w fun e w' => e = .returned (.string (rcpS id n)) ∧ Below w.heap.size w w' := by
  have hl := Lib.itoa_length_le n h0 h1
  have HX := Lib.hid hX
  clear hX
  go_enter Tryz.func52, Tryz.ntmps52
  go_wp2_with fail
  refine (Format_any n h0 h1 w HX.out).mono ?_
  rintro e w1 ⟨rfl, hb⟩
  go_wp2_with fail
  go_ret
  exact ⟨rfl, hb⟩
end Go.Proofs.YtbofclohnmojmaaGreatDoor
namespace Go.Proofs.YtbofclohnmojmaaGreatDoor
open Go.RowKit
open Go.Sort (grow)

def st11 (a : Addr) (l : List Value) : Sem Unit := storeCells a l 0
theorem run_st11 (P : Program) (a : Addr) (x0 x1 x2 x3 x4 x5 x6 x7 x8 x9 x10 : Value) (W : World) : Sem.run P (storeCells a [x0, x1, x2, x3, x4, x5, x6, x7, x8, x9, x10] 0) W = Sem.run P (st11 a [x0, x1, x2, x3, x4, x5, x6, x7, x8, x9, x10]) W := rfl
theorem blk_ld {w : World} {g : Nat} {t : TypeId} {cs : Array Value} {k : Nat} (h : Blk w g t cs) (hk : cs.size = k) (P : Program) : Sem.run P (loadCellsFrom ⟨g, 0, none⟩ 0 k #[]) w = .ok cs w := by
  have := run_loadCellsFrom_list P w ⟨g, 0, none⟩ cs.toList k (by simpa using hk) (fun j v hj => by
    rw [Addr.add_lit, Nat.zero_add, h.cell]; simpa using hj)
  simpa using this
theorem run_lc11_new (P : Program) (W : World) (t : TypeId) (x0 x1 x2 x3 x4 x5 x6 x7 x8 x9 x10 : Value) : Sem.run P (lc11 ⟨W.heap.size, 0, none⟩) (W.alloc (.cells #[x0, x1, x2, x3, x4, x5, x6, x7, x8, x9, x10] t)) = .ok #[x0, x1, x2, x3, x4, x5, x6, x7, x8, x9, x10] (W.alloc (.cells #[x0, x1, x2, x3, x4, x5, x6, x7, x8, x9, x10] t)) :=
  blk_ld (cs := #[x0, x1, x2, x3, x4, x5, x6, x7, x8, x9, x10]) (Blk.new W t _) rfl P
theorem run_st11_new (P : Program) (W : World) (t : TypeId) (y0 y1 y2 y3 y4 y5 y6 y7 y8 y9 y10 x0 x1 x2 x3 x4 x5 x6 x7 x8 x9 x10 : Value) (hi : (P.info? t).map (·.size) = some 11) (h1 : (#[x0, x1, x2, x3, x4, x5, x6, x7, x8, x9, x10] : Array Value).all (·.oneCell') = true) :
    Sem.run P (st11 ⟨W.heap.size, 0, none⟩ [x0, x1, x2, x3, x4, x5, x6, x7, x8, x9, x10]) (W.alloc (.cells #[y0, y1, y2, y3, y4, y5, y6, y7, y8, y9, y10] t)) = .ok () (W.alloc (.cells #[x0, x1, x2, x3, x4, x5, x6, x7, x8, x9, x10] t)) :=
  run_storeCells_new (P := P) W t #[y0, y1, y2, y3, y4, y5, y6, y7, y8, y9, y10] #[x0, x1, x2, x3, x4, x5, x6, x7, x8, x9, x10] hi rfl h1
theorem size_en : (Tryz.prog.info? 76).map (·.size) = some 11 := by kernel_rfl
theorem new_en (W : World) (y0 y1 y2 y3 y4 y5 y6 y7 y8 y9 y10 : Value) (x : En) :
    Sem.run Tryz.prog (st11 ⟨W.heap.size, 0, none⟩ [.string x.ev.id, .string x.ev.tn, .string x.ev.src, .string x.ev.key, .int .i64 x.ev.at_, .string x.ev.cause, .slice x.ev.A x.ev.body.length x.ev.cp, .int .i64 x.vis, .int .i64 x.rcv, .bool x.held, .int .i64 x.arr]) (W.alloc (.cells #[y0, y1, y2, y3, y4, y5, y6, y7, y8, y9, y10] 76)) =
      .ok () (W.alloc (.cells #[.string x.ev.id, .string x.ev.tn, .string x.ev.src, .string x.ev.key, .int .i64 x.ev.at_, .string x.ev.cause, .slice x.ev.A x.ev.body.length x.ev.cp, .int .i64 x.vis, .int .i64 x.rcv, .bool x.held, .int .i64 x.arr] 76)) :=
  run_st11_new _ W _ _ _ _ _ _ _ _ _ _ _ _ _ _ _ _ _ _ _ _ _ _ _ size_en (by simp [Value.oneCell'])

/-- clear at elements of many cells. -/
theorem run_clear_k {P : Program} (w : World) (t e : TypeId) (z : Value) (k : Nat) (ht : P.underlying t = some (.slice e)) (hv : ∀ w, (zeroValue e).run P w = .ok z w) (hk : z.cells.size = k) (h1 : ∀ u ∈ z.cells.toList, u.oneCell' = true) (b o n c : Nat) (hn : 0 < n)
    (hc : ∀ j, j < n * k → (w.cell? ⟨b, o + j, none⟩).isSome = true) (hf : ∀ j, j < n * k → w.frozen? ⟨b, o + j, none⟩ = false) :
    ∃ zs : List Value, zs.length = n * k ∧ ∀ ty, (Builtin.clear_ #[t] ty #[.slice (some ⟨b, o, none⟩) n c]).run P w = .ok (.tuple #[]) (w.setCells b o zs) := by
  have hzl : (Builtin.zeroCells z.cells n).toList.length = n * k := by simp [Builtin.zeroCells, hk]
  refine ⟨(Builtin.zeroCells z.cells n).toList, hzl, fun ty => ?_⟩
  have hst := run_storeCells_cells (P := P) b o (Builtin.zeroCells z.cells n).toList 0 w (fun j hj => by rw [Nat.add_zero]; exact hc j (by rw [← hzl]; exact hj)) (fun j hj => by rw [Nat.add_zero]; exact hf j (by rw [← hzl]; exact hj)) (by
    intro v hv'
    simp only [Builtin.zeroCells, Array.toList_map, List.mem_map] at hv'
    obtain ⟨i, hi, rfl⟩ := hv'
    have hi2 : i < n * z.cells.size := by simpa using hi
    have hp : 0 < z.cells.size := by
      rcases Nat.eq_zero_or_pos z.cells.size with h0 | h0
      · rw [h0, Nat.mul_zero] at hi2; omega
      · exact h0
    rw [getElem!_pos z.cells _ (Nat.mod_lt i hp)]
    exact h1 _ (by simp))
  simp only [Nat.add_zero] at hst
  obtain ⟨m, rfl⟩ : ∃ m, n = m + 1 := ⟨n - 1, by omega⟩
  simp [Builtin.clear_, run_underlying ht, hv, hst]
end Go.Proofs.YtbofclohnmojmaaGreatDoor
namespace Go.Proofs.YtbofclohnmojmaaGreatDoor
open Go.RowKit
open Go.Sort (grow)

section
variable {α : Type} {p : α → Bool}
theorem filter_first {l : List α} {k : Nat} (hno : ∀ j x, j < k → l[j]? = some x → p x = false) : (l.take k).filter (fun x => !p x) = l.take k := by
  rw [List.filter_eq_self]
  intro x hx
  obtain ⟨j, hj⟩ := List.getElem?_of_mem hx
  have hjk : j < k := by have := (List.getElem?_eq_some_iff.1 hj).1; simp at this; omega
  rw [List.getElem?_take, if_pos hjk] at hj
  simp [hno j x hjk hj]
theorem filter_all {l : List α} (hno : l.findIdx? p = none) : l.filter (fun x => !p x) = l := by
  rw [List.findIdx?_eq_none_iff] at hno
  rw [List.filter_eq_self]
  intro x hx
  simp [hno x hx]
/-- In the loop: m elements are kept of the first j. -/
structure DelR (p : α → Bool) (l cur : List α) (m j : Nat) : Prop where
  len : cur.length = l.length
  mj : m < j
  jn : j ≤ l.length
  fst : cur.take m = (l.take j).filter (fun x => !p x)
  snd : cur.drop j = l.drop j
theorem take_snoc2 {l : List α} {k : Nat} {x : α} (h : l[k]? = some x) : l.take (k + 1) = l.take k ++ [x] := by rw [List.take_add_one, h]; rfl
theorem DelR.start {l : List α} {k : Nat} (h : l.findIdx? p = some k) : DelR p l l k (k + 1) := by
  obtain ⟨hk, hp, hno⟩ := List.findIdx?_eq_some_iff_getElem.1 h
  refine ⟨rfl, by omega, by omega, ?_, rfl⟩
  rw [take_snoc2 (List.getElem?_eq_getElem hk), List.filter_append, filter_first (p := p) (fun j x hj hx => by
    obtain ⟨h1, rfl⟩ := List.getElem?_eq_some_iff.1 hx
    have := hno j hj
    simpa using this)]
  simp [hp]
theorem DelR.at_ {l cur : List α} {m j : Nat} (h : DelR p l cur m j) {x : α} (hx : l[j]? = some x) : cur[j]? = some x := by
  have := congrArg (fun q => q[0]?) h.snd
  simp only [List.getElem?_drop, Nat.add_zero] at this
  rw [this, hx]
theorem DelR.keep {l cur : List α} {m j : Nat} (h : DelR p l cur m j) {x : α} (hx : l[j]? = some x) (hp : p x = false) : DelR p l (cur.set m x) (m + 1) (j + 1) := by
  have hj := (List.getElem?_eq_some_iff.1 hx).1
  have := h.mj
  have hl := h.len
  refine ⟨by rw [List.length_set, hl], by omega, by omega, ?_, ?_⟩
  · rw [take_snoc2 (x := x) (by rw [List.getElem?_set_self (by omega)]), List.take_set, List.set_eq_of_length_le (by simp; omega), h.fst, take_snoc2 hx, List.filter_append]
    simp [hp]
  · rw [List.drop_set, if_pos (by omega)]
    have := congrArg (fun q => q.drop 1) h.snd
    simpa [List.drop_drop] using this
theorem DelR.drop {l cur : List α} {m j : Nat} (h : DelR p l cur m j) {x : α} (hx : l[j]? = some x) (hp : p x = true) : DelR p l cur m (j + 1) := by
  have hj := (List.getElem?_eq_some_iff.1 hx).1
  have := h.mj
  refine ⟨h.len, by omega, by omega, ?_, ?_⟩
  · rw [h.fst, take_snoc2 hx, List.filter_append]
    simp [hp]
  · have := congrArg (fun q => q.drop 1) h.snd
    simpa [List.drop_drop] using this
theorem DelR.done {l cur : List α} {m : Nat} (h : DelR p l cur m l.length) : cur.take m = l.filter (fun x => !p x) := by
  rw [h.fst, List.take_length]
end
theorem zero_en (w : World) : (zeroValue 76).run Tryz.prog w = .ok (.agg zeroEn.cells.toArray) w := by kernel_rfl
/-- The tail is cleared, the head kept. -/
theorem clear_en (w : World) (g c base m : Nat) (l : List En) (h : w.ownsRow base 76 11 (.slice (some ⟨g, 0, none⟩) l.length c) l.length (l.flatMap En.cells)) (hm : m < l.length) :
    ∃ w', (∀ ty, (Builtin.clear_ #[55] ty #[.slice (some ⟨g, m * 11, none⟩) (l.length - m) (c - m)]).run Tryz.prog w = .ok (.tuple #[]) w') ∧ w'.ownsRow base 76 11 (.slice (some ⟨g, 0, none⟩) m c) m ((l.take m).flatMap En.cells) ∧ Chg (fun k => k = g) w w' := by
  obtain ⟨g', c', e1, -, -, -, -, hc, hf⟩ := own_at h (by omega)
  injection e1 with e1 _ _
  injection e1 with e1
  injection e1 with e1
  subst e1
  have hb : ∀ j, j < (l.length - m) * 11 → m * 11 + j < (l.flatMap En.cells).length := fun j hj => by rw [flat_len En.len]; omega
  obtain ⟨zs, hz, hrun⟩ := run_clear_k (P := Tryz.prog) w 55 76 (.agg zeroEn.cells.toArray) 11 Tryz.underlying55 zero_en rfl (fun u hu => En.one zeroEn u (by simpa [Value.cells] using hu)) g (m * 11) (l.length - m) (c - m) (by omega)
    (fun j hj => by rw [hc _ _ (List.getElem?_eq_getElem (hb j hj))]; rfl) (fun j _ => hf _)
  refine ⟨w.setCells g (m * 11) zs, hrun, ?_, chg_setCells zs w _ (Chg.refl _ _) (fun _ => rfl)⟩
  · have hlay := own_lay zs _ w (m * 11) h (by rw [hz, flat_len En.len]; omega)
    have h2 := own_pre hlay (Nat.le_of_lt hm)
    have e : (layL (l.flatMap En.cells) zs (m * 11)).take (m * 11) = (l.take m).flatMap En.cells := by
      unfold layL
      rw [List.append_assoc, List.take_append_of_le_length (by rw [List.length_take, flat_len En.len]; omega), List.take_take, Nat.min_self, flat_take En.len]
    rw [e] at h2
    exact h2

section
attribute [local go_sem ↓] run_lc11
attribute [local go_sem] run_lc11_new
theorem blk_lc {w : World} {g : Nat} {t : TypeId} {x0 x1 x2 x3 x4 x5 x6 x7 x8 x9 x10 : Value} (h : Blk w g t #[x0, x1, x2, x3, x4, x5, x6, x7, x8, x9, x10]) (P : Program) : Sem.run P (lc11 ⟨g, 0, none⟩) w = .ok #[x0, x1, x2, x3, x4, x5, x6, x7, x8, x9, x10] w := blk_ld (cs := #[x0, x1, x2, x3, x4, x5, x6, x7, x8, x9, x10]) h rfl P
/-- What DeleteFunc leaves. -/
def DlPost (w : World) (base c : Nat) (A : Option Addr) (r : List En) (e : Ending) (w' : World) : Prop := e = .returned (.slice A r.length c) ∧ w'.ownsRow base 76 11 (.slice A r.length c) r.length (r.flatMap En.cells) ∧ Chg (fun k => A.map (·.block) = some k) w w'
set_option maxHeartbeats 8000000 in
set_option maxRecDepth 20000 in
theorem DeleteFunc_any (K : Nat) (hK : ∀ args w, Sem.run Tryz.prog (callFunc K args) w = .ok (.enter K args) w) (caps : Array Value) (p : En → Bool) (A : Option Addr) (c base : Nat) (l : List En) (w : World) (hl : w.ownsRow base 76 11 (.slice A l.length c) l.length (l.flatMap En.cells)) (hn : l.length ≤ 1000000)
    (hf : ∀ x ∈ l, ∀ W, Chg (fun k => A.map (·.block) = some k) w W → Calls Tryz.prog K (#[x.val] ++ caps) W fun e w' => e = .returned (.bool (p x)) ∧ Below W.heap.size W w') :
    Calls Tryz.prog 66 #[.slice A l.length c, .func (.func K) #[] caps] w (DlPost w base c A (l.filter fun x => !p x)) := by
  have HI := Lib.hid (Index_en K hK caps p A c base l w hl hn (fun x hx W hW => hf x hx W (Chg.of_below hW)))
  have HL := Lib.hid hl
  have HF := Lib.hid hf
  clear hl hf
  go_enter Tryz.func66, Tryz.ntmps66
  go_wp2_with fail
  refine HI.out.mono ?_
  rintro e w0 ⟨rfl, hb0⟩
  have HC0 := Lib.hid (show Chg (fun k => A.map (·.block) = some k) w w0 from Chg.of_below hb0)
  have HL0 := Lib.hid (own_below HL.out hb0)
  have hz0 : w.heap.size ≤ w0.heap.size := hb0.size
  clear hb0
  cases hi : l.findIdx? p with
  | none =>
    have HE := Lib.hid (filter_all hi)
    have HX := Lib.hid (show idxG l p = -1 by unfold idxG; rw [hi])
    rw [HX.out]
    clear hi
    go_wp2_with fail
    go_ret
    unfold DlPost
    rw [HE.out]
    exact ⟨rfl, HL0.out, HC0.out⟩
  | some i =>
    have HR := Lib.hid (DelR.start hi)
    have HX := Lib.hid (show idxG l p = (i : Int) by unfold idxG; rw [hi])
    rw [HX.out]
    have hil : i < l.length := by have := HR.out.jn; omega
    have hne : ((i : Int) == -1) = false := by first | (simp; done) | (simp; omega)
    have HW1 := Lib.hid (w64 (x := (i : Int) + 1) (by omega) (by omega))
    clear hi
    obtain ⟨g, c', e1, hbg, -, -, hgl, -, -⟩ := own_at HL0.out (by omega)
    injection e1 with e1 _ e3
    subst e1 e3
    have hcc : l.length ≤ c := by
      obtain ⟨_, c2, e2, _, h2, _⟩ := own_at HL0.out (by omega)
      injection e2 with _ _ e2
      omega
    obtain ⟨w1, w2⟩ := HW1.out
    go_wp2_with fail
    clear w1 w2 HW1
    go_loopw [5, 6] (fun v5 v6 wr => ∃ (m j : Nat) (cur : List En), v5 = .int .i64 m ∧ v6 = .int .i64 j ∧ DelR p l cur m j ∧ wr.ownsRow base 76 11 (.slice (some ⟨g, 0, none⟩) l.length c) l.length (cur.flatMap En.cells) ∧ Chg (fun k => some g = some k) w wr) (fun _ v6 _ => l.length - (intOf v6).toNat)
    case atStart => exact ⟨i, i + 1, l, rfl, by first | rfl | go_num, HR.out, HL0.out, HC0.out⟩
    case round =>
      obtain ⟨m, j, cur, rfl, rfl, hr, hrow, hch⟩ := hrel
      have hmj := hr.mj
      have hjn := hr.jn
      have hzr : w.heap.size ≤ wr.heap.size := hch.size
      have HR := Lib.hid hr
      have HO := Lib.hid hrow
      have HC := Lib.hid hch
      clear hr hrow hch
      by_cases hlt : j < l.length
      · obtain ⟨x, hx⟩ : ∃ t, l[j]? = some t := ⟨_, List.getElem?_eq_getElem hlt⟩
        have hld := own_load En.len HO.out (HR.out.at_ hx) Tryz.prog
        have hld : Sem.run Tryz.prog (lc11 ⟨g, j * 11, none⟩) wr = .ok #[.string x.ev.id, .string x.ev.tn, .string x.ev.src, .string x.ev.key, .int .i64 x.ev.at_, .string x.ev.cause, .slice x.ev.A x.ev.body.length x.ev.cp, .int .i64 x.vis, .int .i64 x.rcv, .bool x.held, .int .i64 x.arr] wr := hld
        have HT := Lib.hid hx
        have HA := Lib.hid (HF.out x (List.mem_of_getElem? hx) _ (HC.out.alloc (.cells #[.string x.ev.id, .string x.ev.tn, .string x.ev.src, .string x.ev.key, .int .i64 x.ev.at_, .string x.ev.cause, .slice x.ev.A x.ev.body.length x.ev.cp, .int .i64 x.vis, .int .i64 x.rcv, .bool x.held, .int .i64 x.arr] 76)))
        have hki : (j : Int) < l.length := by omega
        have hk0 : (0 : Int) ≤ j := by omega
        have hmi : (m : Int) < l.length := by omega
        have hm0 : (0 : Int) ≤ m := by omega
        have hl0 : 0 < l.length := by omega
        have hmc : m < cur.length := by rw [HR.out.len]; omega
        have hmb : m * 11 + x.cells.length ≤ (cur.flatMap En.cells).length := by rw [flat_len En.len, En.len]; omega
        have HW3 := Lib.hid (w64 (x := (j : Int) + 1) (by omega) (by omega))
        have HW5 := Lib.hid (w64 (x := (m : Int) + 1) (by omega) (by omega))
        clear hx
        go_wp2_with fail
        refine HA.out.mono ?_
        rintro e wq ⟨rfl, hb⟩
        have bx : Blk wq wr.heap.size 76 #[.string x.ev.id, .string x.ev.tn, .string x.ev.src, .string x.ev.key, .int .i64 x.ev.at_, .string x.ev.cause, .slice x.ev.A x.ev.body.length x.ev.cp, .int .i64 x.vis, .int .i64 x.rcv, .bool x.held, .int .i64 x.arr] := (Blk.new wr _ _).on hb
        have hb2 : Below wr.heap.size wr wq := (al_new wr _).trans (hb.mono (by simp))
        have HC2 := Lib.hid (HC.out.below hb2)
        have HO2 := Lib.hid (own_below HO.out hb2)
        have hzq : w.heap.size ≤ wq.heap.size := by have := hb2.size; omega
        clear hb hb2
        cases hpt : p x
        · have HP := Lib.hid (HR.out.keep HT.out hpt)
          obtain ⟨cx, hcx⟩ : ∃ q, q = x.cells := ⟨_, rfl⟩
          have hlx : Sem.run Tryz.prog (lc11 ⟨wr.heap.size, 0, none⟩) wq = .ok cx.toArray wq := by rw [hcx]; exact blk_lc bx Tryz.prog
          have hst : Sem.run Tryz.prog (storeCells ⟨g, m * 11, none⟩ cx 0) wq = .ok () (wq.setCells g (m * 11) cx) := by rw [hcx]; exact own_st En.len En.one HO2.out hl0 (i := m) hmc x Tryz.prog
          have hsx : cx.length = 11 := by rw [hcx]; rfl
          have HO3 := Lib.hid (own_lay x.cells _ wq (m * 11) HO2.out hmb)
          rw [flat_lay En.len cur m x hmc] at HO3
          have HC3 := Lib.hid (chg_setCells (g := g) x.cells wq (m * 11) HC2.out (fun _ => rfl))
          obtain ⟨w3, w4⟩ := HW3.out
          obtain ⟨w5, w6⟩ := HW5.out
          rw [← hcx] at HO3 HC3
          clear hpt hcx bx
          go_wp2_with fail
          clear w3 w4 w5 w6
          go_roundw
          case rel => exact ⟨m + 1, j + 1, cur.set m x, by go_num, by go_num, HP.out, HO3.out, HC3.out⟩
          case measure => simp [intOf]; omega
        · have HP := Lib.hid (HR.out.drop HT.out hpt)
          obtain ⟨w3, w4⟩ := HW3.out
          clear hpt
          go_wp2_with fail
          clear w3 w4
          go_roundw
          case rel => exact ⟨m, j + 1, cur, rfl, by go_num, HP.out, HO2.out, HC2.out⟩
          case measure => simp [intOf]; omega
      · obtain rfl : j = l.length := by omega
        have hcl0 := HR.out.len
        obtain ⟨w', hcl, hown, hch⟩ := clear_en wr g c base m cur (by rw [hcl0]; exact HO.out) (by rw [hcl0]; exact hmj)
        rw [hcl0] at hcl
        have hki : ¬ (l.length : Int) < l.length := by omega
        have hm0 : (0 : Int) ≤ m := by omega
        have hmi : (m : Int) ≤ l.length := by omega
        have hmc : c ≠ m := by omega
        have hmcn : m ≤ c := by omega
        rw [HR.out.done] at hown
        have hml : (l.filter fun x => !p x).length = m := by rw [← HR.out.done, List.length_take, hcl0]; omega
        have HOF := Lib.hid (And.intro hown (HC.out.trans hch (fun k _ hk => by rw [hk])))
        have HML := Lib.hid hml
        clear hown hch hml hcl0
        go_wp2_with fail
        go_ret
        unfold DlPost
        rw [HML.out]
        exact ⟨rfl, HOF.out.1, HOF.out.2⟩
end
end Go.Proofs.YtbofclohnmojmaaGreatDoor
namespace Go.Proofs.YtbofclohnmojmaaGreatDoor
open Go.RowKit
open Go.Sort (grow)

theorem cell_lt {w : World} {p : Addr} {v : Value} (h : w.cell? p = some v) : p.block < w.heap.size := by
  unfold World.cell? at h
  rcases Nat.lt_or_ge p.block w.heap.size with hlt | hge
  · exact hlt
  · rw [Array.getElem?_eq_none hge] at h; cases h
theorem cell_al {w : World} {p : Addr} {v : Value} (h : w.cell? p = some v) (o : Obj) : (w.alloc o).cell? p = some v := ((al_new w o).cell (p := p) (cell_lt h)).trans h
/-- Received too often, and visible. -/
def goneB (now r : Int) (x : En) : Bool := decide (x.vis ≤ now) && decide (r ≤ x.rcv)
set_option maxHeartbeats 2000000 in
set_option maxRecDepth 20000 in
theorem gone_any (x : En) (bn bq q : Nat) (now r : Int) (w : World) (h1 : w.cell? ⟨bn, 0, none⟩ = some (.int .i64 now)) (h2 : w.cell? ⟨bq, 0, none⟩ = some (.pointer (some ⟨q, 0, none⟩))) (h3 : w.cell? ⟨q, 1, none⟩ = some (.int .i64 r)) :
    Calls Tryz.prog 65 #[.agg #[.string x.ev.id, .string x.ev.tn, .string x.ev.src, .string x.ev.key, .int .i64 x.ev.at_, .string x.ev.cause, .slice x.ev.A x.ev.body.length x.ev.cp, .int .i64 x.vis, .int .i64 x.rcv, .bool x.held, .int .i64 x.arr], .pointer (some ⟨bn, 0, none⟩), .pointer (some ⟨bq, 0, none⟩)] w fun e w' => e = .returned (.bool (goneB now r x)) ∧ Below w.heap.size w w' := by
  go_enter Tryz.func65, Tryz.ntmps65
  go_wp2_with fail
  have c1 := cell_al h1 (.cells #[.string x.ev.id, .string x.ev.tn, .string x.ev.src, .string x.ev.key, .int .i64 x.ev.at_, .string x.ev.cause, .slice x.ev.A x.ev.body.length x.ev.cp, .int .i64 x.vis, .int .i64 x.rcv, .bool x.held, .int .i64 x.arr] 76)
  have c2 := cell_al h2 (.cells #[.string x.ev.id, .string x.ev.tn, .string x.ev.src, .string x.ev.key, .int .i64 x.ev.at_, .string x.ev.cause, .slice x.ev.A x.ev.body.length x.ev.cp, .int .i64 x.vis, .int .i64 x.rcv, .bool x.held, .int .i64 x.arr] 76)
  have c3 := cell_al h3 (.cells #[.string x.ev.id, .string x.ev.tn, .string x.ev.src, .string x.ev.key, .int .i64 x.ev.at_, .string x.ev.cause, .slice x.ev.A x.ev.body.length x.ev.cp, .int .i64 x.vis, .int .i64 x.rcv, .bool x.held, .int .i64 x.arr] 76)
  have bx := Blk.new w 76 #[.string x.ev.id, .string x.ev.tn, .string x.ev.src, .string x.ev.key, .int .i64 x.ev.at_, .string x.ev.cause, .slice x.ev.A x.ev.body.length x.ev.cp, .int .i64 x.vis, .int .i64 x.rcv, .bool x.held, .int .i64 x.arr]
  have HB := Lib.hid (al_new w (.cells #[.string x.ev.id, .string x.ev.tn, .string x.ev.src, .string x.ev.key, .int .i64 x.ev.at_, .string x.ev.cause, .slice x.ev.A x.ev.body.length x.ev.cp, .int .i64 x.vis, .int .i64 x.rcv, .bool x.held, .int .i64 x.arr] 76))
  clear h1 h2 h3
  generalize w.alloc (.cells #[.string x.ev.id, .string x.ev.tn, .string x.ev.src, .string x.ev.key, .int .i64 x.ev.at_, .string x.ev.cause, .slice x.ev.A x.ev.body.length x.ev.cp, .int .i64 x.vis, .int .i64 x.rcv, .bool x.held, .int .i64 x.arr] 76) = W at *
  have x7 : W.cell? ⟨w.heap.size, 7, none⟩ = some (.int .i64 x.vis) := bx.cell 7
  have x8 : W.cell? ⟨w.heap.size, 8, none⟩ = some (.int .i64 x.rcv) := bx.cell 8
  clear bx
  by_cases ha : x.vis ≤ now
  · have d1 : decide (x.vis ≤ now) = true := decide_eq_true ha
    by_cases hb : r ≤ x.rcv
    · have d2 : decide (r ≤ x.rcv) = true := decide_eq_true hb
      have HE := Lib.hid (show true = goneB now r x by unfold goneB; rw [d1, d2]; rfl)
      clear ha hb
      go_quiet (fail)
      go_wp2_with fail
      go_ret
      exact ⟨ret_bool HE.out, HB.out.trans (below_drewN' _ _ _)⟩
    · have d2 : decide (r ≤ x.rcv) = false := decide_eq_false hb
      have HE := Lib.hid (show false = goneB now r x by unfold goneB; rw [d1, d2]; rfl)
      clear ha hb
      go_quiet (fail)
      go_wp2_with fail
      go_ret
      exact ⟨ret_bool HE.out, HB.out.trans (below_drewN' _ _ _)⟩
  · have d1 : decide (x.vis ≤ now) = false := decide_eq_false ha
    have HE := Lib.hid (show false = goneB now r x by unfold goneB; rw [d1]; rfl)
    clear ha
    go_quiet (fail)
    go_wp2_with fail
    go_ret
    exact ⟨ret_bool HE.out, HB.out.trans (below_drewN' _ _ _)⟩

theorem nan_any (a : Int) (w : World) : Calls Tryz.prog 86 #[.int .i64 a] w fun e w' => e = .returned (.bool false) ∧ w' = w := by
  have d : (a != a) = false := by simp
  go_enter Tryz.func86, Tryz.ntmps86
  go_wp2_with fail
  go_ret
  exact ⟨rfl, rfl⟩
def cmpI (a b : Int) : Int := if a < b then -1 else if b < a then 1 else 0
set_option maxHeartbeats 1000000 in
theorem Compare_any (a b : Int) (w : World) : Calls Tryz.prog 70 #[.int .i64 a, .int .i64 b] w fun e w' => e = .returned (.int .i64 (cmpI a b)) ∧ w' = w := by
  by_cases h1 : a < b
  · have HE := Lib.hid (show (-1 : Int) = cmpI a b by unfold cmpI; rw [if_pos h1])
    have d1 : decide (a < b) = true := decide_eq_true h1
    go_enter Tryz.func70, Tryz.ntmps70
    go_wp2_with fail
    refine (nan_any a _).mono ?_
    rintro e wq ⟨rfl, hq⟩
    obtain rfl := hq.symm
    go_wp2_with fail
    refine (nan_any b _).mono ?_
    rintro e wq ⟨rfl, hq⟩
    obtain rfl := hq.symm
    go_wp2_with fail
    go_ret
    exact ⟨ret_int HE.out, rfl⟩
  · have d1 : decide (a < b) = false := decide_eq_false h1
    by_cases h2 : b < a
    · have HE := Lib.hid (show (1 : Int) = cmpI a b by unfold cmpI; rw [if_neg h1, if_pos h2])
      have d2 : decide (b < a) = true := decide_eq_true h2
      go_enter Tryz.func70, Tryz.ntmps70
      go_wp2_with fail
      refine (nan_any a _).mono ?_
      rintro e wq ⟨rfl, hq⟩
      obtain rfl := hq.symm
      go_wp2_with fail
      refine (nan_any b _).mono ?_
      rintro e wq ⟨rfl, hq⟩
      obtain rfl := hq.symm
      go_wp2_with fail
      go_ret
      exact ⟨ret_int HE.out, rfl⟩
    · have HE := Lib.hid (show (0 : Int) = cmpI a b by unfold cmpI; rw [if_neg h1, if_neg h2])
      have d2 : decide (b < a) = false := decide_eq_false h2
      go_enter Tryz.func70, Tryz.ntmps70
      go_wp2_with fail
      refine (nan_any a _).mono ?_
      rintro e wq ⟨rfl, hq⟩
      obtain rfl := hq.symm
      go_wp2_with fail
      refine (nan_any b _).mono ?_
      rintro e wq ⟨rfl, hq⟩
      obtain rfl := hq.symm
      go_wp2_with fail
      go_ret
      exact ⟨ret_int HE.out, rfl⟩
def orI (a b : Int) : Int := if a = 0 then b else a
theorem orI_z (b : Int) : orI 0 b = b := rfl
theorem orI_n {a : Int} (b : Int) (h : ¬ a = 0) : orI a b = a := by unfold orI; rw [if_neg h]
theorem Or_any (a b : Int) (g c : Nat) (w : World) (h0 : w.cell? ⟨g, 0, none⟩ = some (.int .i64 a)) (h1 : w.cell? ⟨g, 1, none⟩ = some (.int .i64 b)) : Calls Tryz.prog 69 #[.slice (some ⟨g, 0, none⟩) 2 c] w fun e w' => e = .returned (.int .i64 (orI a b)) ∧ w' = w := by
  by_cases ha : a = 0
  · subst ha
    by_cases hb : b = 0
    · subst hb
      have d1 : ((0 : Int) != 0) = false := rfl
      go_enter Tryz.func69, Tryz.ntmps69
      go_wp2_with fail
      go_loop [5, 8] (fun _ i => ∃ k : Nat, k ≤ 2 ∧ i = .int .i64 k) (fun _ i => 2 - (intOf i).toNat)
      case atStart => exact ⟨0, by omega, rfl⟩
      case round =>
        obtain ⟨k, hk, rfl⟩ := hrel
        rcases (show k = 0 ∨ k = 1 ∨ k = 2 by omega) with rfl | rfl | rfl
        · go_wp2_with fail
          go_round
          case rel => exact ⟨1, by omega, by first | rfl | go_num⟩
          case measure => simp [intOf]
        · go_wp2_with fail
          go_round
          case rel => exact ⟨2, by omega, by first | rfl | go_num⟩
          case measure => simp [intOf]
        · go_wp2_with fail
          go_ret
          exact ⟨ret_int (orI_z 0).symm, rfl⟩
    · have d2 : (b != 0) = true := by simpa using hb
      go_enter Tryz.func69, Tryz.ntmps69
      go_wp2_with fail
      go_loop [5, 8] (fun _ i => ∃ k : Nat, k ≤ 1 ∧ i = .int .i64 k) (fun _ i => 2 - (intOf i).toNat)
      case atStart => exact ⟨0, by omega, rfl⟩
      case round =>
        obtain ⟨k, hk, rfl⟩ := hrel
        rcases (show k = 0 ∨ k = 1 by omega) with rfl | rfl
        · go_wp2_with fail
          go_round
          case rel => exact ⟨1, by omega, by first | rfl | go_num⟩
          case measure => simp [intOf]
        · go_wp2_with fail
          go_ret
          exact ⟨ret_int (orI_z b).symm, rfl⟩
  · have d1 : (a != 0) = true := by simpa using ha
    go_enter Tryz.func69, Tryz.ntmps69
    go_wp2_with fail
    go_loop [5, 8] (fun _ i => i = .int .i64 0) (fun _ i => 2 - (intOf i).toNat)
    case atStart => exact rfl
    case round =>
      subst hrel
      go_wp2_with fail
      go_ret
      exact ⟨ret_int (orI_n b ha).symm, rfl⟩
/-- The order of the dead letters: by time, then by arrival. -/
def cfE (x y : En) : Int := orI (cmpI x.vis y.vis) (cmpI x.arr y.arr)
set_option maxHeartbeats 4000000 in
set_option maxRecDepth 20000 in
theorem cmpE_any (x y : En) (w : World) : Calls Tryz.prog 68 #[.agg #[.string x.ev.id, .string x.ev.tn, .string x.ev.src, .string x.ev.key, .int .i64 x.ev.at_, .string x.ev.cause, .slice x.ev.A x.ev.body.length x.ev.cp, .int .i64 x.vis, .int .i64 x.rcv, .bool x.held, .int .i64 x.arr], .agg #[.string y.ev.id, .string y.ev.tn, .string y.ev.src, .string y.ev.key, .int .i64 y.ev.at_, .string y.ev.cause, .slice y.ev.A y.ev.body.length y.ev.cp, .int .i64 y.vis, .int .i64 y.rcv, .bool y.held, .int .i64 y.arr]] w fun e w' => e = .returned (.int .i64 (cfE x y)) ∧ ∃ q os', w' = grow (w.drewN q) os' := by
  go_enter Tryz.func68, Tryz.ntmps68
  go_wp2_with fail
  have bx := (Blk.new w 76 #[.string x.ev.id, .string x.ev.tn, .string x.ev.src, .string x.ev.key, .int .i64 x.ev.at_, .string x.ev.cause, .slice x.ev.A x.ev.body.length x.ev.cp, .int .i64 x.vis, .int .i64 x.rcv, .bool x.held, .int .i64 x.arr]).alloc (.cells #[.string y.ev.id, .string y.ev.tn, .string y.ev.src, .string y.ev.key, .int .i64 y.ev.at_, .string y.ev.cause, .slice y.ev.A y.ev.body.length y.ev.cp, .int .i64 y.vis, .int .i64 y.rcv, .bool y.held, .int .i64 y.arr] 76)
  have bY := Blk.new1 w (.cells #[.string x.ev.id, .string x.ev.tn, .string x.ev.src, .string x.ev.key, .int .i64 x.ev.at_, .string x.ev.cause, .slice x.ev.A x.ev.body.length x.ev.cp, .int .i64 x.vis, .int .i64 x.rcv, .bool x.held, .int .i64 x.arr] 76) 76 #[.string y.ev.id, .string y.ev.tn, .string y.ev.src, .string y.ev.key, .int .i64 y.ev.at_, .string y.ev.cause, .slice y.ev.A y.ev.body.length y.ev.cp, .int .i64 y.vis, .int .i64 y.rcv, .bool y.held, .int .i64 y.arr]
  obtain ⟨os0, h0⟩ : ∃ os0, (w.alloc (.cells #[.string x.ev.id, .string x.ev.tn, .string x.ev.src, .string x.ev.key, .int .i64 x.ev.at_, .string x.ev.cause, .slice x.ev.A x.ev.body.length x.ev.cp, .int .i64 x.vis, .int .i64 x.rcv, .bool x.held, .int .i64 x.arr] 76)).alloc (.cells #[.string y.ev.id, .string y.ev.tn, .string y.ev.src, .string y.ev.key, .int .i64 y.ev.at_, .string y.ev.cause, .slice y.ev.A y.ev.body.length y.ev.cp, .int .i64 y.vis, .int .i64 y.rcv, .bool y.held, .int .i64 y.arr] 76) = grow w os0 := ⟨_, by rw [Go.Sort.alloc_eq_grow, Go.Sort.alloc_eq_grow, Go.Sort.grow_grow]⟩
  generalize (w.alloc (.cells #[.string x.ev.id, .string x.ev.tn, .string x.ev.src, .string x.ev.key, .int .i64 x.ev.at_, .string x.ev.cause, .slice x.ev.A x.ev.body.length x.ev.cp, .int .i64 x.vis, .int .i64 x.rcv, .bool x.held, .int .i64 x.arr] 76)).alloc (.cells #[.string y.ev.id, .string y.ev.tn, .string y.ev.src, .string y.ev.key, .int .i64 y.ev.at_, .string y.ev.cause, .slice y.ev.A y.ev.body.length y.ev.cp, .int .i64 y.vis, .int .i64 y.rcv, .bool y.held, .int .i64 y.arr] 76) = W at *
  have H0 := Lib.hid h0
  have x7 : W.cell? ⟨w.heap.size, 7, none⟩ = some (.int .i64 x.vis) := bx.cell 7
  have x8 : W.cell? ⟨w.heap.size, 10, none⟩ = some (.int .i64 x.arr) := bx.cell 10
  have y7 : W.cell? ⟨w.heap.size + 1, 7, none⟩ = some (.int .i64 y.vis) := bY.cell 7
  have y8 : W.cell? ⟨w.heap.size + 1, 10, none⟩ = some (.int .i64 y.arr) := bY.cell 10
  have hz : w.heap.size + 1 < W.heap.size := bY.lt
  have HE := Lib.hid (show orI (cmpI x.vis y.vis) (cmpI x.arr y.arr) = cfE x y from rfl)
  clear bx bY h0
  go_region_held3 (fun w' => w'.cell? ⟨w.heap.size, 7, none⟩ = some (.int .i64 x.vis) ∧ w'.cell? ⟨w.heap.size, 10, none⟩ = some (.int .i64 x.arr) ∧ w'.cell? ⟨w.heap.size + 1, 7, none⟩ = some (.int .i64 y.vis) ∧ w'.cell? ⟨w.heap.size + 1, 10, none⟩ = some (.int .i64 y.arr)) (first | assumption | exact ⟨x7, x8, y7, y8⟩ | exact ⟨cell_al x7 _, cell_al x8 _, cell_al y7 _, cell_al y8 _⟩) (first | (go_at_call 70; ((with_reducible refine (Compare_any x.vis y.vis _).mono ?_); rintro e wq ⟨rfl, hq⟩; obtain rfl := hq.symm)) | (go_at_call 70; ((with_reducible refine (Compare_any x.arr y.arr _).mono ?_); rintro e wq ⟨rfl, hq⟩; obtain rfl := hq.symm)) | (go_at_call 69; ((with_reducible refine (Or_any (cmpI x.vis y.vis) (cmpI x.arr y.arr) _ _ _ (by simp) (by simp)).mono ?_); rintro e wq ⟨rfl, hq⟩; obtain rfl := hq.symm)))
  all_goals
    go_wp2_with fail
    go_ret
    refine ⟨ret_int HE.out, ?_⟩
    rw [H0.out]
    exact ⟨1, _, by rw [Go.Sort.alloc_eq_grow, Go.Sort.grow_grow]; rfl⟩
end Go.Proofs.YtbofclohnmojmaaGreatDoor
namespace Go.Proofs.YtbofclohnmojmaaGreatDoor
open Go.RowKit Go.Sort

/-- The state of a queue: its policy, its time, how many events arrived, the waiting events, the dead letters. -/
structure QS where
  v : Int
  r : Int
  now : Int
  arr : Int
  l : List En
  d : List Ev
def qC (s : QS) (A : Option Addr) (c : Nat) (A' : Option Addr) (c' : Nat) : Array Value :=
  #[.int .i64 s.v, .int .i64 s.r, .int .i64 s.now, .int .i64 s.arr, .slice A s.l.length c, .slice A' s.d.length c']
/-- A row of entries, of events, of the call's own. -/
def OwnE (w : World) (B : Nat) (v : Value) (l : List En) : Prop := w.ownsRow B 76 11 v l.length (l.flatMap En.cells)
def OwnV (w : World) (B : Nat) (v : Value) (l : List Ev) : Prop := w.ownsRow B 40 7 v l.length (l.flatMap Ev.cells)
structure FQ (w : World) (B q : Nat) (A : Option Addr) (c : Nat) (A' : Option Addr) (c' : Nat) (s : QS) : Prop where
  blk : Blk w q 57 (qC s A c A' c')
  row : OwnE w B (.slice A s.l.length c) s.l
  dead : OwnV w B (.slice A' s.d.length c') s.d
  bl : ∀ x ∈ s.l, EvQ w B x.ev
  bd : ∀ e ∈ s.d, EvQ w B e
  hq : B ≤ q
/-- All that a queue rests on. -/
def ff (q : Nat) (A A' : Option Addr) (k : Nat) : Prop := k = q ∨ A.map (·.block) = some k ∨ A'.map (·.block) = some k
section
variable {w w' : World} {B q c c' : Nat} {A A' : Option Addr} {s : QS}
theorem FQ.ne (h : FQ w B q A c A' c' s) : A.map (·.block) ≠ some q ∧ A'.map (·.block) ≠ some q ∧ ∀ k, A.map (·.block) = some k → A'.map (·.block) ≠ some k := by
  refine ⟨fun e => ?_, fun e => ?_, fun k e e' => ?_⟩
  · exact h.blk.off h.row (by decide) (k := q) (by rw [own_eq]; exact e) rfl
  · exact h.blk.off h.dead (by decide) (k := q) (by rw [own_eq]; exact e) rfl
  · obtain ⟨cs, hb⟩ := own_blk h.row (k := k) (by rw [own_eq]; exact e)
    exact hb.off h.dead (by decide) (k := k) (by rw [own_eq]; exact e') rfl
theorem FQ.foot_lt (h : FQ w B q A c A' c' s) : ∀ k, ff q A A' k → B ≤ k ∧ k < w.heap.size := by
  rintro k (rfl | e | e)
  · exact ⟨h.hq, h.blk.lt⟩
  · exact own_lt h.row (by rw [own_eq]; exact e)
  · exact own_lt h.dead (by rw [own_eq]; exact e)
theorem FQ.offC (h : FQ w B q A c A' c' s) : OffC w (ff q A A') := by
  rintro k hk cs m e
  have key : ∀ {t : TypeId} {cs' : Array Value}, Blk w k t cs' → t = 94 := fun hb => by
    unfold Blk at hb
    rw [hb] at e
    injection e with e
    injection e with _ e
  rcases hk with rfl | hk | hk
  · exact absurd (key h.blk) (by decide)
  · obtain ⟨cs', hb⟩ := own_blk h.row (k := k) (by rw [own_eq]; exact hk)
    exact absurd (key hb) (by decide)
  · obtain ⟨cs', hb⟩ := own_blk h.dead (k := k) (by rw [own_eq]; exact hk)
    exact absurd (key hb) (by decide)
theorem FQ.chg {S : Nat → Prop} (h : FQ w B q A c A' c' s) (hc : Chg S w w') (hn : ∀ k, ff q A A' k → ¬ S k) (hS : OffC w S) : FQ w' B q A c A' c' s :=
  ⟨hc.blk h.blk (hn _ (.inl rfl)), hc.own h.row (fun k hk => hn k (.inr (.inl (by rw [own_eq] at hk; exact hk)))), hc.own h.dead (fun k hk => hn k (.inr (.inr (by rw [own_eq] at hk; exact hk)))),
    fun x hx => (h.bl x hx).chg hc hS, fun e he => (h.bd e he).chg hc hS, h.hq⟩
theorem FQ.below (h : FQ w B q A c A' c' s) (hb : Below w.heap.size w w') : FQ w' B q A c A' c' s := h.chg (S := fun _ => False) (Chg.of_below hb) (fun _ _ h => h) (fun _ h => h.elim)
end

/-! ### the sort -/
def betE (x y : En) : Prop := x.vis < y.vis ∨ (x.vis = y.vis ∧ x.arr < y.arr)
theorem betE_before : Go.Proofs.YtbofclohnmojmaaGreatDoor.Before betE := ⟨fun h g => by unfold betE at *; omega⟩
instance : Inhabited En := ⟨zeroEn⟩
theorem cfE_neg (x y : En) : cfE x y < 0 ↔ betE x y := by
  unfold cfE orI cmpI betE
  by_cases h1 : x.vis < y.vis
  · simp [h1]
  · by_cases h2 : y.vis < x.vis
    · simp [h1, h2]; omega
    · have h3 : x.vis = y.vis := by omega
      by_cases h4 : x.arr < y.arr
      · simp [h3, h4]
      · by_cases h5 : y.arr < x.arr
        · simp [h3, h4, h5]
        · simp [h3, h4, h5]
theorem enters_cmp (args : Array Value) (w : World) : Sem.run Tryz.prog (callFunc 68 args) w = .ok (.enter 68 args) w := enters_of Tryz.func68 (by kernel_rfl) rfl args w
theorem enters_gone (args : Array Value) (w : World) : Sem.run Tryz.prog (callFunc 65 args) w = .ok (.enter 65 args) w := enters_of Tryz.func65 (by kernel_rfl) rfl args w
theorem cmp_laysE (blk off n : Nat) (w : World) : CmpLays Tryz.prog 68 #[] En.cells 11 cfE blk off n w :=
  fun _ _ _ _ x y => cmpE_any x y _
theorem flat_at {l : List En} {k i : Nat} {x : En} (hi : l[i]? = some x) (hk : k < 11) : (l.flatMap En.cells)[i * 11 + k]? = x.cells[k]? := flat_get En.len l i k x hi hk
theorem holds_row {w : World} {base g c : Nat} {l : List En} (h : OwnE w base (.slice (some ⟨g, 0, none⟩) l.length c) l) (hl : 0 < l.length) : HoldsK En.cells 11 w g 0 l.toArray := by
  obtain ⟨g', c', e1, -, -, -, hlt, hc, hf⟩ := own_at h hl
  injection e1 with e1 _ _
  injection e1 with e1
  injection e1 with e1
  subst e1
  intro t ht
  rw [size_flatK] at ht
  refine ⟨?_, hf _⟩
  have hi : t / 11 < l.length := by simp at ht; omega
  have e : t = (t / 11) * 11 + t % 11 := by omega
  rw [Nat.zero_add]
  refine hc t _ ?_
  rw [get_flatK _ _ _ _ ht]
  conv => lhs; rw [e]
  have hx := List.getElem?_eq_getElem hi
  rw [flat_at hx (Nat.mod_lt _ (by omega)), getElem!_pos l.toArray (t / 11) (by simpa using hi)]
  have hm : t % 11 < (l[t / 11].cells).length := by rw [En.len]; exact Nat.mod_lt _ (by omega)
  rw [List.getElem?_eq_getElem hm]
  simp only [List.getElem_toArray, id]
  rw [getElem!_pos (l[t / 11].cells) (t % 11) hm]
/-- The cells of a row that lies at a block's head. -/
def RowC (w : World) (g : Nat) (r : List En) : Prop := ∀ j u, (r.flatMap En.cells)[j]? = some u → w.cell? ⟨g, j, none⟩ = some u
theorem RowC.ld {w : World} {g : Nat} {r : List En} (h : RowC w g r) {i : Nat} {x : En} (hi : r[i]? = some x) (P : Program) : Sem.run P (loadCellsFrom ⟨g, i * 11, none⟩ 0 11 #[]) w = .ok x.cells.toArray w :=
  run_loadCellsFrom_list P _ _ _ 11 (En.len x) (fun j u hj => by
    have hjk : j < 11 := by rw [← En.len x]; exact (List.getElem?_eq_some_iff.1 hj).1
    rw [Addr.add_lit]
    exact h (i * 11 + j) u (by rw [flat_at hi hjk]; exact hj))
theorem RowC.chg {S : Nat → Prop} {w w' : World} {g : Nat} {r : List En} (h : RowC w g r) (hc : Chg S w w') (hg : g < w.heap.size) (hn : ¬ S g) : RowC w' g r := fun j u hu => (hc.cell (p := ⟨g, j, none⟩) hg hn).trans (h j u hu)
theorem rowC_holds {w : World} {g : Nat} {d : Array En} (h : HoldsK En.cells 11 w g 0 d) : RowC w g d.toList := by
  intro j u hu
  have hj := (List.getElem?_eq_some_iff.1 hu).1
  rw [flat_len En.len] at hj
  have hj' : j < d.size * 11 := by simpa using hj
  have := (h j (by rw [size_flatK]; exact hj')).1
  rw [Nat.zero_add, get_flatK _ _ _ _ hj'] at this
  rw [this]
  have hi : j / 11 < d.toList.length := by simp; omega
  have hx := List.getElem?_eq_getElem hi
  have e : j = (j / 11) * 11 + j % 11 := by omega
  rw [e, flat_at hx (Nat.mod_lt _ (by omega))] at hu
  have hm : j % 11 < (d.toList[j / 11].cells).length := by rw [En.len]; exact Nat.mod_lt _ (by omega)
  rw [List.getElem?_eq_getElem hm] at hu
  injection hu with hu
  rw [← hu, getElem!_pos d (j / 11) (by simpa using hi), getElem!_pos (d[j / 11].cells) (j % 11) (by simpa using hm)]
  simp
theorem chg_SWK {w0 W : World} {blk off : Nat} {d : Array En} (h : SWK En.cells 11 w0 blk off d W) : Chg (fun k => k = blk) w0 W := by
  obtain ⟨m, os, rfl⟩ := h
  unfold sortWorldK putRowK
  refine ⟨rfl, rfl, rfl, ?_, fun k hk hn => ?_⟩
  · rw [Go.Sort.size_grow, Go.Sort.size_putRow]; show w0.heap.size ≤ w0.heap.size + _; omega
  · simp only [grow, Go.Sort.putRow, Go.Sort.mapBlock, Go.Sort.ahead]
    rw [Array.getElem?_append_left (by simp; omega), Array.getElem?_modify, if_neg (fun e => hn e.symm)]
/-- The entries in the order of their time, then of their arrival. -/
def IsSrt (l r : List En) : Prop := r.Perm l ∧ r.Pairwise betE
def StabPost (w : World) (A : Option Addr) (l : List En) (e : Ending) (w' : World) : Prop := e = .returned (.tuple #[]) ∧ Chg (fun k => A.map (·.block) = some k) w w' ∧ ∃ r, IsSrt l r ∧ ∀ g, A = some ⟨g, 0, none⟩ → RowC w' g r
end Go.Proofs.YtbofclohnmojmaaGreatDoor
namespace Go.Proofs.YtbofclohnmojmaaGreatDoor
open Go.RowKit Go.Sort

theorem crsE {l : List En} (hs : l.Pairwise (fun a b => a.arr < b.arr)) : ∀ i j, i < j → j < l.toArray.size → Crs betE (ltOf cfE) l.toArray[i]! l.toArray[j]! := by
  intro i j hij hj
  have hj' : j < l.length := by simpa using hj
  have ha : l[i].arr < l[j].arr := List.pairwise_iff_getElem.1 hs i j (by omega) hj' hij
  rw [getElem!_pos l.toArray i (by simp; omega), getElem!_pos l.toArray j (by simpa using hj')]
  simp only [List.getElem_toArray]
  unfold Crs ltOf
  simp only [decide_eq_true_eq, decide_eq_false_iff_not, cfE_neg]
  unfold betE
  exact ⟨id, fun h => by omega⟩
theorem srt_of {l : List En} {d : Array En} (hp : PermIn 0 l.toArray.size l.toArray d) (hs : Srt betE 0 l.toArray.size d) : IsSrt l d.toList := by
  have hz : d.size = l.length := hp.1.trans (by simp)
  refine ⟨?_, ?_⟩
  · have h := hp.2.2
    rw [Array.extract_eq_self_of_le (by simp [hz]), Array.extract_eq_self_of_le (Nat.le_refl _)] at h
    simpa using h
  · rw [List.pairwise_iff_getElem]
    intro i j hi hj hij
    have h := hs i j (Nat.zero_le _) hij (by simpa [hz] using hj)
    rw [getElem!_pos d i (by simpa using hi), getElem!_pos d j (by simpa using hj)] at h
    simpa using h
theorem ins0_any (A : Option Addr) (c : Nat) (f : Value) (w : World) : Calls Tryz.prog 98 #[.slice A 0 c, .int .i64 0, .int .i64 0, f] w fun e w' => e = .returned (.tuple #[]) ∧ w' = w := by
  go_enter Tryz.func98, Tryz.ntmps98
  go_wp2_with fail
  go_loop [8] (fun i => i = .int .i64 1) (fun _ => 0)
  case atStart => exact rfl
  case round =>
    subst hrel
    go_wp2_with fail
    go_end0
    exact ⟨rfl, rfl⟩
theorem stable0_any (A : Option Addr) (c : Nat) (f : Value) (w : World) : Calls Tryz.prog 85 #[.slice A 0 c, .int .i64 0, f] w fun e w' => e = .returned (.tuple #[]) ∧ w' = w := by
  go_enter Tryz.func85, Tryz.ntmps85
  go_wp2_with fail
  go_loop [7, 8] (fun a b => a = .int .i64 0 ∧ b = .int .i64 20) (fun _ _ => 0)
  case atStart => exact ⟨rfl, rfl⟩
  case round =>
    obtain ⟨rfl, rfl⟩ := hrel
    go_wp2_with fail
    refine (ins0_any A c f w).mono ?_
    rintro e wq ⟨rfl, hq⟩
    obtain rfl := hq.symm
    go_wp2_with fail
    go_loop [6] (fun b => b = .int .i64 20) (fun _ => 0)
    case atStart => exact rfl
    case round =>
      subst hrel
      go_wp2_with fail
      go_end0
      exact ⟨rfl, rfl⟩
theorem sort0_any (A : Option Addr) (c : Nat) (f : Value) (w : World) : Calls Tryz.prog 67 #[.slice A 0 c, f] w fun e w' => e = .returned (.tuple #[]) ∧ w' = w := by
  go_enter Tryz.func67, Tryz.ntmps67
  go_wp2_with fail
  refine (stable0_any A c f w).mono ?_
  rintro e wq ⟨rfl, hq⟩
  obtain rfl := hq.symm
  go_wp2_with fail
  go_end0
  exact ⟨rfl, rfl⟩
theorem sort_any (A : Option Addr) (c base : Nat) (l : List En) (w : World) (h : OwnE w base (.slice A l.length c) l) (hn : l.length ≤ 1000) (hs : l.Pairwise (fun a b => a.arr < b.arr)) :
    Calls Tryz.prog 67 #[.slice A l.length c, .func (.func 68) #[] #[]] w (StabPost w A l) := by
  rcases Nat.eq_zero_or_pos l.length with h0 | h0
  · rw [h0]
    obtain rfl := List.eq_nil_of_length_eq_zero h0
    refine (sort0_any A c _ w).mono ?_
    rintro e w' ⟨rfl, rfl⟩
    exact ⟨rfl, Chg.refl _ _, [], ⟨List.Perm.refl _, List.Pairwise.nil⟩, fun g _ j u hu => by simp at hu⟩
  · obtain ⟨g, c', e1, -, -, -, hlt, -, -⟩ := own_at h h0
    injection e1 with e1 _ _
    subst e1
    have hH := holds_row h h0
    have hh := sortStable_s (cap := c) (cf := cfE) (R := betE) enters_cmp (cmp_laysE g 0 l.toArray.size w) ⟨En.len, En.one, hH, hlt⟩ betE_before rfl (SWK.start hH) (by simp; omega) (crsE hs)
    rw [show l.toArray.size = l.length by simp] at hh
    refine hh.mono ?_
    rintro e w' ⟨rfl, d', hS', hp, hsr⟩
    have hz : d'.size = l.length := by rw [hp.1]; simp
    have hh2 := hS'.holds hlt hH (by rw [hz]; simp)
    exact ⟨rfl, (chg_SWK hS').mono (fun k e => by rw [e]; rfl), d'.toList, srt_of hp hsr, fun g' e => by injection e with e; injection e with e; subst e; exact rowC_holds hh2⟩
end Go.Proofs.YtbofclohnmojmaaGreatDoor
namespace Go.Proofs.YtbofclohnmojmaaGreatDoor
open Go.RowKit
open Go.Sort (grow)

section
variable {w w' : World} {B q c c' : Nat} {A A' : Option Addr} {s : QS}
theorem FQ.setq (h : FQ w B q A c A' c' s) {j : Nat} {u : Value} {s' : QS} (hl : s'.l = s.l) (hd : s'.d = s.d) (hu : (qC s A c A' c').setIfInBounds j u = qC s' A c A' c') : FQ (w.setCell ⟨q, j, none⟩ u) B q A c A' c' s' ∧ Chg (fun k => k = q) w (w.setCell ⟨q, j, none⟩ u) := by
  have hc : Chg (fun k => k = q) w (w.setCell ⟨q, j, none⟩ u) := (Chg.refl (fun k => k = q) w).setCell (p := ⟨q, j, none⟩) (fun _ => rfl) u
  have hS : OffC w (fun k => k = q) := fun k hk => h.offC k (.inl hk)
  have hn := h.ne
  refine ⟨⟨?_, ?_, ?_, fun x hx => ?_, fun e he => ?_, h.hq⟩, hc⟩
  · rw [← hu]; exact h.blk.set_ j u
  · rw [hl]; exact hc.own h.row (fun k hk e => by subst e; rw [own_eq] at hk; exact hn.1 hk)
  · rw [hd]; exact hc.own h.dead (fun k hk e => by subst e; rw [own_eq] at hk; exact hn.2.1 hk)
  · rw [hl] at hx; exact (h.bl x hx).chg hc hS
  · rw [hd] at he; exact (h.bd e he).chg hc hS
/-- A row of its own in the place of the waiting events. -/
theorem FQ.setRow (h : FQ w B q A c A' c' s) {A1 : Option Addr} {c1 : Nat} {l : List En} (hrow : OwnE w B (.slice A1 l.length c1) l) (hl : ∀ x ∈ l, EvQ w B x.ev) : FQ (w.setCell ⟨q, 4, none⟩ (.slice A1 l.length c1)) B q A1 c1 A' c' { s with l := l } ∧ Chg (fun k => k = q) w (w.setCell ⟨q, 4, none⟩ (.slice A1 l.length c1)) := by
  have hc : Chg (fun k => k = q) w (w.setCell ⟨q, 4, none⟩ (.slice A1 l.length c1)) := (Chg.refl (fun k => k = q) w).setCell (p := ⟨q, 4, none⟩) (fun _ => rfl) _
  have hS : OffC w (fun k => k = q) := fun k hk => h.offC k (.inl hk)
  have hn := h.ne
  refine ⟨⟨h.blk.set_ 4 _, hc.own hrow (fun k hk e => ?_), hc.own h.dead (fun k hk e => by subst e; rw [own_eq] at hk; exact hn.2.1 hk), fun x hx => (hl x hx).chg hc hS, fun e he => (h.bd e he).chg hc hS, h.hq⟩, hc⟩
  subst e
  exact h.blk.off hrow (by decide) (k := k) hk rfl
end
theorem filter_len {α : Type} (p : α → Bool) (l : List α) : (l.filter p).length ≤ l.length := List.length_filter_le _ _
theorem filt_yes {l : List En} {k : Nat} {x : En} (p : En → Bool) (h : l[k]? = some x) (hp : p x = true) : (l.take (k + 1)).filter p = (l.take k).filter p ++ [x] := by rw [take_snoc2 h, List.filter_append]; simp [hp]
theorem filt_no {l : List En} {k : Nat} {x : En} (p : En → Bool) (h : l[k]? = some x) (hp : p x = false) : (l.take (k + 1)).filter p = (l.take k).filter p := by rw [take_snoc2 h, List.filter_append]; simp [hp]
theorem info_entry2 : (Tryz.prog.info? 76).map (fun i => (i.zero, i.size, i.bytes)) = some (some (.agg #[.string ⟨#[]⟩, .string ⟨#[]⟩, .string ⟨#[]⟩, .string ⟨#[]⟩, .int .i64 0, .string ⟨#[]⟩, .slice none 0 0, .int .i64 0, .int .i64 0, .bool false, .int .i64 0]), 11, 144) := info_entry
theorem OwnE.push {w : World} {base : Nat} {v : Value} {l : List En} {x : En} (h : w.ownsRow base 76 11 v (l.length + 1) (l.flatMap En.cells ++ x.cells)) : OwnE w base v (l ++ [x]) := by
  unfold OwnE
  rw [List.length_append, List.flatMap_append]
  simpa using h
theorem below_drew' (w : World) : Below w.heap.size w w.drew := (Below.refl _ _).drew
theorem del_gone (wa : World) (base bn bq q : Nat) (now r : Int) (A1 : Option Addr) (c1 : Nat) (l : List En) (h : OwnE wa base (.slice A1 l.length c1) l) (hn : l.length ≤ 1000000) (h1 : wa.cell? ⟨bn, 0, none⟩ = some (.int .i64 now)) (h2 : wa.cell? ⟨bq, 0, none⟩ = some (.pointer (some ⟨q, 0, none⟩))) (h3 : wa.cell? ⟨q, 1, none⟩ = some (.int .i64 r)) (hb1 : bn < base) (hb2 : bq < base) (hb3 : q < base) :
    Calls Tryz.prog 66 #[.slice A1 l.length c1, .func (.func 65) #[] #[.pointer (some ⟨bn, 0, none⟩), .pointer (some ⟨bq, 0, none⟩)]] wa (DlPost wa base c1 A1 (l.filter fun x => !goneB now r x)) := by
  have hk : ∀ {b : Nat}, b < base → ¬ A1.map (·.block) = some b := fun {b} hb e => by
    have := own_lt h (k := b) (by rw [own_eq]; exact e)
    omega
  refine DeleteFunc_any _ enters_gone _ (goneB now r) A1 c1 base l wa h hn (fun x hx W hW => ?_)
  exact gone_any x bn bq q now r W ((hW.cell (p := ⟨bn, 0, none⟩) (cell_lt h1) (hk hb1)).trans h1) ((hW.cell (p := ⟨bq, 0, none⟩) (cell_lt h2) (hk hb2)).trans h2) ((hW.cell (p := ⟨q, 1, none⟩) (cell_lt h3) (hk hb3)).trans h3)
theorem heldq_below {w0 w1 w2 : World} {B : Nat} {p q : Addr} {v u : Value} (h : (w1.cell? p = some v ∧ w1.cell? q = some u ∧ w1.frozen? q = false) ∧ Below B w0 w1) (hb : Below B w1 w2) (hp : p.block < B) (hq : q.block < B) : (w2.cell? p = some v ∧ w2.cell? q = some u ∧ w2.frozen? q = false) ∧ Below B w0 w2 :=
  ⟨⟨(hb.cell hp).trans h.1.1, (hb.cell hq).trans h.1.2.1, (hb.frozen hq).trans h.1.2.2⟩, h.2.trans hb⟩
section
variable {w w5 : World} {B q c c' : Nat} {A A' : Option Addr} {s : QS}
theorem FQ.grown_chg {o : Obj} {n : Nat} (hg : (w.alloc o).drew.grownBy w5 (Value.slice A' n c').ownBlock) : Chg (fun k => A'.map (·.block) = some k) w w5 :=
  (((Chg.refl (fun k => A'.map (·.block) = some k) w).alloc o).drew).grown hg (fun k hk _ => by rw [own_eq] at hk; exact hk)
theorem FQ.pushD (h : FQ w B q A c A' c' s) {e : Ev} {v' : Value} {o : Obj} (he : EvQ w B e) (hown : w5.ownsRow B 40 7 v' (s.d.length + 1) (s.d.flatMap Ev.cells ++ e.cells)) (hg : (w.alloc o).drew.grownBy w5 (Value.slice A' s.d.length c').ownBlock) (hblk : v'.ownBlock = (Value.slice A' s.d.length c').ownBlock ∨ v'.ownBlock = some (w.alloc o).drew.heap.size) :
    ∃ A2 c2, v' = .slice A2 (s.d.length + 1) c2 ∧ FQ (w5.setCell ⟨q, 5, none⟩ v') B q A c A2 c2 { s with d := s.d ++ [e] } ∧ Chg (fun k => k = q ∨ A'.map (·.block) = some k) w (w5.setCell ⟨q, 5, none⟩ v') ∧ ∀ k, A2.map (·.block) = some k → A'.map (·.block) = some k ∨ w.heap.size ≤ k := by
  obtain ⟨A2, c2, rfl⟩ := own_slice hown
  have hne := h.ne
  have hc : Chg (fun k => A'.map (·.block) = some k) w w5 := (((Chg.refl (fun k => A'.map (·.block) = some k) w).alloc o).drew).grown hg (fun k hk _ => by rw [own_eq] at hk; exact hk)
  have hoff : OffC w (fun k => A'.map (·.block) = some k) := fun k hk => h.offC k (.inr (.inr hk))
  have hA2 : ∀ k, A2.map (·.block) = some k → A'.map (·.block) = some k ∨ w.heap.size ≤ k := fun k hk => by
    rcases hblk with e | e
    · rw [own_eq, own_eq] at e
      exact .inl (by rw [← e]; exact hk)
    · rw [own_eq, hk] at e
      injection e with e
      right
      rw [e]
      show w.heap.size ≤ (w.alloc o).heap.size
      simp
  have hd : OwnV w5 B (.slice A2 (s.d ++ [e]).length c2) (s.d ++ [e]) := by
    unfold OwnV
    rw [List.length_append, List.flatMap_append]
    simpa using hown
  have hblk5 : Blk w5 q 57 (qC s A c A' c') := hc.blk h.blk hne.2.1
  have hrow5 := hc.own h.row (fun k hk e => by rw [own_eq] at hk; exact hne.2.2 k hk e)
  have hc2 : Chg (fun k => k = q) w5 (w5.setCell ⟨q, 5, none⟩ (.slice A2 (s.d.length + 1) c2)) := (Chg.refl (fun k => k = q) w5).setCell (p := ⟨q, 5, none⟩) (fun _ => rfl) _
  have hoff2 : OffC w5 (fun k => k = q) := by
    rintro k rfl cs m e
    unfold Blk at hblk5
    rw [hblk5] at e
    injection e with e
    injection e with _ e
    exact absurd e (by decide)
  refine ⟨A2, c2, rfl, ⟨?_, ?_, ?_, fun x hx => ((h.bl x hx).chg hc hoff).chg hc2 hoff2, fun y hy => ?_, h.hq⟩, (hc.mono (T := fun k => k = q ∨ A'.map (·.block) = some k) (fun _ hk => .inr hk)).trans hc2 (fun _ _ hk => .inl hk), hA2⟩
  · have := hblk5.set_ 5 (.slice A2 (s.d.length + 1) c2)
    unfold qC at this ⊢
    rw [List.length_append]
    exact this
  · exact hc2.own hrow5 (fun k hk e => by subst e; exact hblk5.off hrow5 (by decide) (k := k) hk rfl)
  · exact hc2.own hd (fun k hk e => by subst e; exact hblk5.off hd (by decide) (k := k) hk rfl)
  · rcases List.mem_append.1 hy with hy | hy
    · exact ((h.bd y hy).chg hc hoff).chg hc2 hoff2
    · rw [List.mem_singleton.1 hy]; exact (he.chg hc hoff).chg hc2 hoff2
end
/-- The queue behind the removal of what was received too often. -/
def DelMid (w wx : World) (B q : Nat) (A' : Option Addr) (c' : Nat) (s : QS) : Prop := ∃ A1 c1, FQ wx B q A1 c1 A' c' s ∧ Chg (fun k => k = q) w wx ∧ ∀ k, A1.map (·.block) = some k → w.heap.size ≤ k
theorem del_mid {w wb : World} {B q c c' c1 : Nat} {A A' A1 : Option Addr} {s : QS} (hQ : FQ w B q A c A' c' s) (hBw : B ≤ w.heap.size) {l : List En} (hown : wb.ownsRow w.heap.size 76 11 (.slice A1 l.length c1) l.length (l.flatMap En.cells)) (hb : Below w.heap.size w wb) (hsub : ∀ x ∈ l, x ∈ s.l) :
    DelMid w (wb.setCell ⟨q, 4, none⟩ (.slice A1 l.length c1)) B q A' c' { s with l := l } := by
  have h2 := hQ.below hb
  have h3 := h2.setRow (l := l) (own_base hown hBw) (fun x hx => h2.bl x (hsub x hx))
  exact ⟨A1, c1, h3.1, (Chg.of_below hb).trans h3.2 (fun _ _ hk => hk), fun k hk => (own_lt hown (k := k) (by rw [own_eq]; exact hk)).1⟩
/-- The queue behind one more dead letter. -/
def PushMid (w wx : World) (B q : Nat) (A : Option Addr) (c : Nat) (A' : Option Addr) (s : QS) : Prop := ∃ A2 c2, FQ wx B q A c A2 c2 s ∧ Chg (fun k => k = q ∨ A'.map (·.block) = some k) w wx ∧ ∀ k, A2.map (·.block) = some k → A'.map (·.block) = some k ∨ w.heap.size ≤ k
/-- In the second loop: k dead letters have been added. -/
def AcRel (w w4 : World) (B q c1 n : Nat) (A A' A1 Ao : Option Addr) (s s2 : QS) (r : List En) (v : Value) (wx : World) : Prop :=
  ∃ (k : Nat) (A2 : Option Addr) (c2 : Nat), k ≤ n ∧ v = .int .i64 k ∧ FQ wx B q A1 c1 A2 c2 { s2 with d := s2.d ++ (r.take k).map En.ev } ∧ (∀ x ∈ s.l, EvQ wx B x.ev) ∧ (∀ g, Ao = some ⟨g, 0, none⟩ → RowC wx g r) ∧ Blk wx w.heap.size 25 #[.pointer (some ⟨q, 0, none⟩)] ∧ Chg (ff q A A') w wx ∧ (∀ j, A2.map (·.block) = some j → A'.map (·.block) = some j ∨ w4.heap.size ≤ j) ∧ w4.heap.size ≤ wx.heap.size
/-- What accept leaves. -/
def AcPost (w : World) (B q : Nat) (A A' : Option Addr) (s : QS) (now : Int) (e : Ending) (w' : World) : Prop :=
  e = .returned (.tuple #[]) ∧ ∃ r A2 c2 A3 c3, IsSrt (s.l.filter (goneB now s.r)) r ∧ FQ w' B q A2 c2 A3 c3 { s with now := now, l := s.l.filter (fun x => !goneB now s.r x), d := s.d ++ r.map En.ev } ∧ Chg (ff q A A') w w' ∧ ∀ k, ff q A2 A3 k → ff q A A' k ∨ w.heap.size ≤ k
section
attribute [local go_sem ↓] run_lc11
attribute [local go_sem] run_lc11_new
set_option maxHeartbeats 16000000 in
set_option maxRecDepth 20000 in
theorem accept_any (w : World) (B q c c' : Nat) (A A' : Option Addr) (s : QS) (now : Int) (hB : B ≤ w.heap.size) (hQ : FQ w B q A c A' c' s) (hl : s.l.length ≤ 300) (hd : s.d.length ≤ 300) (hs : s.l.Pairwise (fun a b => a.arr < b.arr)) :
    Calls Tryz.prog 43 #[.pointer (some ⟨q, 0, none⟩), .int .i64 now] w (AcPost w B q A A' s now) := by
  obtain ⟨i0, ih, iz0, iz1, iz2⟩ := info_partsO info_entry2
  have hql := hQ.blk.lt
  have b0 := (hQ.blk.alloc (.cells #[.pointer (some ⟨q, 0, none⟩)] 25)).alloc (.cells #[.int .i64 now] 3)
  have q2 : ((w.alloc (.cells #[.pointer (some ⟨q, 0, none⟩)] 25)).alloc (.cells #[.int .i64 now] 3)).cell? ⟨q, 2, none⟩ = some (.int .i64 s.now) := b0.cell 2
  have f2 := b0.frozen 2
  have HQ := Lib.hid hQ
  have HSS := Lib.hid hs
  have HBW := Lib.hid hB
  clear hQ b0 hs hB
  go_enter Tryz.func43, Tryz.ntmps43
  go_upto_region 2 with fail
  have h1 := HQ.out.setq (j := 2) (u := .int .i64 now) (s' := { s with now := now }) rfl rfl rfl
  have hz0 : (w.setCell ⟨q, 2, none⟩ (.int .i64 now)).heap.size = w.heap.size := by simp
  have hb0 : Below (w.setCell ⟨q, 2, none⟩ (.int .i64 now)).heap.size (w.setCell ⟨q, 2, none⟩ (.int .i64 now)) (((w.setCell ⟨q, 2, none⟩ (.int .i64 now)).alloc (.cells #[.pointer (some ⟨q, 0, none⟩)] 25)).alloc (.cells #[.int .i64 now] 3)) := (al_new _ _).alloc (by simp) _
  have bp : Blk (((w.setCell ⟨q, 2, none⟩ (.int .i64 now)).alloc (.cells #[.pointer (some ⟨q, 0, none⟩)] 25)).alloc (.cells #[.int .i64 now] 3)) w.heap.size 25 #[.pointer (some ⟨q, 0, none⟩)] := by
    have h := (Blk.new (w.setCell ⟨q, 2, none⟩ (.int .i64 now)) 25 #[.pointer (some ⟨q, 0, none⟩)]).alloc (.cells #[.int .i64 now] 3)
    rwa [hz0] at h
  have bn : Blk (((w.setCell ⟨q, 2, none⟩ (.int .i64 now)).alloc (.cells #[.pointer (some ⟨q, 0, none⟩)] 25)).alloc (.cells #[.int .i64 now] 3)) (w.heap.size + 1) 3 #[.int .i64 now] := by
    have h := Blk.new1 (w.setCell ⟨q, 2, none⟩ (.int .i64 now)) (.cells #[.pointer (some ⟨q, 0, none⟩)] 25) 3 #[.int .i64 now]
    rwa [hz0] at h
  have HC1 := Lib.hid ((h1.2.mono (T := ff q A A') (fun k hk => .inl hk)).below hb0)
  have HQ1 := Lib.hid (h1.1.below hb0)
  clear hb0 h1 q2 f2 hz0
  generalize ((w.setCell ⟨q, 2, none⟩ (.int .i64 now)).alloc (.cells #[.pointer (some ⟨q, 0, none⟩)] 25)).alloc (.cells #[.int .i64 now] 3) = w1 at *
  have hz1 : w.heap.size + 2 ≤ w1.heap.size := by have := bn.lt; omega
  have q4 : w1.cell? ⟨q, 4, none⟩ = some (.slice A s.l.length c) := HQ1.out.blk.cell 4
  have qp : w1.cell? ⟨w.heap.size, 0, none⟩ = some (.pointer (some ⟨q, 0, none⟩)) := bp.cell 0
  go_wp2_with fail
  clear q4 qp
  have hBw := Nat.le_trans HBW.out (show w.heap.size ≤ w1.heap.size by omega)
  go_loopw [4, 20] (fun v4 v20 wr => ∃ k : Nat, k ≤ s.l.length ∧ v20 = .int .i64 k ∧ OwnE wr w1.heap.size v4 ((s.l.take k).filter (goneB now s.r)) ∧ Below w1.heap.size w1 wr) (fun _ v20 _ => s.l.length - (intOf v20).toNat)
  case atStart => exact ⟨0, Nat.zero_le _, rfl, own_nil _ _ _ _, Below.refl _ _⟩
  case round =>
    obtain ⟨k, hk, rfl, hown, hb⟩ := hrel
    obtain ⟨v, rfl⟩ : ∃ v : Value, v = u4 := ⟨_, rfl⟩
    have HO := Lib.hid hown
    have HB := Lib.hid hb
    have hzr : w1.heap.size ≤ wr.heap.size := hb.size
    have hQr := HQ1.out.below hb
    have bpr := bp.on hb
    have bnr := bn.on hb
    clear hown hb
    by_cases hlt : k < s.l.length
    · obtain ⟨x, hx⟩ : ∃ t, s.l[k]? = some t := ⟨_, List.getElem?_eq_getElem hlt⟩
      obtain ⟨g, rfl, -, -, -, hld⟩ := ld_en hQr.row hx
      have HT := Lib.hid hx
      have c1 := cell_al (show wr.cell? ⟨w.heap.size + 1, 0, none⟩ = some (.int .i64 now) from bnr.cell 0) (.cells #[.string x.ev.id, .string x.ev.tn, .string x.ev.src, .string x.ev.key, .int .i64 x.ev.at_, .string x.ev.cause, .slice x.ev.A x.ev.body.length x.ev.cp, .int .i64 x.vis, .int .i64 x.rcv, .bool x.held, .int .i64 x.arr] 76)
      have c2 := cell_al (show wr.cell? ⟨w.heap.size, 0, none⟩ = some (.pointer (some ⟨q, 0, none⟩)) from bpr.cell 0) (.cells #[.string x.ev.id, .string x.ev.tn, .string x.ev.src, .string x.ev.key, .int .i64 x.ev.at_, .string x.ev.cause, .slice x.ev.A x.ev.body.length x.ev.cp, .int .i64 x.vis, .int .i64 x.rcv, .bool x.held, .int .i64 x.arr] 76)
      have c3 := cell_al (show wr.cell? ⟨q, 1, none⟩ = some (.int .i64 s.r) from hQr.blk.cell 1) (.cells #[.string x.ev.id, .string x.ev.tn, .string x.ev.src, .string x.ev.key, .int .i64 x.ev.at_, .string x.ev.cause, .slice x.ev.A x.ev.body.length x.ev.cp, .int .i64 x.vis, .int .i64 x.rcv, .bool x.held, .int .i64 x.arr] 76)
      have HG := Lib.hid (gone_any x (w.heap.size + 1) w.heap.size q now s.r _ c1 c2 c3)
      have hki : (k : Int) < s.l.length := by omega
      have hk0 : (0 : Int) ≤ k := by omega
      have HPL := Lib.hid (show ((s.l.take k).filter (goneB now s.r)).length ≤ 300 from Nat.le_trans (filter_len _ _) (by rw [List.length_take]; omega))
      have HYS := Lib.hid (filt_yes (goneB now s.r) hx)
      have HNO := Lib.hid (filt_no (goneB now s.r) hx)
      have HK1 := Lib.hid (show k + 1 ≤ s.l.length from hlt)
      have HKW := Lib.hid (w64 (x := (k : Int) + 1) (by omega) (by omega))
      generalize (s.l.take k).filter (goneB now s.r) = P at *
      have hPL := HPL.out
      clear hx c1 c2 c3 bpr bnr hQr hl hd
      go_wp2_with fail
      refine HG.out.mono ?_
      rintro e w2 ⟨rfl, hb⟩
      have bx : Blk w2 wr.heap.size 76 #[.string x.ev.id, .string x.ev.tn, .string x.ev.src, .string x.ev.key, .int .i64 x.ev.at_, .string x.ev.cause, .slice x.ev.A x.ev.body.length x.ev.cp, .int .i64 x.vis, .int .i64 x.rcv, .bool x.held, .int .i64 x.arr] := (Blk.new wr _ _).on hb
      have hb2 : Below wr.heap.size wr w2 := (al_new wr _).trans (hb.mono (by simp))
      have HO2 := Lib.hid (own_below HO.out hb2)
      have HB2 := Lib.hid (HB.out.trans (hb2.mono hzr))
      have hz2 : w1.heap.size ≤ w2.heap.size := HB2.out.size
      have hlx : Sem.run Tryz.prog (lc11 ⟨wr.heap.size, 0, none⟩) w2 = .ok #[.string x.ev.id, .string x.ev.tn, .string x.ev.src, .string x.ev.key, .int .i64 x.ev.at_, .string x.ev.cause, .slice x.ev.A x.ev.body.length x.ev.cp, .int .i64 x.vis, .int .i64 x.rcv, .bool x.held, .int .i64 x.arr] w2 := blk_lc bx Tryz.prog
      clear hb hb2 hld
      cases hg : goneB now s.r x with
      | false =>
        have HE := Lib.hid (HNO.out hg)
        obtain ⟨wk1, wk2⟩ := HKW.out
        clear hg
        go_wp2_with fail
        go_roundw
        case rel => exact ⟨k + 1, HK1.out, by first | rfl | go_num, by rw [HE.out]; exact HO2.out, HB2.out⟩
        case measure => exact meas_lt hlt
      | true =>
        have HE := Lib.hid (HYS.out hg)
        have HA1 := Lib.hid (show P.length + 1 ≤ maxLen by simp only [maxLen]; omega)
        have HA2 := Lib.hid (show (P.length + 1) * 144 ≤ 140737488355328 by omega)
        have HA3 := Lib.hid (show w1.heap.size ≤ (w2.alloc (.cells #[.string x.ev.id, .string x.ev.tn, .string x.ev.src, .string x.ev.key, .int .i64 x.ev.at_, .string x.ev.cause, .slice x.ev.A x.ev.body.length x.ev.cp, .int .i64 x.vis, .int .i64 x.rcv, .bool x.held, .int .i64 x.arr] 76)).heap.size by simp; omega)
        obtain ⟨wk1, wk2⟩ := HKW.out
        clear hg
        go_wp2_with (at_builtin; go_loud (refine wpList_append_own _ rfl (.tmp 27) (.tmp 29) 55 rfl w1.heap.size 76 i0 (.agg #[.string ⟨#[]⟩, .string ⟨#[]⟩, .string ⟨#[]⟩, .string ⟨#[]⟩, .int .i64 0, .string ⟨#[]⟩, .slice none 0 0, .int .i64 0, .int .i64 0, .bool false, .int .i64 0]) 11 144 Tryz.underlying55 ih iz0 iz1 iz2 rfl (by decide) _ P.length (P.flatMap En.cells) rfl (HO2.out.alloc _) ⟨w2.heap.size, 0, none⟩ 1 1 x.cells rfl rfl (cells_new_at rfl) (En.one x) HA1.out HA2.out HA3.out ?_); intro v' wn hown1 hgr hiff; clear hiff; have HGR := Lib.hid (And.intro hown1 hgr); clear hown1 hgr)
        have hlow : Below w1.heap.size w1 wn := (HB2.out.alloc hz2 _).grown HGR.out.2 HA3.out (fun q hq => own_ge HO2.out q hq)
        have HF := Lib.hid (And.intro (OwnE.push HGR.out.1) hlow)
        clear hlow HGR wk1 wk2
        go_roundw
        case rel => exact ⟨k + 1, HK1.out, by first | rfl | go_num, by rw [HE.out]; exact HF.out.1, HF.out.2⟩
        case measure => exact meas_lt hlt
    · obtain rfl : k = s.l.length := by omega
      have HO1 := Lib.hid (show OwnE wr w1.heap.size v (s.l.filter (goneB now s.r)) by have h := HO.out; rwa [List.take_length] at h)
      obtain ⟨G, hG⟩ : ∃ G, G = s.l.filter (goneB now s.r) := ⟨_, rfl⟩
      have HGL := Lib.hid (show G.length ≤ 300 by rw [hG]; exact Nat.le_trans (filter_len _ _) hl)
      have HGS := Lib.hid (show G.Pairwise (fun a b => a.arr < b.arr) by rw [hG]; exact HSS.out.filter _)
      rw [← hG] at HO1
      have HGE := Lib.hid hG
      obtain ⟨Ao, co, rfl⟩ := own_slice HO1.out
      have q4 : wr.cell? ⟨q, 4, none⟩ = some (.slice A s.l.length c) := hQr.blk.cell 4
      have f4 : wr.frozen? ⟨q, 4, none⟩ = false := hQr.blk.frozen 4
      have qp : wr.cell? ⟨w.heap.size, 0, none⟩ = some (.pointer (some ⟨q, 0, none⟩)) := bpr.cell 0
      have HQr := Lib.hid hQr
      have HBP := Lib.hid bpr
      have HBN := Lib.hid bnr
      have HRD := Lib.hid (show Reads wr.drew wr.drew.heap.size 11 A s.l.length (s.l.flatMap En.cells) from (Reads.of_own hQr.row).below (below_drew' wr))
      have hl3 : s.l.length ≤ 1048576 := by omega
      have hl2 : s.l.length ≤ 1000000 := by omega
      have hzw : w.heap.size + 1 < wr.heap.size := by omega
      have hzp : w.heap.size < wr.heap.size := by omega
      have hzq : q < wr.heap.size := by omega
      clear hG hQr bpr bnr HO
      go_wp2_with fail
      have hqn : wr.cell? ⟨w.heap.size + 1, 0, none⟩ = some (.int .i64 now) := HBN.out.cell 0
      have hqr : wr.cell? ⟨q, 1, none⟩ = some (.int .i64 s.r) := HQr.out.blk.cell 1
      have HN := Lib.hid (And.intro hqn hqr)
      clear hqn hqr
      go_cut [] from 32 to 61 (fun wx => DelMid wr wx B q A' c' { s with now := now, l := s.l.filter (fun x => !goneB now s.r x) })
      case first =>
        go_region_law (first
          | (go_simp; go_at_call 41; ((with_reducible refine (Clone_entry A c s.l wr.drew HRD.out hl3).mono ?_); rintro e wa ⟨A1, c1, rfl, hown, hb⟩; have HA := Lib.hid (show OwnE wa wr.heap.size (.slice A1 s.l.length c1) s.l ∧ Below wr.heap.size wr wa from ⟨hown, (below_drew' wr).trans hb⟩); clear hown hb; have qpa := ((HA.out.2).cell (p := ⟨w.heap.size, 0, none⟩) hzp).trans qp; have q4a := ((HA.out.2).cell (p := ⟨q, 4, none⟩) hzq).trans q4; have f4a := ((HA.out.2).frozen (p := ⟨q, 4, none⟩) hzq).trans f4))
          | (go_simp; go_at_call 66; ((with_reducible refine (del_gone wa wr.heap.size (w.heap.size + 1) w.heap.size q now s.r A1 c1 s.l HA.out.1 hl2 (((HA.out.2).cell (p := ⟨w.heap.size + 1, 0, none⟩) hzw).trans HN.out.1) qpa (((HA.out.2).cell (p := ⟨q, 1, none⟩) hzq).trans HN.out.2) hzw hzp hzq).mono ?_); rintro e wb ⟨rfl, hown2, hch⟩; have HBD := Lib.hid (hch.toBelow (B := wr.heap.size) (fun k hk => (own_lt HA.out.1 (k := k) (by rw [own_eq]; exact hk)).1) HA.out.2.size); have HD := Lib.hid (And.intro hown2 hch); clear hown2 hch; have qpb := ((HBD.out).cell (p := ⟨w.heap.size, 0, none⟩) hzp).trans qpa; have q4b := ((HBD.out).cell (p := ⟨q, 4, none⟩) hzq).trans q4a; have f4b := ((HBD.out).frozen (p := ⟨q, 4, none⟩) hzq).trans f4a)))
        all_goals
          go_wp2_with fail
          go_meet
          exact del_mid HQr.out (Nat.le_trans hBw hzr) HD.out.1 (HA.out.2.trans HBD.out) (fun x hx => (List.mem_filter.1 hx).1)
      case rest =>
        clear qp q4 f4
        obtain ⟨A1, c1, hq3, hc3, hA1⟩ := hcut
        have HC3 := Lib.hid ((HC1.out.below HB.out).trans hc3 (fun k _ hk => .inl hk))
        have hFL := HQ.out.foot_lt
        have hzc : wr.heap.size ≤ wc.heap.size := hc3.size
        have hAo : ∀ k, Ao.map (·.block) = some k → w1.heap.size ≤ k ∧ k < wr.heap.size := fun k hk => own_lt HO1.out (k := k) (by rw [own_eq]; exact hk)
        have HQ3 := Lib.hid hq3
        have HBP3 := Lib.hid (hc3.blk HBP.out (by omega))
        have hO3 := hc3.own HO1.out (fun k hk e => by rw [own_eq] at hk; have := (hAo k hk).1; omega)
        have HO3 := Lib.hid (show OwnE wc w1.heap.size (.slice Ao G.length co) G from hO3)
        have HNS := Lib.hid (show ∀ k, ff q A1 A' k → ¬ Ao.map (·.block) = some k by
          rintro k hk he
          have h1 := hAo k he
          rcases hk with hk | hk | hk
          · omega
          · have := hA1 k hk; omega
          · have := hFL k (.inr (.inr hk)); omega)
        have HOC := Lib.hid (show OffC wc (fun k => Ao.map (·.block) = some k) from fun k hk cs m e => by
          obtain ⟨cs', hb⟩ := own_blk hO3 (k := k) (by rw [own_eq]; exact hk)
          unfold Blk at hb
          rw [hb] at e
          injection e with e
          injection e with _ e
          exact absurd e (by decide))
        have HEV3 := Lib.hid (show ∀ x ∈ s.l, EvQ wc B x.ev from fun x hx => (HQr.out.bl x hx).chg hc3 (fun k hk => HQr.out.offC k (.inl hk)))
        have HAO := Lib.hid hAo
        have HFL := Lib.hid hFL
        have HA1 := Lib.hid hA1
        have hG1 : G.length ≤ 1000 := Nat.le_trans HGL.out (by omega)
        clear hq3 hc3 hA1 hFL hAo hO3 HN HRD
        go_wp2_with fail
        refine (sort_any Ao co w1.heap.size G wc HO3.out hG1 HGS.out).mono ?_
        rintro e w4 ⟨rfl, hch4, r, hsr, hrow⟩
        have hz4 : wc.heap.size ≤ w4.heap.size := hch4.size
        have hnl : ∀ k, k < w.heap.size → ¬ Ao.map (·.block) = some k := fun k hk he => by have := (HAO.out k he).1; omega
        have HQ4 := Lib.hid (HQ3.out.chg hch4 HNS.out HOC.out)
        have HBP4 := Lib.hid (hch4.blk HBP3.out (fun he => by have := (HAO.out _ he).1; omega))
        have HC4 := Lib.hid (HC3.out.trans hch4 (fun k hk he => absurd he (hnl k hk)))
        have HEV4 := Lib.hid (show ∀ x ∈ s.l, EvQ w4 B x.ev from fun x hx => (HEV3.out x hx).chg hch4 HOC.out)
        have HSR := Lib.hid hsr
        have HRW := Lib.hid hrow
        have HRL := Lib.hid (show r.length = G.length from hsr.1.length_eq)
        clear hch4 hsr hrow hnl
        go_wp2_with fail
        obtain ⟨wo, rfl⟩ : ∃ wo : World, wo = wr := ⟨_, rfl⟩
        go_loopw [46] (fun v46 wx => AcRel w w4 B q c1 G.length A A' A1 Ao s { s with now := now, l := s.l.filter (fun x => !goneB now s.r x) } r v46 wx) (fun v46 _ => G.length - (intOf v46).toNat)
        case atStart => exact ⟨0, A', c', Nat.zero_le _, rfl, by simpa using HQ4.out, HEV4.out, HRW.out, HBP4.out, HC4.out, fun j hj => .inl hj, Nat.le_refl _⟩
        case round =>
          clear HQ4 HEV4 HRW HBP4 HC4
          obtain ⟨k, A2, c2, hk, rfl, hq5, hev, hrow, hbp, hc5, hA2, hzx⟩ := hrel
          have HQ5 := Lib.hid hq5
          have HEV := Lib.hid hev
          have HRW := Lib.hid hrow
          have HC5 := Lib.hid hc5
          have HA2 := Lib.hid hA2
          have HBP5 := Lib.hid hbp
          clear hq5 hev hrow hc5 hA2 hbp
          by_cases hlt : k < G.length
          · have hk1 : k < r.length := by rw [HRL.out]; exact hlt
            obtain ⟨x, hx⟩ : ∃ t, r[k]? = some t := ⟨_, List.getElem?_eq_getElem hk1⟩
            obtain ⟨g, co', e1, hg1, -, -, hgl, -, -⟩ := own_at HO3.out (by omega)
            injection e1 with e1 _ _
            subst e1
            have hld : Sem.run Tryz.prog (lc11 ⟨g, k * 11, none⟩) wr = .ok #[.string x.ev.id, .string x.ev.tn, .string x.ev.src, .string x.ev.key, .int .i64 x.ev.at_, .string x.ev.cause, .slice x.ev.A x.ev.body.length x.ev.cp, .int .i64 x.vis, .int .i64 x.rcv, .bool x.held, .int .i64 x.arr] wr := (HRW.out g rfl).ld hx _
            have hmem : x ∈ s.l := by
              have := HSR.out.1.mem_iff.1 (List.mem_of_getElem? hx)
              rw [HGE.out] at this
              exact (List.mem_filter.1 this).1
            have HTK := Lib.hid (take_snoc2 hx)
            have HK1 := Lib.hid (show k + 1 ≤ G.length from hlt)
            have HKW := Lib.hid (w64 (x := (k : Int) + 1) (by omega) (by omega))
            have hki : (k : Int) < G.length := by omega
            have hk0 : (0 : Int) ≤ k := by omega
            have hGL := HGL.out
            clear hx
            go_upto_region 15 with fail
            have hb9 := al_new wr (.cells #[.string x.ev.id, .string x.ev.tn, .string x.ev.src, .string x.ev.key, .int .i64 x.ev.at_, .string x.ev.cause, .slice x.ev.A x.ev.body.length x.ev.cp, .int .i64 x.vis, .int .i64 x.rcv, .bool x.held, .int .i64 x.arr] 76)
            have h9 := HQ5.out.below hb9
            obtain ⟨D, hD⟩ : ∃ D, D = s.d ++ (r.take k).map En.ev := ⟨_, rfl⟩
            rw [← hD] at h9
            have HDE := Lib.hid hD
            have hDl : D.length ≤ 600 := by rw [hD, List.length_append, List.length_map, List.length_take]; omega
            have HQ9 := Lib.hid h9
            have bx := Blk.new wr 76 #[.string x.ev.id, .string x.ev.tn, .string x.ev.src, .string x.ev.key, .int .i64 x.ev.at_, .string x.ev.cause, .slice x.ev.A x.ev.body.length x.ev.cp, .int .i64 x.vis, .int .i64 x.rcv, .bool x.held, .int .i64 x.arr]
            have HBP9 := Lib.hid (HBP5.out.alloc (.cells #[.string x.ev.id, .string x.ev.tn, .string x.ev.src, .string x.ev.key, .int .i64 x.ev.at_, .string x.ev.cause, .slice x.ev.A x.ev.body.length x.ev.cp, .int .i64 x.vis, .int .i64 x.rcv, .bool x.held, .int .i64 x.arr] 76))
            have HEV9 := Lib.hid (show ∀ x' ∈ s.l, EvQ (wr.alloc (.cells #[.string x.ev.id, .string x.ev.tn, .string x.ev.src, .string x.ev.key, .int .i64 x.ev.at_, .string x.ev.cause, .slice x.ev.A x.ev.body.length x.ev.cp, .int .i64 x.vis, .int .i64 x.rcv, .bool x.held, .int .i64 x.arr] 76)) B x'.ev from fun x' hx' => (HEV.out x' hx').below hb9)
            have HRW9 := Lib.hid ((HRW.out g rfl).chg (Chg.of_below (S := fun _ => False) hb9) (by omega) id)
            have HC9 := Lib.hid (HC5.out.below hb9)
            have hz9 : wr.heap.size < (wr.alloc (.cells #[.string x.ev.id, .string x.ev.tn, .string x.ev.src, .string x.ev.key, .int .i64 x.ev.at_, .string x.ev.cause, .slice x.ev.A x.ev.body.length x.ev.cp, .int .i64 x.vis, .int .i64 x.rcv, .bool x.held, .int .i64 x.arr] 76)).heap.size := bx.lt
            clear hD hb9 h9 hld
            generalize wr.alloc (.cells #[.string x.ev.id, .string x.ev.tn, .string x.ev.src, .string x.ev.key, .int .i64 x.ev.at_, .string x.ev.cause, .slice x.ev.A x.ev.body.length x.ev.cp, .int .i64 x.vis, .int .i64 x.rcv, .bool x.held, .int .i64 x.arr] 76) = W at *
            have q5 : W.cell? ⟨q, 5, none⟩ = some (.slice A2 D.length c2) := HQ9.out.blk.cell 5
            have f5 : W.frozen? ⟨q, 5, none⟩ = false := HQ9.out.blk.frozen 5
            have qp : W.cell? ⟨w.heap.size, 0, none⟩ = some (.pointer (some ⟨q, 0, none⟩)) := HBP9.out.cell 0
            have e0 : W.cell? ⟨wr.heap.size, 0, none⟩ = some (.string x.ev.id) := bx.cell 0
            have e1 : W.cell? ⟨wr.heap.size, 1, none⟩ = some (.string x.ev.tn) := bx.cell 1
            have e2 : W.cell? ⟨wr.heap.size, 2, none⟩ = some (.string x.ev.src) := bx.cell 2
            have e3 : W.cell? ⟨wr.heap.size, 3, none⟩ = some (.string x.ev.key) := bx.cell 3
            have e4 : W.cell? ⟨wr.heap.size, 4, none⟩ = some (.int .i64 x.ev.at_) := bx.cell 4
            have e5 : W.cell? ⟨wr.heap.size, 5, none⟩ = some (.string x.ev.cause) := bx.cell 5
            have e6 : W.cell? ⟨wr.heap.size, 6, none⟩ = some (.slice x.ev.A x.ev.body.length x.ev.cp) := bx.cell 6
            have q5a := cell_al q5 (.cells #[.string x.ev.id, .string x.ev.tn, .string x.ev.src, .string x.ev.key, .int .i64 x.ev.at_, .string x.ev.cause, .slice x.ev.A x.ev.body.length x.ev.cp] 40)
            have qpa := cell_al qp (.cells #[.string x.ev.id, .string x.ev.tn, .string x.ev.src, .string x.ev.key, .int .i64 x.ev.at_, .string x.ev.cause, .slice x.ev.A x.ev.body.length x.ev.cp] 40)
            have HDW := Lib.hid HQ9.out.dead
            have HNQ := Lib.hid HQ9.out.ne.2.1
            have HNP := Lib.hid (show ¬ A2.map (·.block) = some w.heap.size from fun e => by
              rcases HA2.out _ e with h | h
              · have := (HFL.out _ (.inr (.inr h))).2; omega
              · omega)
            have HNG := Lib.hid (show ¬ A2.map (·.block) = some g from fun e => by
              rcases HA2.out _ e with h | h
              · have := (HFL.out _ (.inr (.inr h))).2; omega
              · omega)
            have HLQ := Lib.hid (show q < W.heap.size by omega)
            have HLP := Lib.hid (show w.heap.size < W.heap.size by omega)
            obtain ⟨j0, jh, jz0, jz1, jz2⟩ := info_partsO info_event
            have HX1 := Lib.hid (show D.length + 1 ≤ maxLen by simp only [maxLen]; omega)
            have HX2 := Lib.hid (show (D.length + 1) * 112 ≤ 140737488355328 by omega)
            have HX3 := Lib.hid (show B ≤ ((W.drew).alloc (.cells #[.string x.ev.id, .string x.ev.tn, .string x.ev.src, .string x.ev.key, .int .i64 x.ev.at_, .string x.ev.cause, .slice x.ev.A x.ev.body.length x.ev.cp] 40)).heap.size by have := HBW.out; simp; omega)
            have HR9 : Hid (Reads ((W.drew).alloc (.cells #[.string x.ev.id, .string x.ev.tn, .string x.ev.src, .string x.ev.key, .int .i64 x.ev.at_, .string x.ev.cause, .slice x.ev.A x.ev.body.length x.ev.cp] 40)) (W.heap.size + 1) 7 (some ⟨W.heap.size, 0, none⟩) 1 [.string x.ev.id, .string x.ev.tn, .string x.ev.src, .string x.ev.key, .int .i64 x.ev.at_, .string x.ev.cause, .slice x.ev.A x.ev.body.length x.ev.cp]) := ⟨rfl, fun _ => ⟨_, _, rfl, by omega, fun j u hu => by have := cells_new_at (w := W.drew) (cs := [.string x.ev.id, .string x.ev.tn, .string x.ev.src, .string x.ev.key, .int .i64 x.ev.at_, .string x.ev.cause, .slice x.ev.A x.ev.body.length x.ev.cp]) (e := 40) (g := W.heap.size) rfl j u hu; rwa [Addr.add_lit] at this⟩⟩
            go_region_law (refine step_append_any _ rfl (.tmp 54) (.tmp 57) 52 rfl B 40 j0 (.agg #[.string ⟨#[]⟩, .string ⟨#[]⟩, .string ⟨#[]⟩, .string ⟨#[]⟩, .int .i64 0, .string ⟨#[]⟩, .slice none 0 0]) 7 112 Tryz.underlying52 jh jz0 jz1 jz2 rfl (by decide) (.slice A2 D.length c2) D.length (D.flatMap Ev.cells) (by simp [Act.eval]) (HDW.out.drew.alloc _) (W.heap.size + 1) (some ⟨W.heap.size, 0, none⟩) 1 1 [.string x.ev.id, .string x.ev.tn, .string x.ev.src, .string x.ev.key, .int .i64 x.ev.at_, .string x.ev.cause, .slice x.ev.A x.ev.body.length x.ev.cp] (by simp [Act.eval]) HR9.out (Ev.one x.ev) HX1.out HX2.out HX3.out ?_; intro v' w5 hown hgr hblk; obtain ⟨A3, c3, hv⟩ := own_slice hown; have HG5 := Lib.hid (And.intro hown (And.intro hgr hblk)); have hcg := FQ.grown_chg hgr; have q55 : w5.cell? ⟨q, 5, none⟩ = some (.slice A2 D.length c2) := (hcg.cell (p := ⟨q, 5, none⟩) HLQ.out HNQ.out).trans q5; have f55 : w5.frozen? ⟨q, 5, none⟩ = false := (hcg.blk HQ9.out.blk HNQ.out).frozen 5; have qp5 : w5.cell? ⟨w.heap.size, 0, none⟩ = some (.pointer (some ⟨q, 0, none⟩)) := (hcg.cell (p := ⟨w.heap.size, 0, none⟩) HLP.out HNP.out).trans qp; clear hown hgr hblk hcg; rw [hv])
            all_goals
              have hPM : PushMid W (w5.setCell ⟨q, 5, none⟩ (.slice A3 (D.length + 1) c3)) B q A1 c1 A2 { s with now := now, l := s.l.filter (fun x => !goneB now s.r x), d := D ++ [x.ev] } := by
                subst hv
                obtain ⟨A4, c4, e4, h1, h2, h3⟩ := FQ.pushD HQ9.out (HEV9.out x hmem) HG5.out.1 HG5.out.2.1 HG5.out.2.2
                exact ⟨A4, c4, h1, h2, h3⟩
              have HPM := Lib.hid hPM
              obtain ⟨wk1, wk2⟩ := HKW.out
              clear hPM
              go_wp2_with fail
              obtain ⟨A4, c4, hq6, hc6, hA4⟩ := HPM.out
              clear wk1 wk2
              go_roundw
              case rel =>
                refine ⟨k + 1, A4, c4, HK1.out, by first | rfl | go_num, by rw [HTK.out, List.map_append, ← List.append_assoc, ← HDE.out]; exact hq6, fun x' hx' => (HEV9.out x' hx').chg hc6 (fun j hj => HQ9.out.offC j (hj.elim .inl (fun h => .inr (.inr h)))), fun g' e => ?_, hc6.blk HBP9.out (fun h => h.elim (fun h => by omega) HNP.out), HC9.out.trans hc6 (fun j hj hk => ?_), fun j hj => ?_, ?_⟩
                · injection e with e
                  injection e with e
                  subst e
                  exact HRW9.out.chg hc6 (by omega) (fun h => h.elim (fun h => by omega) HNG.out)
                · rcases hk with hk | hk
                  · exact .inl hk
                  · rcases HA2.out j hk with h | h
                    · exact .inr (.inr h)
                    · omega
                · rcases hA4 j hj with h | h
                  · exact HA2.out j h
                  · right; omega
                · have := hc6.size; omega
              case measure => exact meas_lt hlt
          · obtain rfl : k = G.length := by omega
            go_wp2_with fail
            go_end0
            have hq := HQ5.out
            rw [← HRL.out, List.take_length] at hq
            refine ⟨rfl, r, A1, c1, A2, c2, by rw [← HGE.out]; exact HSR.out, hq, HC5.out, ?_⟩
            rintro j (rfl | e | e)
            · exact .inl (.inl rfl)
            · exact .inr (by have := HA1.out j e; omega)
            · rcases HA2.out j e with h | h
              · exact .inl (.inr (.inr h))
              · exact .inr (by omega)
end
end Go.Proofs.YtbofclohnmojmaaGreatDoor
namespace Go.Proofs.YtbofclohnmojmaaGreatDoor
open Go.RowKit
open Go.Sort (grow)

def eqS (a b : ByteArray) : Bool := a.data.toList == b.data.toList
theorem toL_eq (a b : ByteArray) : (a.toList == b.toList) = eqS a b := by unfold eqS; rw [Lib.toList_data, Lib.toList_data]
theorem eqS_iff (a b : ByteArray) : eqS a b = true ↔ a = b := by
  unfold eqS
  rw [beq_iff_eq]
  exact ⟨fun h => ba_ext h, fun h => by rw [h]⟩
section
variable {w : World} {B q c c' : Nat} {A A' : Option Addr} {s : QS}
theorem madeQ_any (hQ : FQ w B q A c A' c' s) (hr : 0 < s.r) : Calls Tryz.prog 38 #[.pointer (some ⟨q, 0, none⟩)] w fun e w' => e = .returned (.bool true) ∧ w' = w := by
  have q1 : w.cell? ⟨q, 1, none⟩ = some (.int .i64 s.r) := hQ.blk.cell 1
  clear hQ
  go_enter Tryz.func38, Tryz.ntmps38
  go_wp2_with fail
  go_ret
  exact ⟨rfl, rfl⟩
/-- Not made: nil, or without a policy. -/
def NoQ (w : World) (v : Value) : Prop := v = .pointer none ∨ ∃ q, v = .pointer (some ⟨q, 0, none⟩) ∧ w.cell? ⟨q, 1, none⟩ = some (.int .i64 0)
theorem NoQ.on {w w' : World} {v : Value} (h : NoQ w v) (hb : Below w.heap.size w w') : NoQ w' v := by
  rcases h with h | ⟨q, h, hc⟩
  · exact .inl h
  · exact .inr ⟨q, h, (hb.cell (cell_lt hc)).trans hc⟩
theorem madeN_any {v : Value} (h : NoQ w v) : Calls Tryz.prog 38 #[v] w fun e w' => e = .returned (.bool false) ∧ w' = w := by
  rcases h with rfl | ⟨q, rfl, q1⟩
  · go_enter Tryz.func38, Tryz.ntmps38
    go_wp2_with fail
    go_ret
    exact ⟨rfl, rfl⟩
  · go_enter Tryz.func38, Tryz.ntmps38
    go_wp2_with fail
    go_ret
    exact ⟨rfl, rfl⟩
/-- The error of a time. -/
def clkE (t now : Int) : Int := if timeB now = false then 2 else if now < t then 11 else 0
theorem clock_any (hQ : FQ w B q A c A' c' s) (now : Int) : Calls Tryz.prog 40 #[.pointer (some ⟨q, 0, none⟩), .int .i64 now] w fun e w' => e = .returned (.int .i64 (clkE s.now now)) ∧ w' = w := by
  have q2 : w.cell? ⟨q, 2, none⟩ = some (.int .i64 s.now) := hQ.blk.cell 2
  clear hQ
  go_enter Tryz.func40, Tryz.ntmps40
  go_wp2_with fail
  refine (instant_any now w).mono ?_
  rintro e wq ⟨rfl, hq⟩
  obtain rfl := hq.symm
  cases ht : timeB now with
  | false =>
    have HE := Lib.hid (show (2 : Int) = clkE s.now now by unfold clkE; rw [if_pos ht])
    clear ht
    go_wp2_with fail
    go_ret
    exact ⟨ret_int HE.out, rfl⟩
  | true =>
    by_cases h : now < s.now
    · have HE := Lib.hid (show (11 : Int) = clkE s.now now by unfold clkE; rw [if_neg (by rw [ht]; decide), if_pos h])
      have d1 : decide (now < s.now) = true := decide_eq_true h
      clear ht
      go_wp2_with fail
      go_ret
      exact ⟨ret_int HE.out, rfl⟩
    · have HE := Lib.hid (show (0 : Int) = clkE s.now now by unfold clkE; rw [if_neg (by rw [ht]; decide), if_neg h])
      have d1 : decide (now < s.now) = false := decide_eq_false h
      clear ht
      go_wp2_with fail
      go_ret
      exact ⟨ret_int HE.out, rfl⟩
theorem Len_any (hQ : FQ w B q A c A' c' s) (hr : 0 < s.r) : Calls Tryz.prog 19 #[.pointer (some ⟨q, 0, none⟩)] w fun e w' => e = .returned (.int .i64 s.l.length) ∧ w' = w := by
  have q4 : w.cell? ⟨q, 4, none⟩ = some (.slice A s.l.length c) := hQ.blk.cell 4
  have HQ := Lib.hid hQ
  clear hQ
  go_enter Tryz.func19, Tryz.ntmps19
  go_wp2_with fail
  refine (madeQ_any HQ.out hr).mono ?_
  rintro e wq ⟨rfl, hq⟩
  obtain rfl := hq.symm
  go_wp2_with fail
  go_ret
  exact ⟨rfl, rfl⟩
theorem LenN_any {v : Value} (h : NoQ w v) : Calls Tryz.prog 19 #[v] w fun e w' => e = .returned (.int .i64 0) ∧ w' = w := by
  have HQ := Lib.hid h
  clear h
  go_enter Tryz.func19, Tryz.ntmps19
  go_wp2_with fail
  refine (madeN_any HQ.out).mono ?_
  rintro e wq ⟨rfl, hq⟩
  obtain rfl := hq.symm
  go_wp2_with fail
  go_ret
  exact ⟨rfl, rfl⟩
/-- The identifiers of the waiting events of a key. -/
def waitS (l : List En) (key : ByteArray) : List ByteArray := (l.filter fun x => eqS x.ev.key key).map fun x => x.ev.id
theorem waitS_yes {l : List En} {key : ByteArray} {k : Nat} {x : En} (h : l[k]? = some x) (hx : eqS x.ev.key key = true) : waitS (l.take (k + 1)) key = waitS (l.take k) key ++ [x.ev.id] := by
  unfold waitS
  rw [filt_yes (fun x => eqS x.ev.key key) h hx]; simp
theorem waitS_no {l : List En} {key : ByteArray} {k : Nat} {x : En} (h : l[k]? = some x) (hx : eqS x.ev.key key = false) : waitS (l.take (k + 1)) key = waitS (l.take k) key := by
  unfold waitS
  rw [filt_no (fun x => eqS x.ev.key key) h hx]
theorem waitS_len (l : List En) (key : ByteArray) : (waitS l key).length ≤ l.length := by unfold waitS; rw [List.length_map]; exact filter_len _ _
def WtPost (w : World) (l : List ByteArray) (e : Ending) (w' : World) : Prop := ∃ v, e = .returned v ∧ OwnS w' w.heap.size v l ∧ Below w.heap.size w w'
attribute [local go_sem ↓] run_lc11 in
set_option maxHeartbeats 8000000 in
set_option maxRecDepth 20000 in
theorem Waiting_any (hQ : FQ w B q A c A' c' s) (hr : 0 < s.r) (hl : s.l.length ≤ 300) (key : ByteArray) : Calls Tryz.prog 15 #[.pointer (some ⟨q, 0, none⟩), .string key] w (WtPost w (waitS s.l key)) := by
  obtain ⟨i0, ih, iz0, iz1, iz2⟩ := info_partsO info_str
  have q4 : w.cell? ⟨q, 4, none⟩ = some (.slice A s.l.length c) := hQ.blk.cell 4
  have HQ := Lib.hid hQ
  clear hQ
  go_enter Tryz.func15, Tryz.ntmps15
  go_wp2_with fail
  refine (madeQ_any HQ.out hr).mono ?_
  rintro e wq ⟨rfl, hq⟩
  obtain rfl := hq.symm
  go_wp2_with fail
  go_loopw [5, 16] (fun v5 v16 wr => ∃ k : Nat, k ≤ s.l.length ∧ v16 = .int .i64 k ∧ OwnS wr w.heap.size v5 (waitS (s.l.take k) key) ∧ Below w.heap.size w wr) (fun _ v16 _ => s.l.length - (intOf v16).toNat)
  case atStart => exact ⟨0, Nat.zero_le _, rfl, OwnS.nil _ _, Below.refl _ _⟩
  case round =>
    obtain ⟨k, hk, rfl, hown, hb⟩ := hrel
    obtain ⟨v, rfl⟩ : ∃ v : Value, v = u5 := ⟨_, rfl⟩
    have HO := Lib.hid hown
    have HB := Lib.hid hb
    have hzr : w.heap.size ≤ wr.heap.size := hb.size
    have hQr := HQ.out.below hb
    clear hown hb
    by_cases hlt : k < s.l.length
    · obtain ⟨x, hx⟩ : ∃ t, s.l[k]? = some t := ⟨_, List.getElem?_eq_getElem hlt⟩
      obtain ⟨g, rfl, -, -, -, hld⟩ := ld_en hQr.row hx
      have hki : (k : Int) < s.l.length := by omega
      have hk0 : (0 : Int) ≤ k := by omega
      have hPL := Nat.le_trans (waitS_len (s.l.take k) key) (show (s.l.take k).length ≤ 300 by rw [List.length_take]; omega)
      have HYS := Lib.hid (waitS_yes (key := key) hx)
      have HNO := Lib.hid (waitS_no (key := key) hx)
      have HK1 := Lib.hid (show k + 1 ≤ s.l.length from hlt)
      have HKW := Lib.hid (w64 (x := (k : Int) + 1) (by omega) (by omega))
      generalize waitS (s.l.take k) key = P at *
      have ht := toL_eq x.ev.key key
      have HA1 := Lib.hid (show P.length + 1 ≤ maxLen by simp only [maxLen]; omega)
      have HA2 := Lib.hid (show (P.length + 1) * 16 ≤ 140737488355328 by omega)
      have HA3 := Lib.hid (show w.heap.size ≤ ((wr.alloc (.cells #[.string x.ev.id, .string x.ev.tn, .string x.ev.src, .string x.ev.key, .int .i64 x.ev.at_, .string x.ev.cause, .slice x.ev.A x.ev.body.length x.ev.cp, .int .i64 x.vis, .int .i64 x.rcv, .bool x.held, .int .i64 x.arr] 76)).alloc (.cells #[.string x.ev.id] 9)).heap.size by simp; omega)
      have HA4 := Lib.hid (show w.heap.size ≤ (wr.alloc (.cells #[.string x.ev.id, .string x.ev.tn, .string x.ev.src, .string x.ev.key, .int .i64 x.ev.at_, .string x.ev.cause, .slice x.ev.A x.ev.body.length x.ev.cp, .int .i64 x.vis, .int .i64 x.rcv, .bool x.held, .int .i64 x.arr] 76)).heap.size by simp; omega)
      clear hx hQr hl hPL
      cases he : eqS x.ev.key key with
      | false =>
        have HE := Lib.hid (HNO.out he)
        rw [he] at ht
        obtain ⟨wk1, wk2⟩ := HKW.out
        clear he
        go_wp2_with fail
        clear wk1 wk2
        go_roundw
        case rel => exact ⟨k + 1, HK1.out, by first | rfl | go_num, by rw [HE.out]; exact HO.out.alloc _, HB.out.alloc hzr _⟩
        case measure => exact meas_lt hlt
      | true =>
        have HE := Lib.hid (HYS.out he)
        rw [he] at ht
        obtain ⟨wk1, wk2⟩ := HKW.out
        clear he
        go_wp2_with (at_builtin; go_loud (refine wpList_append_own _ rfl (.tmp 25) (.tmp 29) 34 rfl w.heap.size 9 i0 (.string ⟨#[]⟩) 1 16 Tryz.underlying34 ih iz0 iz1 iz2 rfl (by decide) _ P.length (svals P) rfl ((HO.out.alloc _).alloc _) ⟨wr.heap.size + 1, 0, none⟩ 1 1 [.string x.ev.id] rfl rfl (cells_new_at (by simp)) (by intro u hu; simp at hu; subst hu; rfl) HA1.out HA2.out HA3.out ?_); intro v' wn hown1 hgr hiff; clear hiff; have HGR := Lib.hid (And.intro hown1 hgr); clear hown1 hgr)
        have hlow : Below w.heap.size w wn := ((HB.out.alloc hzr _).alloc HA4.out _).grown HGR.out.2 HA3.out (fun q hq => own_ge HO.out q hq)
        have HF := Lib.hid (And.intro (OwnS.push HGR.out.1) hlow)
        clear hlow HGR wk1 wk2
        go_roundw
        case rel => exact ⟨k + 1, HK1.out, by first | rfl | go_num, by rw [HE.out]; exact HF.out.1, HF.out.2⟩
        case measure => exact meas_lt hlt
    · obtain rfl : k = s.l.length := by omega
      go_wp2_with fail
      go_ret
      have hO := HO.out
      rw [List.take_length] at hO
      exact ⟨_, rfl, hO, HB.out⟩
theorem WaitingN_any {v : Value} (h : NoQ w v) (key : ByteArray) : Calls Tryz.prog 15 #[v, .string key] w fun e w' => e = .returned (.slice none 0 0) ∧ w' = w := by
  have HQ := Lib.hid h
  clear h
  go_enter Tryz.func15, Tryz.ntmps15
  go_wp2_with fail
  refine (madeN_any HQ.out).mono ?_
  rintro e wq ⟨rfl, hq⟩
  obtain rfl := hq.symm
  go_wp2_with fail
  go_ret
  exact ⟨rfl, rfl⟩
end
end Go.Proofs.YtbofclohnmojmaaGreatDoor
namespace Go.Proofs.YtbofclohnmojmaaGreatDoor
open Go.RowKit
open Go.Sort (grow)

/-- An event without its body's place. -/
def Ev.core (x : Ev) : Ev := { x with A := none, cp := 0 }
theorem OwnV.push {w : World} {base : Nat} {v : Value} {l : List Ev} {x : Ev} (h : w.ownsRow base 40 7 v (l.length + 1) (l.flatMap Ev.cells ++ x.cells)) : OwnV w base v (l ++ [x]) := by
  unfold OwnV
  rw [List.length_append, List.flatMap_append]
  simpa using h
/-- Copies of events, of the call's own. -/
def EvsPost (w : World) (l : List Ev) (e : Ending) (w' : World) : Prop := ∃ v r, e = .returned v ∧ OwnV w' w.heap.size v r ∧ r.map Ev.core = l.map Ev.core ∧ (∀ y ∈ r, EvQ w' w.heap.size y) ∧ Below w.heap.size w w'
theorem run_lc7_new (P : Program) (W : World) (t : TypeId) (x0 x1 x2 x3 x4 x5 x6 : Value) : Sem.run P (lc7 ⟨W.heap.size, 0, none⟩) (W.alloc (.cells #[x0, x1, x2, x3, x4, x5, x6] t)) = .ok #[x0, x1, x2, x3, x4, x5, x6] (W.alloc (.cells #[x0, x1, x2, x3, x4, x5, x6] t)) :=
  blk_ld (cs := #[x0, x1, x2, x3, x4, x5, x6]) (Blk.new W t _) rfl P
/-- In the loop: k events have been copied. -/
def DdRel (w : World) (l : List Ev) (v3 v14 : Value) (wx : World) : Prop := ∃ (k : Nat) (P : List Ev), k ≤ l.length ∧ v14 = .int .i64 k ∧ OwnV wx w.heap.size v3 P ∧ P.map Ev.core = (l.take k).map Ev.core ∧ (∀ y ∈ P, EvQ wx w.heap.size y) ∧ Below w.heap.size w wx
section
variable {w : World} {B q c c' : Nat} {A A' : Option Addr} {s : QS}
attribute [local go_sem ↓] run_lc7
attribute [local go_sem] run_lc7_new
set_option maxHeartbeats 8000000 in
set_option maxRecDepth 20000 in
theorem Dead_any (hQ : FQ w B q A c A' c' s) (hr : 0 < s.r) (hl : s.d.length ≤ 600) (hbd : ∀ e ∈ s.d, e.body.length ≤ 1048576) : Calls Tryz.prog 22 #[.pointer (some ⟨q, 0, none⟩)] w (EvsPost w s.d) := by
  obtain ⟨i0, ih, iz0, iz1, iz2⟩ := info_partsO info_event
  have q5 : w.cell? ⟨q, 5, none⟩ = some (.slice A' s.d.length c') := hQ.blk.cell 5
  have HQ := Lib.hid hQ
  have HBD := Lib.hid hbd
  clear hQ hbd
  go_enter Tryz.func22, Tryz.ntmps22
  go_wp2_with fail
  refine (madeQ_any HQ.out hr).mono ?_
  rintro e wq ⟨rfl, hq⟩
  obtain rfl := hq.symm
  go_wp2_with fail
  go_loopw [3, 14] (fun v3 v14 wr => DdRel w s.d v3 v14 wr) (fun _ v14 _ => s.d.length - (intOf v14).toNat)
  case atStart => exact ⟨0, [], Nat.zero_le _, rfl, own_nil _ _ _ _, rfl, fun y hy => absurd hy (by simp), Below.refl _ _⟩
  case round =>
    obtain ⟨k, P, hk, rfl, hown, hPc, hPe, hb⟩ := hrel
    obtain ⟨v, rfl⟩ : ∃ v : Value, v = u3 := ⟨_, rfl⟩
    have HO := Lib.hid hown
    have HB := Lib.hid hb
    have HPC := Lib.hid hPc
    have HPE := Lib.hid hPe
    have hzr : w.heap.size ≤ wr.heap.size := hb.size
    have hQr := HQ.out.below hb
    have hPL : P.length = k := by have := congrArg List.length hPc; simp at this; omega
    clear hown hb hPc hPe
    by_cases hlt : k < s.d.length
    · obtain ⟨x, hx⟩ : ∃ t, s.d[k]? = some t := ⟨_, List.getElem?_eq_getElem hlt⟩
      obtain ⟨g, rfl, -, -, -, hld⟩ := ld_ev hQr.dead hx
      have HW := Lib.hid (own_any x (wr.alloc (.cells #[.string x.id, .string x.tn, .string x.src, .string x.key, .int .i64 x.at_, .string x.cause, .slice x.A x.body.length x.cp] 40)) ((hQr.bd x (List.mem_of_getElem? hx)).inn.on (al_new wr _)) (Nat.le_trans (HBD.out x (List.mem_of_getElem? hx)) (by decide)))
      have HTK := Lib.hid (take_snoc2 hx)
      have hki : (k : Int) < s.d.length := by omega
      have hk0 : (0 : Int) ≤ k := by omega
      have HK1 := Lib.hid (show k + 1 ≤ s.d.length from hlt)
      have HKW := Lib.hid (w64 (x := (k : Int) + 1) (by omega) (by omega))
      have HA1 := Lib.hid (show P.length + 1 ≤ maxLen by simp only [maxLen]; omega)
      have HA2 := Lib.hid (show (P.length + 1) * 112 ≤ 140737488355328 by omega)
      clear hx hQr hl hPL
      go_wp2_with fail
      refine HW.out.mono ?_
      rintro e w2 ⟨Ay, cy, rfl, hev, hb⟩
      have hb2 : Below wr.heap.size wr w2 := (al_new wr _).trans (hb.mono (by simp))
      have HEV := Lib.hid hev
      have HO2 := Lib.hid (own_below HO.out hb2)
      have HB2 := Lib.hid (HB.out.trans (hb2.mono hzr))
      have hz2 : wr.heap.size < w2.heap.size := by have := hb.size; simp at this; omega
      have HP2 := Lib.hid (show ∀ y ∈ P, EvQ w2 w.heap.size y from fun y hy => (HPE.out y hy).below hb2)
      have HA3 := Lib.hid (show w.heap.size ≤ (w2.alloc (.cells #[.string x.id, .string x.tn, .string x.src, .string x.key, .int .i64 x.at_, .string x.cause, .slice Ay x.body.length cy] 40)).heap.size by simp; omega)
      simp only [Ev.val]
      obtain ⟨wk1, wk2⟩ := HKW.out
      clear hev hb hb2 hld
      go_wp2_with (at_builtin; go_loud (refine wpList_append_own _ rfl (.tmp 18) (.tmp 21) 52 rfl w.heap.size 40 i0 (.agg #[.string ⟨#[]⟩, .string ⟨#[]⟩, .string ⟨#[]⟩, .string ⟨#[]⟩, .int .i64 0, .string ⟨#[]⟩, .slice none 0 0]) 7 112 Tryz.underlying52 ih iz0 iz1 iz2 rfl (by decide) _ P.length (P.flatMap Ev.cells) rfl (HO2.out.alloc _) ⟨w2.heap.size, 0, none⟩ 1 1 ({ x with A := Ay, cp := cy } : Ev).cells rfl rfl (cells_new_at rfl) (Ev.one _) HA1.out HA2.out HA3.out ?_); intro v' wn hown1 hgr hiff; clear hiff; have HGR := Lib.hid (And.intro hown1 hgr); clear hown1 hgr)
      have hC : Chg (fun k => v.ownBlock = some k) w2 wn := ((Chg.refl _ w2).alloc _).grown HGR.out.2 (fun k hk _ => hk)
      have hlow : Below w.heap.size w wn := (HB2.out.alloc (by omega) _).grown HGR.out.2 HA3.out (fun q hq => own_ge HO2.out q hq)
      have hoff : OffC w2 (fun k => v.ownBlock = some k) := fun k hk cs m e => by
        obtain ⟨cs', hb⟩ := own_blk HO2.out hk
        unfold Blk at hb
        rw [hb] at e
        injection e with e
        injection e with _ e
        exact absurd e (by decide)
      have HF := Lib.hid (And.intro (OwnV.push HGR.out.1) hlow)
      have HE := Lib.hid (show ∀ y ∈ P ++ [({ x with A := Ay, cp := cy } : Ev)], EvQ wn w.heap.size y from fun y hy => by
        rcases List.mem_append.1 hy with hy | hy
        · exact (HP2.out y hy).chg hC hoff
        · rw [List.mem_singleton.1 hy]
          exact (HEV.out.base (by simp; omega)).chg hC hoff)
      clear hlow HGR wk1 wk2 hC hoff
      go_roundw
      case rel => exact ⟨k + 1, _, HK1.out, by first | rfl | go_num, HF.out.1, by rw [HTK.out, List.map_append, List.map_append, HPC.out]; rfl, HE.out, HF.out.2⟩
      case measure => exact meas_lt hlt
    · obtain rfl : k = s.d.length := by omega
      go_wp2_with fail
      go_ret
      have hC := HPC.out
      rw [List.take_length] at hC
      exact ⟨_, P, rfl, HO.out, hC, HPE.out, HB.out⟩
theorem DeadN_any {v : Value} (h : NoQ w v) : Calls Tryz.prog 22 #[v] w fun e w' => e = .returned (.slice none 0 0) ∧ w' = w := by
  have HQ := Lib.hid h
  clear h
  go_enter Tryz.func22, Tryz.ntmps22
  go_wp2_with fail
  refine (madeN_any HQ.out).mono ?_
  rintro e wq ⟨rfl, hq⟩
  obtain rfl := hq.symm
  go_wp2_with fail
  go_ret
  exact ⟨rfl, rfl⟩
end
end Go.Proofs.YtbofclohnmojmaaGreatDoor
namespace Go.Proofs.YtbofclohnmojmaaGreatDoor
open Go.RowKit
open Go.Sort (grow)
open Go.Maps (Keyed)

/-! ### a set of keys -/
def boolR : Value → Option (DataW Unit × List MemPlace)
  | .bool b => some (.lit (.bool b), [])
  | _ => none
theorem boolR_inv {v : Value} {b : Bool} {ps : List MemPlace} (h : boolR v = some (.lit (.bool b), ps)) : v = .bool b := by
  unfold boolR at h
  split at h
  · injection h with h
    have h1 := congrArg Prod.fst h
    simp at h1
    rw [h1]
  · cases h
theorem info_int2 : (Tryz.prog.info? 3).map (fun i => (i.zero, i.size, i.bytes)) = some (some (.int .i64 0), 1, 8) := by kernel_rfl
theorem keyedS : Keyed Tryz.prog 9 := Maps.string_keyed Tryz.underlying9
theorem zeroB (w : World) : (zeroValue 4).run Tryz.prog w = .ok (.bool false) w := by kernel_rfl
abbrev klit (s : ByteArray) : Lit := .string s.data.toList
theorem keyL (s : ByteArray) : WideAt.IsKeyLit (klit s) := trivial
theorem klit_ne {s t : ByteArray} (h : s ≠ t) : klit s ≠ klit t := fun e => by injection e with e; exact h (ba_ext e)
theorem keyS' {s : ByteArray} (hs : s.size ≤ 9223372036854775807) : keyOf Tryz.prog 9 (.string s) = some (klit s) := WideMaps.keyOf_string_mk Tryz.underlying9 (by unfold maxLen; exact hs)
theorem tight {w : World} {b n : Nat} {D : DataW Unit} (h : w.ownsMap Tryz.prog 9 boolR b n D) : w.ownsMap Tryz.prog 9 boolR b (Maps.size D) D := by
  obtain ⟨es, clock, hb, F, hs, rfl⟩ := h
  exact ⟨es, clock, hb, F, by rw [Maps.size_eq, length_sorted]; simp, rfl⟩
/-- Block m is a map that holds true at the keys of p, n at most. -/
def MapB (w : World) (m : Nat) (p : ByteArray → Bool) (n : Nat) : Prop := ∃ D : DataW Unit, w.ownsMap Tryz.prog 9 boolR m (Maps.size D) D ∧ Maps.size D ≤ n ∧ (∀ s, Maps.has D (klit s) = p s) ∧ ∀ s, p s = true → ∀ z, D.atKey (klit s) z = .lit (.bool true)
theorem MapB.new (w : World) : MapB (w.alloc (.map #[] 0)) w.heap.size (fun _ => false) 0 := ⟨.map [], World.ownsMap_made _ _ _ _, Nat.le_refl _, fun _ => rfl, fun _ h => by cases h⟩
theorem MapB.lt {w : World} {m n : Nat} {p : ByteArray → Bool} (h : MapB w m p n) : m < w.heap.size := by obtain ⟨D, h, _⟩ := h; exact h.lt
theorem MapB.chg {S : Nat → Prop} {w w' : World} {m n : Nat} {p : ByteArray → Bool} (h : MapB w m p n) (hc : Chg S w w') (hn : ¬ S m) : MapB w' m p n := by
  have hlt := h.lt
  obtain ⟨D, ⟨es, clock, hb, r⟩, r2⟩ := h
  exact ⟨D, ⟨es, clock, (hc.block m hlt hn).trans hb, r⟩, r2⟩
theorem MapB.ne_row {w : World} {m n : Nat} {p : ByteArray → Bool} (h : MapB w m p n) {base : Nat} {e : TypeId} {sz k : Nat} {v : Value} {xs : List Value} (ho : w.ownsRow base e sz v k xs) : v.ownBlock ≠ some m := by
  intro hk
  obtain ⟨cs, hb⟩ := own_blk ho hk
  obtain ⟨D, ⟨es, clock, he, _⟩, _⟩ := h
  unfold Blk at hb
  rw [hb] at he
  injection he with he
  cases he
theorem MapB.look {w : World} {m n : Nat} {p : ByteArray → Bool} (h : MapB w m p n) {s : ByteArray} (hs : s.size ≤ 9223372036854775807) :
    (Instr.lookup 111 (.map (some m)) (.string s) false).run Tryz.prog w = .ok (.bool (p s)) w := by
  obtain ⟨D, ho, _, hh, ha⟩ := h
  obtain ⟨v, ps, hrun, hv⟩ := ho.lookup keyedS Tryz.underlying111 (zeroB w) (show boolR (.bool false) = some (.lit (.bool false), []) from rfl) (keyS' hs)
  rw [hrun]
  cases e : p s with
  | false =>
    have := hh s
    rw [e] at this
    rw [Maps.atKey_of_not_has this] at hv
    rw [boolR_inv hv]
  | true =>
    rw [ha s e] at hv
    rw [boolR_inv hv]
theorem MapB.put {w : World} {m n : Nat} {p : ByteArray → Bool} (h : MapB w m p n) {s : ByteArray} (hs : s.size ≤ 9223372036854775807) (hn : n ≤ 1000) :
    ∃ w', (Instr.mapUpdate 111 (.map (some m)) (.string s) (.bool true)).run Tryz.prog w = .ok () w' ∧ MapB w' m (fun t => eqS t s || p t) (n + 1) ∧ w.grownBy w' (some m) := by
  obtain ⟨D, ho, hz, hh, ha⟩ := h
  obtain ⟨w', hrun, ho', hg⟩ := ho.update keyedS Tryz.underlying111 (by unfold maxLen; omega) (keyS' hs) (show boolR (.bool true) = some (.lit (.bool true), []) from rfl)
  refine ⟨w', hrun, ⟨D.put (klit s) (.lit (.bool true)), tight ho', ?_, fun t => ?_, fun t ht z => ?_⟩, hg⟩
  · rw [Maps.size_put (ho.tidy keyedS)]; split <;> omega
  · by_cases e : t = s
    · subst e; rw [Maps.has_put_same ho.isMap (keyL _)]; simp only [(eqS_iff t t).2 rfl]; rfl
    · rw [Maps.has_put_other (klit_ne e), hh t]
      simp only []
      cases h : eqS t s
      · rfl
      · exact absurd ((eqS_iff t s).1 h) e
  · by_cases e : t = s
    · subst e; exact Maps.atKey_put_same ho.isMap (keyL _) _ _
    · rw [Maps.atKey_put_other (klit_ne e)]
      refine ha t ?_ z
      simp only [] at ht
      cases h : eqS t s
      · rw [h] at ht; simpa using ht
      · exact absurd ((eqS_iff t s).1 h) e

/-! ### the indices that are ready -/
def keyAt (l : List En) (k : Nat) (t : ByteArray) : Bool := (l.take k).any fun y => eqS t y.ev.key
def rdyB (now : Int) (l : List En) (i : Nat) : Bool := match l[i]? with | none => false | some x => !keyAt l i x.ev.key && decide (x.vis ≤ now)
def rdyL (now : Int) (l : List En) (k : Nat) : List Nat := (List.range k).filter (rdyB now l)
def intsOf (l : List Nat) : List Int := l.map fun i : Nat => (i : Int)
theorem keyAt_step {l : List En} {k : Nat} {x : En} (h : l[k]? = some x) : keyAt l (k + 1) = fun t => eqS t x.ev.key || keyAt l k t := by
  funext t
  unfold keyAt
  rw [take_snoc2 h, List.any_append, Bool.or_comm]
  simp
theorem rdyL_yes {now : Int} {l : List En} {k : Nat} (h : rdyB now l k = true) : rdyL now l (k + 1) = rdyL now l k ++ [k] := by
  unfold rdyL; rw [List.range_succ, List.filter_append]; simp [h]
theorem rdyL_no {now : Int} {l : List En} {k : Nat} (h : rdyB now l k = false) : rdyL now l (k + 1) = rdyL now l k := by
  unfold rdyL; rw [List.range_succ, List.filter_append]; simp [h]
theorem rdyL_len (now : Int) (l : List En) (k : Nat) : (rdyL now l k).length ≤ k := by
  unfold rdyL; exact Nat.le_trans (filter_len _ _) (by simp)
def RdRel (w : World) (now : Int) (l : List En) (v4 v13 : Value) (wx : World) : Prop := ∃ k : Nat, k ≤ l.length ∧ v13 = .int .i64 k ∧ OwnI wx w.heap.size v4 (intsOf (rdyL now l k)) ∧ MapB wx w.heap.size (keyAt l k) k ∧ Below w.heap.size w wx
theorem rd_next {w W wm : World} {base m n : Nat} {v : Value} {P : List Int} {p p' : ByteArray → Bool} {n' : Nat} (hb : Below base w W) (ho : OwnI W base v P) (hm : MapB wm m p' n') (hg : W.grownBy wm (some m)) (hm0 : MapB W m p n) (hbm : base ≤ m) : OwnI wm base v P ∧ MapB wm m p' n' ∧ Below base w wm := by
  have hc : Chg (fun k => k = m) W wm := (Chg.refl _ W).grown hg (fun k hk _ => by injection hk with hk; exact hk.symm)
  exact ⟨hc.own ho (fun k hk e => hm0.ne_row ho (by rw [hk, e])), hm, hb.grown hg (Nat.le_trans hbm (Nat.le_of_lt hm0.lt)) (fun q hq => by injection hq with hq; omega)⟩
def RdPost (w : World) (r : List Nat) (e : Ending) (w' : World) : Prop := ∃ v, e = .returned v ∧ OwnI w' w.heap.size v (intsOf r) ∧ Below w.heap.size w w'
section
variable {w : World} {B q c c' : Nat} {A A' : Option Addr} {s : QS}
attribute [local go_sem ↓] run_lc11
set_option maxHeartbeats 8000000 in
set_option maxRecDepth 20000 in
theorem ready_any (hQ : FQ w B q A c A' c' s) (hl : s.l.length ≤ 300) (hks : ∀ x ∈ s.l, x.ev.key.size ≤ 1048576) : Calls Tryz.prog 44 #[.pointer (some ⟨q, 0, none⟩)] w (RdPost w (rdyL s.now s.l s.l.length)) := by
  obtain ⟨i0, ih, iz0, iz1, iz2⟩ := info_partsO info_int2
  have hql := hQ.blk.lt
  have hb0 := al_new w (.map #[] 0)
  have q4 : (w.alloc (.map #[] 0)).cell? ⟨q, 4, none⟩ = some (.slice A s.l.length c) := (hQ.below hb0).blk.cell 4
  have HQ := Lib.hid hQ
  have HKS := Lib.hid hks
  clear hQ hks hb0
  have hmm := @run_makeMap Tryz.prog
  go_enter Tryz.func44, Tryz.ntmps44
  go_wp2_with fail
  go_loopw [4, 13] (fun v4 v13 wr => RdRel w s.now s.l v4 v13 wr) (fun _ v13 _ => s.l.length - (intOf v13).toNat)
  case atStart => exact ⟨0, Nat.zero_le _, rfl, OwnI.nil _ _, MapB.new w, al_new w _⟩
  case round =>
    obtain ⟨k, hk, rfl, hown, hmap, hb⟩ := hrel
    obtain ⟨v, rfl⟩ : ∃ v : Value, v = u4 := ⟨_, rfl⟩
    have HO := Lib.hid hown
    have HB := Lib.hid hb
    have HM := Lib.hid hmap
    have hzr : w.heap.size ≤ wr.heap.size := hb.size
    have hzm : w.heap.size < wr.heap.size := hmap.lt
    have hQr := HQ.out.below hb
    clear hown hb hmap
    by_cases hlt : k < s.l.length
    · obtain ⟨x, hx⟩ : ∃ t, s.l[k]? = some t := ⟨_, List.getElem?_eq_getElem hlt⟩
      obtain ⟨g, rfl, -, -, -, hld⟩ := ld_en hQr.row hx
      have hki : (k : Int) < s.l.length := by omega
      have hk0 : (0 : Int) ≤ k := by omega
      have hPL : (intsOf (rdyL s.now s.l k)).length ≤ 300 := by unfold intsOf; rw [List.length_map]; exact Nat.le_trans (rdyL_len _ _ _) (by omega)
      have hRB : rdyB s.now s.l k = (!keyAt s.l k x.ev.key && decide (x.vis ≤ s.now)) := by unfold rdyB; rw [hx]
      have HRB := Lib.hid hRB
      have HKA := Lib.hid (keyAt_step hx)
      have HYS := Lib.hid (@rdyL_yes s.now s.l k)
      have HNO := Lib.hid (@rdyL_no s.now s.l k)
      have hsz : x.ev.key.size ≤ 9223372036854775807 := by have := HKS.out x (List.mem_of_getElem? hx); omega
      have HSZ := Lib.hid hsz
      have HK1 := Lib.hid (show k + 1 ≤ s.l.length from hlt)
      have HKW := Lib.hid (w64 (x := (k : Int) + 1) (by omega) (by omega))
      have HOB := Lib.hid (show ∀ j, v.ownBlock = some j → j < wr.heap.size from fun j hj => (own_lt HO.out hj).2)
      go_upto_region 6 with fail
      have hb9 := al_new wr (.cells #[.string x.ev.id, .string x.ev.tn, .string x.ev.src, .string x.ev.key, .int .i64 x.ev.at_, .string x.ev.cause, .slice x.ev.A x.ev.body.length x.ev.cp, .int .i64 x.vis, .int .i64 x.rcv, .bool x.held, .int .i64 x.arr] 76)
      have HQ9 := Lib.hid (hQr.below hb9)
      have bx := Blk.new wr 76 #[.string x.ev.id, .string x.ev.tn, .string x.ev.src, .string x.ev.key, .int .i64 x.ev.at_, .string x.ev.cause, .slice x.ev.A x.ev.body.length x.ev.cp, .int .i64 x.vis, .int .i64 x.rcv, .bool x.held, .int .i64 x.arr]
      have HM9 := Lib.hid (HM.out.chg (S := fun _ => False) (Chg.of_below hb9) id)
      have HO9 := Lib.hid (HO.out.on hb9)
      have HB9 := Lib.hid (HB.out.trans (hb9.mono hzr))
      have hz9 : wr.heap.size < (wr.alloc (.cells #[.string x.ev.id, .string x.ev.tn, .string x.ev.src, .string x.ev.key, .int .i64 x.ev.at_, .string x.ev.cause, .slice x.ev.A x.ev.body.length x.ev.cp, .int .i64 x.vis, .int .i64 x.rcv, .bool x.held, .int .i64 x.arr] 76)).heap.size := bx.lt
      clear hx hld hb9 hRB hQr hsz HM HO HB
      generalize wr.alloc (.cells #[.string x.ev.id, .string x.ev.tn, .string x.ev.src, .string x.ev.key, .int .i64 x.ev.at_, .string x.ev.cause, .slice x.ev.A x.ev.body.length x.ev.cp, .int .i64 x.vis, .int .i64 x.rcv, .bool x.held, .int .i64 x.arr] 76) = W at *
      have e3 : W.cell? ⟨wr.heap.size, 3, none⟩ = some (.string x.ev.key) := bx.cell 3
      have e7 : W.cell? ⟨wr.heap.size, 7, none⟩ = some (.int .i64 x.vis) := bx.cell 7
      have q2 : W.cell? ⟨q, 2, none⟩ = some (.int .i64 s.now) := HQ9.out.blk.cell 2
      have hlook : ∀ n, Sem.run Tryz.prog (Instr.lookup 111 (.map (some w.heap.size)) (.string x.ev.key) false) (W.drewN n) = .ok (.bool (keyAt s.l k x.ev.key)) (W.drewN n) := fun n => (HM9.out.chg (S := fun _ => False) (Chg.of_below (below_drewN' _ W n)) id).look HSZ.out
      obtain ⟨P, hP⟩ : ∃ P, P = intsOf (rdyL s.now s.l k) := ⟨_, rfl⟩
      have HPP := Lib.hid hP
      rw [← hP] at hPL HO9
      clear hP
      obtain ⟨wk1, wk2⟩ := HKW.out
      have HA1 := Lib.hid (show P.length + 1 ≤ maxLen by simp only [maxLen]; clear wk1 wk2; omega)
      have HA2 := Lib.hid (show (P.length + 1) * 8 ≤ 140737488355328 by clear wk1 wk2; omega)
      have hk3 : k ≤ 1000 := by clear wk1 wk2; omega
      clear bx hmm
      have hway : (keyAt s.l k x.ev.key = true ∧ rdyB s.now s.l k = false) ∨ (keyAt s.l k x.ev.key = false ∧ decide (x.vis ≤ s.now) = false ∧ rdyB s.now s.l k = false) ∨ (keyAt s.l k x.ev.key = false ∧ decide (x.vis ≤ s.now) = true ∧ rdyB s.now s.l k = true) := by
        rw [HRB.out]
        cases keyAt s.l k x.ev.key <;> cases decide (x.vis ≤ s.now) <;> simp
      rcases hway with ⟨hka, hrb⟩ | ⟨hka, hvn, hrb⟩ | ⟨hka, hvn, hrb⟩
      · rw [hka] at hlook
        have HR := Lib.hid (HNO.out hrb)
        clear hka hrb
        go_quiet (fail)
        have HM2 := Lib.hid (HM9.out.chg (S := fun _ => False) (Chg.of_below (below_drewN' _ W nq)) id)
        have HO2 := Lib.hid (show OwnI (W.drewN nq) w.heap.size v P from HO9.out)
        have e3' : (W.drewN nq).cell? ⟨wr.heap.size, 3, none⟩ = some (.string x.ev.key) := e3
        have HB2 := Lib.hid (HB9.out.trans (below_drewN' _ W nq))
        clear hlook e3 e7 q2
        generalize W.drewN nq = W2 at *
        obtain ⟨wm, hrun, hmb, hgm⟩ := HM2.out.put HSZ.out hk3
        have HX := Lib.hid (rd_next HB2.out HO2.out hmb hgm HM2.out (Nat.le_refl _))
        clear hmb hgm
        go_wp2_with fail
        clear wk1 wk2
        go_roundw
        case rel => exact ⟨k + 1, HK1.out, by first | rfl | go_num, by rw [HR.out, ← HPP.out]; exact HX.out.1, by rw [HKA.out]; exact HX.out.2.1, HX.out.2.2⟩
        case measure => exact meas_lt hlt
      · rw [hka] at hlook
        have HR := Lib.hid (HNO.out hrb)
        clear hka hrb
        go_quiet (fail)
        have HM2 := Lib.hid (HM9.out.chg (S := fun _ => False) (Chg.of_below (below_drewN' _ W nq)) id)
        have HO2 := Lib.hid (show OwnI (W.drewN nq) w.heap.size v P from HO9.out)
        have e3' : (W.drewN nq).cell? ⟨wr.heap.size, 3, none⟩ = some (.string x.ev.key) := e3
        have HB2 := Lib.hid (HB9.out.trans (below_drewN' _ W nq))
        clear hlook e3 e7 q2
        generalize W.drewN nq = W2 at *
        obtain ⟨wm, hrun, hmb, hgm⟩ := HM2.out.put HSZ.out hk3
        have HX := Lib.hid (rd_next HB2.out HO2.out hmb hgm HM2.out (Nat.le_refl _))
        clear hmb hgm
        go_wp2_with fail
        clear wk1 wk2
        go_roundw
        case rel => exact ⟨k + 1, HK1.out, by first | rfl | go_num, by rw [HR.out, ← HPP.out]; exact HX.out.1, by rw [HKA.out]; exact HX.out.2.1, HX.out.2.2⟩
        case measure => exact meas_lt hlt
      · rw [hka] at hlook
        have HR := Lib.hid (HYS.out hrb)
        clear hka hrb
        go_quiet (fail)
        have HM2 := Lib.hid (HM9.out.chg (S := fun _ => False) (Chg.of_below (below_drewN' _ W nq)) id)
        have HO2 := Lib.hid (show OwnI (W.drewN nq) w.heap.size v P from HO9.out)
        have e3' : (W.drewN nq).cell? ⟨wr.heap.size, 3, none⟩ = some (.string x.ev.key) := e3
        have HB2 := Lib.hid (HB9.out.trans (below_drewN' _ W nq))
        have hz2 : wr.heap.size < (W.drewN nq).heap.size := hz9
        clear hlook e3 e7 q2
        generalize W.drewN nq = W2 at *
        have HZ2 := Lib.hid (show w.heap.size ≤ W2.heap.size by clear wk1 wk2; omega)
        have HA3 := Lib.hid (show w.heap.size ≤ (W2.alloc (.cells #[.int .i64 k] 3)).heap.size by simp; clear wk1 wk2; omega)
        go_wp2_with (at_builtin; go_loud (refine wpList_append_own _ rfl (.tmp 33) (.tmp 35) 83 rfl w.heap.size 3 i0 (.int .i64 0) 1 8 Tryz.underlying83 ih iz0 iz1 iz2 rfl (by decide) _ P.length (ivals P) rfl (HO2.out.alloc _) ⟨W2.heap.size, 0, none⟩ 1 1 [.int .i64 k] rfl rfl (cells_new_at rfl) (by intro u hu; simp at hu; subst hu; rfl) HA1.out HA2.out HA3.out ?_); intro v' wn hown1 hgr hiff; clear hiff; have HGR := Lib.hid (And.intro hown1 hgr); have hcg : Chg (fun j => v.ownBlock = some j) W2 wn := ((Chg.refl _ W2).alloc _).grown hgr (fun j hj _ => hj); have hmn := HM2.out.chg hcg (HM2.out.ne_row HO2.out); have e3n : wn.cell? ⟨wr.heap.size, 3, none⟩ = some (.string x.ev.key) := (hcg.cell (p := ⟨wr.heap.size, 3, none⟩) hz2 (fun e => Nat.lt_irrefl _ (HOB.out _ e))).trans e3'; obtain ⟨wm, hrun, hmb, hgm⟩ := hmn.put HSZ.out hk3; have HX := Lib.hid (rd_next ((HB2.out.alloc HZ2.out _).grown hgr HA3.out (fun q hq => own_ge HO2.out q hq)) (OwnI.push hown1) hmb hgm hmn (Nat.le_refl _)); clear hown1 hgr hcg hmn hmb hgm)
        clear wk1 wk2
        go_roundw
        case rel => exact ⟨k + 1, HK1.out, by first | rfl | go_num, by rw [HR.out, intsOf, List.map_append, ← intsOf, ← HPP.out]; exact HX.out.1, by rw [HKA.out]; exact HX.out.2.1, HX.out.2.2⟩
        case measure => exact meas_lt hlt
    · obtain rfl : k = s.l.length := by omega
      go_wp2_with fail
      go_ret
      exact ⟨_, rfl, HO.out, HB.out⟩
end
end Go.Proofs.YtbofclohnmojmaaGreatDoor
