/- The first error of a list of conditions; the conditions. -/
import Derived.Test.YtojghgeemdpmpaaMCB
import Derived.Laws.EntriesVeiled
import Derived.Shelf.Abstract
namespace Go.Proofs.Ytojghgeemdpmpaa
open Go.RowKit
open Go.Sort (grow)

/-- The first error. -/
def firstE : List Int → Int
  | [] => 0
  | e :: r => if e = 0 then firstE r else e
/-- A function value without parameters that answers an error in every later world. -/
def FnIs (w : World) (v : Value) (e : Int) : Prop :=
  ∃ K caps, v = .func (.func K) #[] caps ∧ (∀ args w, Sem.run Try.prog (callFunc K args) w = .ok (.enter K args) w) ∧ ∀ W, Below w.heap.size w W → Calls Try.prog K caps W fun e' w' => e' = .returned (.int .i64 e) ∧ Below W.heap.size W w'
theorem FnIs.on {w w' : World} {v : Value} {e : Int} (h : FnIs w v e) (hb : Below w.heap.size w w') : FnIs w' v e := by
  obtain ⟨K, caps, hv, hK, hA⟩ := h
  exact ⟨K, caps, hv, hK, fun W hW => hA W (hb.trans (hW.mono hb.size))⟩
theorem reads_blk {w : World} {g : Nat} {t : TypeId} {cs : Array Value} (h : Blk w g t cs) : Reads w w.heap.size 1 (some ⟨g, 0, none⟩) cs.size cs.toList :=
  ⟨by simp, fun _ => ⟨g, 0, rfl, h.lt, fun j u hu => by rw [Nat.zero_add, h.cell j]; simpa using hu⟩⟩
theorem firstE_drop {L : List (Value × Int)} {k : Nat} {p : Value × Int} (h : L[k]? = some p) : firstE ((L.drop k).map (·.2)) = if p.2 = 0 then firstE ((L.drop (k + 1)).map (·.2)) else p.2 := by
  have hlt : k < L.length := (List.getElem?_eq_some_iff.1 h).1
  rw [List.drop_eq_getElem_cons hlt, (List.getElem?_eq_some_iff.1 h).2]
  rfl
set_option maxHeartbeats 1000000 in
set_option maxRecDepth 20000 in
theorem first_any (A : Option Addr) (c : Nat) (L : List (Value × Int)) (w : World) (hl : Reads w w.heap.size 1 A L.length (L.map (·.1))) (hn : L.length ≤ 1000000) (hf : ∀ p ∈ L, FnIs w p.1 p.2) :
    Calls Try.prog 24 #[.slice A L.length c] w fun e w' => e = .returned (.int .i64 (firstE (L.map (·.2)))) ∧ Below w.heap.size w w' := by
  have HL := Lib.hid hl
  have HF := Lib.hid hf
  clear hl hf
  go_enter Try.func24, Try.ntmps24
  go_wp2_with fail
  go_loopw [4, 5, 8] (fun _ _ i wr => ∃ k : Nat, k ≤ L.length ∧ i = .int .i64 k ∧ firstE (L.map (·.2)) = firstE ((L.drop k).map (·.2)) ∧ Below w.heap.size w wr) (fun _ _ i _ => L.length - (intOf i).toNat)
  case atStart => exact ⟨0, Nat.zero_le _, rfl, rfl, Below.refl _ _⟩
  case round =>
    obtain ⟨k, hk, rfl, hno, hbr⟩ := hrel
    have HN := Lib.hid hno
    have HB := Lib.hid hbr
    have hzr : w.heap.size ≤ wr.heap.size := hbr.size
    clear hno hbr
    by_cases hlt : k < L.length
    · obtain ⟨p, hp⟩ : ∃ p, L[k]? = some p := ⟨_, List.getElem?_eq_getElem hlt⟩
      obtain ⟨b, o, rfl, -, hc⟩ := (HL.out.below HB.out).2 (by omega)
      have c0 := hc k p.1 (by simp [hp])
      obtain ⟨K, caps, hv, hK, hA⟩ := HF.out p (List.mem_of_getElem? hp)
      rw [hv] at c0
      have HA := Lib.hid (hA wr HB.out)
      have HP := Lib.hid (HN.out.trans (firstE_drop hp))
      have hki : (k : Int) < L.length := by omega
      have hk0 : (0 : Int) ≤ k := by omega
      clear hp hc hA hv
      generalize p.2 = n at *
      go_wp2_with fail
      refine HA.out.mono ?_
      rintro e w1 ⟨rfl, hb⟩
      have HB1 := Lib.hid (HB.out.trans (hb.mono HB.out.size))
      clear hb c0 HA
      by_cases h0 : n = 0
      · have HQ := Lib.hid (HP.out.trans (if_pos h0))
        subst h0
        go_wp2_with fail
        go_roundw
        case rel => exact ⟨k + 1, by omega, by go_num, HQ.out, HB1.out⟩
        case measure => simp [intOf]; omega
      · have HQ := Lib.hid (HP.out.trans (if_neg h0))
        have hne : (n == 0) = false := beq_eq_false_iff_ne.2 h0
        go_wp2_with fail
        go_ret
        exact ⟨ret_int HQ.out.symm, HB1.out⟩
    · have hki : ¬ (k : Int) < L.length := by omega
      have hd : L.drop k = [] := List.drop_eq_nil_of_le (by omega)
      have HQ := Lib.hid (show firstE (L.map (·.2)) = 0 from HN.out.trans (by rw [hd]; rfl))
      clear hd
      go_wp2_with fail
      go_ret
      exact ⟨ret_int HQ.out.symm, HB.out⟩
/-- A condition's error. -/
def whenE (b : Bool) (x : Int) : Int := if b = true then x else 0
theorem when1_any (b : Bool) (x : Int) (g h : Nat) (w : World) (c0 : w.cell? ⟨g, 0, none⟩ = some (.bool b)) (c1 : w.cell? ⟨h, 0, none⟩ = some (.int .i64 x)) :
    Calls Try.prog 49 #[.pointer (some ⟨g, 0, none⟩), .pointer (some ⟨h, 0, none⟩)] w fun e w' => e = .returned (.int .i64 (whenE b x)) ∧ Below w.heap.size w w' := by
  cases b
  · go_enter Try.func49, Try.ntmps49
    go_wp2
    go_ret
    exact ⟨rfl, Below.refl _ _⟩
  · go_enter Try.func49, Try.ntmps49
    go_wp2
    go_ret
    exact ⟨rfl, Below.refl _ _⟩
theorem enters_when (args : Array Value) (w : World) : Sem.run Try.prog (callFunc 49 args) w = .ok (.enter 49 args) w := enters_of Try.func49 (by kernel_rfl) rfl args w
set_option maxHeartbeats 1000000 in
theorem when_any (b : Bool) (x : Int) (w : World) : Calls Try.prog 28 #[.bool b, .int .i64 x] w fun e w' => (∃ cw, e = .returned (.func (.func 49) #[] cw) ∧ FnIs w' (.func (.func 49) #[] cw) (whenE b x)) ∧ Below w.heap.size w w' := by
  go_enter Try.func28, Try.ntmps28
  go_wp2_with fail
  go_ret
  have h0 := (Blk.new w 4 #[.bool b]).alloc (.cells #[.int .i64 x] 31)
  have h1 := Blk.new1 w (.cells #[.bool b] 4) 31 #[.int .i64 x]
  exact ⟨⟨_, rfl, 49, _, rfl, enters_when, fun W hW => when1_any b x _ _ W ((h0.on hW).cell 0) ((h1.on hW).cell 0)⟩, ((Below.refl _ _).alloc (Nat.le_refl _) _).alloc (by simp) _⟩
theorem enters_flying1 (args : Array Value) (w : World) : Sem.run Try.prog (callFunc 57 args) w = .ok (.enter 57 args) w := enters_of Try.func57 (by kernel_rfl) rfl args w
set_option maxHeartbeats 1000000 in
theorem flying1_any (sh nx fl ac fi wa li : Int) (g : Nat) (w : World) (h : Blk w g 23 #[.int .i64 sh, .int .i64 nx, .int .i64 fl, .int .i64 ac, .int .i64 fi, .int .i64 wa, .int .i64 li]) : Calls Try.prog 57 #[.pointer (some ⟨g, 0, none⟩)] w fun e w' => e = .returned (.int .i64 (MS.e ⟨sh, nx, fl, ac, fi, wa, li⟩)) ∧ Below w.heap.size w w' := by
  have q0 : w.cell? ⟨g, 0, none⟩ = some (.int .i64 sh) := h.cell 0
  have q1 : w.cell? ⟨g, 1, none⟩ = some (.int .i64 nx) := h.cell 1
  have q2 : w.cell? ⟨g, 2, none⟩ = some (.int .i64 fl) := h.cell 2
  have q3 : w.cell? ⟨g, 3, none⟩ = some (.int .i64 ac) := h.cell 3
  have q4 : w.cell? ⟨g, 4, none⟩ = some (.int .i64 fi) := h.cell 4
  have q5 : w.cell? ⟨g, 5, none⟩ = some (.int .i64 wa) := h.cell 5
  have q6 : w.cell? ⟨g, 6, none⟩ = some (.int .i64 li) := h.cell 6
  clear h
  go_enter Try.func57, Try.ntmps57
  go_wp2_with fail
  refine (MCheck_lit sh nx fl ac fi wa li w).mono ?_
  rintro e w1 ⟨rfl, hb⟩
  go_wp2_with fail
  go_ret
  exact ⟨rfl, hb⟩
theorem flying1_fn {sh nx fl ac fi wa li : Int} {g : Nat} {w : World} (h : Blk w g 23 #[.int .i64 sh, .int .i64 nx, .int .i64 fl, .int .i64 ac, .int .i64 fi, .int .i64 wa, .int .i64 li]) : FnIs w (.func (.func 57) #[] #[.pointer (some ⟨g, 0, none⟩)]) (MS.e ⟨sh, nx, fl, ac, fi, wa, li⟩) :=
  ⟨_, _, rfl, enters_flying1, fun W hW => flying1_any _ _ _ _ _ _ _ g W (h.on hW)⟩
theorem enters_poll1 (args : Array Value) (w : World) : Sem.run Try.prog (callFunc 25 args) w = .ok (.enter 25 args) w := enters_of Try.func25 (by kernel_rfl) rfl args w
set_option maxHeartbeats 1000000 in
theorem poll1_any (sh nx fl ac fi wa li : Int) (g : Nat) (w : World) (h : Blk w g 23 #[.int .i64 sh, .int .i64 nx, .int .i64 fl, .int .i64 ac, .int .i64 fi, .int .i64 wa, .int .i64 li]) : Calls Try.prog 25 #[.pointer (some ⟨g, 0, none⟩)] w fun e w' => e = .returned (.int .i64 (MS.e ⟨sh, nx, fl, ac, fi, wa, li⟩)) ∧ Below w.heap.size w w' := by
  have q0 : w.cell? ⟨g, 0, none⟩ = some (.int .i64 sh) := h.cell 0
  have q1 : w.cell? ⟨g, 1, none⟩ = some (.int .i64 nx) := h.cell 1
  have q2 : w.cell? ⟨g, 2, none⟩ = some (.int .i64 fl) := h.cell 2
  have q3 : w.cell? ⟨g, 3, none⟩ = some (.int .i64 ac) := h.cell 3
  have q4 : w.cell? ⟨g, 4, none⟩ = some (.int .i64 fi) := h.cell 4
  have q5 : w.cell? ⟨g, 5, none⟩ = some (.int .i64 wa) := h.cell 5
  have q6 : w.cell? ⟨g, 6, none⟩ = some (.int .i64 li) := h.cell 6
  clear h
  go_enter Try.func25, Try.ntmps25
  go_wp2_with fail
  refine (MCheck_lit sh nx fl ac fi wa li w).mono ?_
  rintro e w1 ⟨rfl, hb⟩
  go_wp2_with fail
  go_ret
  exact ⟨rfl, hb⟩
theorem poll1_fn {sh nx fl ac fi wa li : Int} {g : Nat} {w : World} (h : Blk w g 23 #[.int .i64 sh, .int .i64 nx, .int .i64 fl, .int .i64 ac, .int .i64 fi, .int .i64 wa, .int .i64 li]) : FnIs w (.func (.func 25) #[] #[.pointer (some ⟨g, 0, none⟩)]) (MS.e ⟨sh, nx, fl, ac, fi, wa, li⟩) :=
  ⟨_, _, rfl, enters_poll1, fun W hW => poll1_any _ _ _ _ _ _ _ g W (h.on hW)⟩
theorem enters_fail1 (args : Array Value) (w : World) : Sem.run Try.prog (callFunc 43 args) w = .ok (.enter 43 args) w := enters_of Try.func43 (by kernel_rfl) rfl args w
set_option maxHeartbeats 1000000 in
theorem fail1_any (sh nx fl ac fi wa li : Int) (g : Nat) (w : World) (h : Blk w g 23 #[.int .i64 sh, .int .i64 nx, .int .i64 fl, .int .i64 ac, .int .i64 fi, .int .i64 wa, .int .i64 li]) : Calls Try.prog 43 #[.pointer (some ⟨g, 0, none⟩)] w fun e w' => e = .returned (.int .i64 (MS.e ⟨sh, nx, fl, ac, fi, wa, li⟩)) ∧ Below w.heap.size w w' := by
  have q0 : w.cell? ⟨g, 0, none⟩ = some (.int .i64 sh) := h.cell 0
  have q1 : w.cell? ⟨g, 1, none⟩ = some (.int .i64 nx) := h.cell 1
  have q2 : w.cell? ⟨g, 2, none⟩ = some (.int .i64 fl) := h.cell 2
  have q3 : w.cell? ⟨g, 3, none⟩ = some (.int .i64 ac) := h.cell 3
  have q4 : w.cell? ⟨g, 4, none⟩ = some (.int .i64 fi) := h.cell 4
  have q5 : w.cell? ⟨g, 5, none⟩ = some (.int .i64 wa) := h.cell 5
  have q6 : w.cell? ⟨g, 6, none⟩ = some (.int .i64 li) := h.cell 6
  clear h
  go_enter Try.func43, Try.ntmps43
  go_wp2_with fail
  refine (MCheck_lit sh nx fl ac fi wa li w).mono ?_
  rintro e w1 ⟨rfl, hb⟩
  go_wp2_with fail
  go_ret
  exact ⟨rfl, hb⟩
theorem fail1_fn {sh nx fl ac fi wa li : Int} {g : Nat} {w : World} (h : Blk w g 23 #[.int .i64 sh, .int .i64 nx, .int .i64 fl, .int .i64 ac, .int .i64 fi, .int .i64 wa, .int .i64 li]) : FnIs w (.func (.func 43) #[] #[.pointer (some ⟨g, 0, none⟩)]) (MS.e ⟨sh, nx, fl, ac, fi, wa, li⟩) :=
  ⟨_, _, rfl, enters_fail1, fun W hW => fail1_any _ _ _ _ _ _ _ g W (h.on hW)⟩
def flyE (s : MS) : Int := firstE [s.e, whenE (s.fl == 0) 10]
theorem first_two (A : Option Addr) (c : Nat) (v0 v1 : Value) (e0 e1 : Int) (w : World) (hl : Reads w w.heap.size 1 A 2 [v0, v1]) (h0 : FnIs w v0 e0) (h1 : FnIs w v1 e1) :
    Calls Try.prog 24 #[.slice A 2 c] w fun e w' => e = .returned (.int .i64 (firstE [e0, e1])) ∧ Below w.heap.size w w' :=
  first_any A c [(v0, e0), (v1, e1)] w hl (by simp) (by intro p hp; simp only [List.mem_cons, List.not_mem_nil, or_false] at hp; rcases hp with rfl | rfl; exact h0; exact h1)
set_option maxHeartbeats 2000000 in
set_option maxRecDepth 20000 in
theorem flying_any (sh nx fl ac fi wa li : Int) (w : World) : Calls Try.prog 40 #[.agg #[.int .i64 sh, .int .i64 nx, .int .i64 fl, .int .i64 ac, .int .i64 fi, .int .i64 wa, .int .i64 li]] w fun e w' => e = .returned (.int .i64 (flyE ⟨sh, nx, fl, ac, fi, wa, li⟩)) ∧ Below w.heap.size w w' := by
  go_enter Try.func40, Try.ntmps40
  go_wp2_with fail
  refine (when_any _ 10 _).mono ?_
  rintro e w1 ⟨⟨cw, rfl, hfw⟩, hb⟩
  have bs : Blk w1 (w.heap.size) 23 #[.int .i64 sh, .int .i64 nx, .int .i64 fl, .int .i64 ac, .int .i64 fi, .int .i64 wa, .int .i64 li] := (Blk.new _ _ _).on hb
  have hbz := hb.size
  have HB1 := Lib.hid (((Below.refl w.heap.size w).alloc (by first | exact Nat.le_refl _ | omega | (simp; done) | (simp; omega)) _).trans (hb.mono (by first | exact Nat.le_refl _ | omega | (simp; done) | (simp; omega))))
  have hz1 : w.heap.size ≤ w1.heap.size := HB1.out.size
  clear hb hbz
  have HV := Lib.hid hfw
  clear hfw
  go_wp2_with fail
  have HX := Lib.hid (show Below w1.heap.size w1 ((w1).alloc (.cells #[.func (.func 57) #[] #[.pointer (some ⟨w.heap.size, 0, none⟩)], .func (.func 49) #[] cw] 57)) from (Below.refl _ _).alloc (Nat.le_refl _) _)
  have bs : Blk ((w1).alloc (.cells #[.func (.func 57) #[] #[.pointer (some ⟨w.heap.size, 0, none⟩)], .func (.func 49) #[] cw] 57)) (w.heap.size) 23 #[.int .i64 sh, .int .i64 nx, .int .i64 fl, .int .i64 ac, .int .i64 fi, .int .i64 wa, .int .i64 li] := (bs).alloc _
  have bl : Blk ((w1).alloc (.cells #[.func (.func 57) #[] #[.pointer (some ⟨w.heap.size, 0, none⟩)], .func (.func 49) #[] cw] 57)) (w1.heap.size) 57 #[.func (.func 57) #[] #[.pointer (some ⟨w.heap.size, 0, none⟩)], .func (.func 49) #[] cw] := Blk.new _ _ _
  have HB2 := Lib.hid (show Below w.heap.size w ((w1).alloc (.cells #[.func (.func 57) #[] #[.pointer (some ⟨w.heap.size, 0, none⟩)], .func (.func 49) #[] cw] 57)) from (HB1.out).alloc (by first | exact Nat.le_refl _ | omega | (simp; done) | (simp; omega)) _)
  generalize (w1).alloc (.cells #[.func (.func 57) #[] #[.pointer (some ⟨w.heap.size, 0, none⟩)], .func (.func 49) #[] cw] 57) = w2 at *
  have hz2 : w.heap.size ≤ w2.heap.size := HB2.out.size
  go_wp2_with fail
  refine (first_two _ _ _ _ _ _ _ (reads_blk bl) (flying1_fn bs) (HV.out.on HX.out)).mono ?_
  rintro e w3 ⟨rfl, hb⟩
  have bs : Blk w3 (w.heap.size) 23 #[.int .i64 sh, .int .i64 nx, .int .i64 fl, .int .i64 ac, .int .i64 fi, .int .i64 wa, .int .i64 li] := (bs).on hb
  have bl : Blk w3 (w1.heap.size) 57 #[.func (.func 57) #[] #[.pointer (some ⟨w.heap.size, 0, none⟩)], .func (.func 49) #[] cw] := (bl).on hb
  have hbz := hb.size
  have HB3 := Lib.hid ((HB2.out).trans (hb.mono (by first | exact Nat.le_refl _ | omega | (simp; done) | (simp; omega))))
  have hz3 : w.heap.size ≤ w3.heap.size := HB3.out.size
  clear hb hbz
  go_wp2_with fail
  go_ret
  exact ⟨rfl, HB3.out⟩
end Go.Proofs.Ytojghgeemdpmpaa
