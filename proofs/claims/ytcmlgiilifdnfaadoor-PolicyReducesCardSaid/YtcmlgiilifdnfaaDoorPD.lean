/- IndexFunc and ContainsFunc over a list of strings, at a function value that answers a plain test. -/
import Derived.Test.YtcmlgiilifdnfaaDoorPC
namespace Go.Proofs.YtcmlgiilifdnfaaDoor
open Go.RowKit
open Go.Sort (grow)

def idxS (l : List ByteArray) (p : ByteArray → Bool) : Int := match l.findIdx? p with | some i => (i : Int) | none => -1
theorem idxS_hit {l : List ByteArray} {p : ByteArray → Bool} {k : Nat} {t : ByteArray} (ht : l[k]? = some t) (hp : p t = true) (hno : ∀ j x, j < k → l[j]? = some x → p x = false) : (k : Int) = idxS l p := by
  unfold idxS
  have hk : k < l.length := (List.getElem?_eq_some_iff.1 ht).1
  have he : l[k] = t := (List.getElem?_eq_some_iff.1 ht).2
  have : l.findIdx? p = some k := by
    rw [List.findIdx?_eq_some_iff_getElem]
    exact ⟨hk, by rw [he]; exact hp, fun j hj => by have := hno j _ hj (List.getElem?_eq_getElem (by omega)); simp [this]⟩
  rw [this]
theorem idxS_none {l : List ByteArray} {p : ByteArray → Bool} (hno : ∀ j x, j < l.length → l[j]? = some x → p x = false) : (-1 : Int) = idxS l p := by
  unfold idxS
  have : l.findIdx? p = none := by
    rw [List.findIdx?_eq_none_iff]
    intro x hx
    obtain ⟨j, hj⟩ := List.getElem?_of_mem hx
    exact hno j x (List.getElem?_eq_some_iff.1 hj).1 hj
  rw [this]
theorem idxS_any (l : List ByteArray) (p : ByteArray → Bool) : decide (0 ≤ idxS l p) = l.any p := by
  unfold idxS
  cases h : l.findIdx? p with
  | none =>
    rw [List.findIdx?_eq_none_iff] at h
    have : l.any p = false := by rw [List.any_eq_false]; intro x hx; simp [h x hx]
    rw [this]; rfl
  | some i =>
    obtain ⟨hi, hp, -⟩ := List.findIdx?_eq_some_iff_getElem.1 h
    have : l.any p = true := by rw [List.any_eq_true]; exact ⟨_, List.getElem_mem hi, hp⟩
    rw [this]; simp
/-- What a function value answers in every later world. -/
def Ans (K : Nat) (caps : Array Value) (w : World) (t : ByteArray) (b : Bool) : Prop :=
  ∀ W, Below w.heap.size w W → Calls Tryd.prog K (#[.string t] ++ caps) W fun e w' => e = .returned (.bool b) ∧ Below W.heap.size W w'
set_option maxHeartbeats 1000000 in
set_option maxRecDepth 20000 in
theorem IndexS (K : Nat) (hK : ∀ args w, Sem.run Tryd.prog (callFunc K args) w = .ok (.enter K args) w) (caps : Array Value) (p : ByteArray → Bool) (A : Option Addr) (c : Nat) (l : List ByteArray) (w : World) (hl : StrL w w.heap.size A l) (hn : l.length ≤ 1000000) (hf : ∀ t ∈ l, Ans K caps w t (p t)) :
    Calls Tryd.prog 51 #[.slice A l.length c, .func (.func K) #[] caps] w fun e w' => e = .returned (.int .i64 (idxS l p)) ∧ Below w.heap.size w w' := by
  have HL := Lib.hid hl
  have HF := Lib.hid hf
  clear hl hf
  go_enter Tryd.func51, Tryd.ntmps51
  go_wp2_with fail
  go_loopw [5, 8] (fun _ i wr => ∃ k : Nat, k ≤ l.length ∧ i = .int .i64 k ∧ (∀ j x, j < k → l[j]? = some x → p x = false) ∧ Below w.heap.size w wr) (fun _ i _ => l.length - (intOf i).toNat)
  case atStart => exact ⟨0, Nat.zero_le _, rfl, fun j x hj => absurd hj (by omega), Below.refl _ _⟩
  case round =>
    obtain ⟨k, hk, rfl, hno, hbr⟩ := hrel
    have HN := Lib.hid hno
    have HB := Lib.hid hbr
    have hzr : w.heap.size ≤ wr.heap.size := hbr.size
    clear hno hbr
    by_cases hlt : k < l.length
    · obtain ⟨t, ht⟩ : ∃ t, l[k]? = some t := ⟨_, List.getElem?_eq_getElem hlt⟩
      obtain ⟨b, o, rfl, -, c0⟩ := (HL.out.keep HB.out).cell ht
      have HT := Lib.hid ht
      have HA := Lib.hid (HF.out t (List.mem_of_getElem? ht) wr HB.out)
      have hki : (k : Int) < l.length := by omega
      have hk0 : (0 : Int) ≤ k := by omega
      clear ht
      go_wp2_with fail
      refine HA.out.mono ?_
      rintro e w1 ⟨rfl, hb⟩
      have HB1 := Lib.hid (HB.out.trans (hb.mono HB.out.size))
      clear hb
      cases hpt : p t
      · have HP := Lib.hid hpt
        clear hpt
        go_wp2_with fail
        go_round
        · exact ⟨k + 1, by omega, by simp, fun j x hj hx => by
            rcases Nat.lt_or_ge j k with h | h
            · exact HN.out j x h hx
            · obtain rfl : j = k := by omega
              rw [HT.out] at hx
              obtain rfl := Option.some.inj hx
              exact HP.out, HB1.out⟩
        · simp only [intOf]
          omega
      · have HP := Lib.hid hpt
        clear hpt
        go_wp2_with fail
        go_ret
        exact ⟨ret_int (idxS_hit HT.out HP.out HN.out), HB1.out⟩
    · have hki : ¬ (k : Int) < l.length := by omega
      go_wp2_with fail
      go_ret
      exact ⟨ret_int (idxS_none (fun j x hj hx => HN.out j x (by omega) hx)), HB.out⟩
theorem ContainsS (K : Nat) (hK : ∀ args w, Sem.run Tryd.prog (callFunc K args) w = .ok (.enter K args) w) (caps : Array Value) (p : ByteArray → Bool) (A : Option Addr) (c : Nat) (l : List ByteArray) (w : World) (hl : StrL w w.heap.size A l) (hn : l.length ≤ 1000000) (hf : ∀ t ∈ l, Ans K caps w t (p t)) :
    Calls Tryd.prog 36 #[.slice A l.length c, .func (.func K) #[] caps] w fun e w' => e = .returned (.bool (l.any p)) ∧ Below w.heap.size w w' := by
  have HL := Lib.hid hl
  have HF := Lib.hid hf
  clear hl hf
  go_enter Tryd.func36, Tryd.ntmps36
  go_wp2_with fail
  refine (IndexS K hK caps p A c l w HL.out hn HF.out).mono ?_
  rintro e w1 ⟨rfl, hb⟩
  have HB := Lib.hid hb
  clear hb
  go_wp2_with fail
  go_ret
  exact ⟨ret_bool (idxS_any l p), HB.out⟩
theorem enters_check (args : Array Value) (w : World) : Sem.run Tryd.prog (callFunc 37 args) w = .ok (.enter 37 args) w := enters_of Tryd.func37 (by kernel_rfl) rfl args w
theorem enters_some (args : Array Value) (w : World) : Sem.run Tryd.prog (callFunc 45 args) w = .ok (.enter 45 args) w := enters_of Tryd.func45 (by kernel_rfl) rfl args w
theorem enters_within (args : Array Value) (w : World) : Sem.run Tryd.prog (callFunc 56 args) w = .ok (.enter 56 args) w := enters_of Tryd.func56 (by kernel_rfl) rfl args w
theorem enters_within1 (args : Array Value) (w : World) : Sem.run Tryd.prog (callFunc 57 args) w = .ok (.enter 57 args) w := enters_of Tryd.func57 (by kernel_rfl) rfl args w
end Go.Proofs.YtcmlgiilifdnfaaDoor
