/- Lists of statements; the first statement that a function value takes. -/
import Derived.Test.YtcmlgiilifdnfaaDoorPI
namespace Go.Proofs.YtcmlgiilifdnfaaDoor
open Go.RowKit
open Go.Sort (grow)

/-- A list of statements in memory. -/
def StsAt (w : World) (B : Nat) (A : Option Addr) (l : List St) : Prop := ∀ k s, l[k]? = some s → ∃ b o P c P2 c2, A = some ⟨b, o, none⟩ ∧ b < B ∧
  w.cell? ⟨b, o + k * 3, none⟩ = some (.bool s.al) ∧ w.cell? ⟨b, o + k * 3 + 1, none⟩ = some (.slice P s.ac.length c) ∧ w.cell? ⟨b, o + k * 3 + 2, none⟩ = some (.slice P2 s.re.length c2) ∧ StrL w B P s.ac ∧ StrL w B P2 s.re
theorem StsAt.keep {w w' : World} {B : Nat} {A : Option Addr} {l : List St} (h : StsAt w B A l) (hb : Below B w w') : StsAt w' B A l := by
  intro k s hk
  obtain ⟨b, o, P, c, P2, c2, e, hlt, h0, h1, h2, h3, h4⟩ := h k s hk
  exact ⟨b, o, P, c, P2, c2, e, hlt, (hb.cell (by exact hlt)).trans h0, (hb.cell (by exact hlt)).trans h1, (hb.cell (by exact hlt)).trans h2, h3.keep hb, h4.keep hb⟩
theorem StsAt.more {w : World} {B B' : Nat} {A : Option Addr} {l : List St} (h : StsAt w B A l) (hB : B ≤ B') : StsAt w B' A l := by
  intro k s hk
  obtain ⟨b, o, P, c, P2, c2, e, hlt, h0, h1, h2, h3, h4⟩ := h k s hk
  exact ⟨b, o, P, c, P2, c2, e, by omega, h0, h1, h2, Reads.more h3 hB, Reads.more h4 hB⟩
theorem StsAt.on {w w' : World} {A : Option Addr} {l : List St} (h : StsAt w w.heap.size A l) (hb : Below w.heap.size w w') : StsAt w' w'.heap.size A l := (h.keep hb).more hb.size
/-- The cells of statement k, and its value. -/
theorem StsAt.cells {w : World} {B : Nat} {A : Option Addr} {l : List St} (h : StsAt w B A l) {k : Nat} {s : St} (hk : l[k]? = some s) :
    ∃ b o P c P2 c2, A = some ⟨b, o, none⟩ ∧ b < B ∧ w.cell? ⟨b, o + k * 3, none⟩ = some (.bool s.al) ∧ w.cell? ⟨b, o + k * 3 + 1, none⟩ = some (.slice P s.ac.length c) ∧ w.cell? ⟨b, o + k * 3 + 2, none⟩ = some (.slice P2 s.re.length c2) ∧
      StV w B (.agg #[.bool s.al, .slice P s.ac.length c, .slice P2 s.re.length c2]) s := by
  obtain ⟨b, o, P, c, P2, c2, e, hlt, h0, h1, h2, h3, h4⟩ := h k s hk
  exact ⟨b, o, P, c, P2, c2, e, hlt, h0, h1, h2, P, c, P2, c2, rfl, h3, h4⟩
theorem StV.more {w : World} {B B' : Nat} {v : Value} {s : St} (h : StV w B v s) (hB : B ≤ B') : StV w B' v s := by
  obtain ⟨A, c, A2, c2, rfl, h1, h2⟩ := h
  exact ⟨A, c, A2, c2, rfl, Reads.more h1 hB, Reads.more h2 hB⟩
def SzL (l : List St) : Prop := l.length ≤ 1000000 ∧ ∀ s ∈ l, SzSt s

def idxG {α : Type} (l : List α) (p : α → Bool) : Int := match l.findIdx? p with | some i => (i : Int) | none => -1
theorem idxG_hit {α : Type} {l : List α} {p : α → Bool} {k : Nat} {t : α} (ht : l[k]? = some t) (hp : p t = true) (hno : ∀ j x, j < k → l[j]? = some x → p x = false) : (k : Int) = idxG l p := by
  unfold idxG
  have hk : k < l.length := (List.getElem?_eq_some_iff.1 ht).1
  have he : l[k] = t := (List.getElem?_eq_some_iff.1 ht).2
  have : l.findIdx? p = some k := by
    rw [List.findIdx?_eq_some_iff_getElem]
    exact ⟨hk, by rw [he]; exact hp, fun j hj => by have := hno j _ hj (List.getElem?_eq_getElem (by omega)); simp [this]⟩
  rw [this]
theorem idxG_none {α : Type} {l : List α} {p : α → Bool} (hno : ∀ j x, j < l.length → l[j]? = some x → p x = false) : (-1 : Int) = idxG l p := by
  unfold idxG
  have : l.findIdx? p = none := by
    rw [List.findIdx?_eq_none_iff]
    intro x hx
    obtain ⟨j, hj⟩ := List.getElem?_of_mem hx
    exact hno j x (List.getElem?_eq_some_iff.1 hj).1 hj
  rw [this]
theorem firI_idx (l : List St) (x : Bool) (a r : ByteArray) : firI l x a r = idxG l (fun s => s.al == x && s.mt a r) := rfl
theorem no_step {α : Type} {l : List α} {p : α → Bool} {k : Nat} {t : α} (hno : ∀ j x, j < k → l[j]? = some x → p x = false) (ht : l[k]? = some t) (hp : p t = false) : ∀ j x, j < k + 1 → l[j]? = some x → p x = false := by
  intro j x hj hx
  rcases Nat.lt_or_ge j k with h | h
  · exact hno j x h hx
  · obtain rfl : j = k := by omega
    rw [ht] at hx
    obtain rfl := Option.some.inj hx
    exact hp
/-- What a function value answers about a statement in every later world. -/
def AnsV (K : Nat) (caps : Array Value) (w : World) (v : Value) (b : Bool) : Prop :=
  ∀ W, Below w.heap.size w W → Calls Tryd.prog K (#[v] ++ caps) W fun e w' => e = .returned (.bool b) ∧ Below W.heap.size W w'
set_option maxHeartbeats 1000000 in
set_option maxRecDepth 20000 in
theorem IndexT (K : Nat) (hK : ∀ args w, Sem.run Tryd.prog (callFunc K args) w = .ok (.enter K args) w) (caps : Array Value) (p : St → Bool) (A : Option Addr) (c : Nat) (l : List St) (w : World) (hl : StsAt w w.heap.size A l) (hn : l.length ≤ 1000000) (hf : ∀ s ∈ l, ∀ v, StV w w.heap.size v s → AnsV K caps w v (p s)) :
    Calls Tryd.prog 28 #[.slice A l.length c, .func (.func K) #[] caps] w fun e w' => e = .returned (.int .i64 (idxG l p)) ∧ Below w.heap.size w w' := by
  have HL := Lib.hid hl
  have HF := Lib.hid hf
  clear hl hf
  go_enter Tryd.func28, Tryd.ntmps28
  go_wp2_with fail
  go_loopw [5, 8] (fun _ i wr => ∃ k : Nat, k ≤ l.length ∧ i = .int .i64 k ∧ (∀ j x, j < k → l[j]? = some x → p x = false) ∧ Below w.heap.size w wr) (fun _ i _ => l.length - (intOf i).toNat)
  case atStart => exact ⟨0, Nat.zero_le _, rfl, fun j x hj => absurd hj (by omega), Below.refl _ _⟩
  case round =>
    obtain ⟨k, hk, rfl, hno, hbr⟩ := hrel
    have HN := Lib.hid hno
    have HB := Lib.hid hbr
    have hzr : w.heap.size ≤ wr.heap.size := hbr.size
    clear hno hbr
    by_cases hlt : k < l.length
    · obtain ⟨t, ht⟩ : ∃ t, l[k]? = some t := ⟨_, List.getElem?_eq_getElem hlt⟩
      obtain ⟨b, o, P, cp, P2, cp2, rfl, -, q0, q1, q2, hv⟩ := HL.out.cells ht
      have hbl : b < w.heap.size := block_lt_of_cell q0
      have c0 := (HB.out.cell (p := ⟨b, o + k * 3, none⟩) hbl).trans q0
      have c1 := (HB.out.cell (p := ⟨b, o + k * 3 + 1, none⟩) hbl).trans q1
      have c2 := (HB.out.cell (p := ⟨b, o + k * 3 + 2, none⟩) hbl).trans q2
      have HT := Lib.hid ht
      have HA := Lib.hid (HF.out t (List.mem_of_getElem? ht) _ hv wr HB.out)
      clear ht q0 q1 q2 hv
      go_wp2_with fail
      refine HA.out.mono ?_
      rintro e w1 ⟨rfl, hb⟩
      have HB1 := Lib.hid (HB.out.trans (hb.mono HB.out.size))
      clear hb
      cases hpt : p t
      · have HP := Lib.hid hpt
        clear hpt
        go_wp2_with fail
        go_roundw
        case rel => exact ⟨k + 1, by omega, by go_num, no_step HN.out HT.out HP.out, HB1.out⟩
        case measure => simp [intOf]; omega
      · have HP := Lib.hid hpt
        clear hpt
        go_wp2_with fail
        go_ret
        exact ⟨ret_int (idxG_hit HT.out HP.out HN.out), HB1.out⟩
    · have hki : ¬ (k : Int) < l.length := by omega
      go_wp2_with fail
      go_ret
      exact ⟨ret_int (idxG_none (fun j x hj hx => HN.out j x (by omega) hx)), HB.out⟩
theorem enters_dec11 (args : Array Value) (w : World) : Sem.run Tryd.prog (callFunc 29 args) w = .ok (.enter 29 args) w := enters_of Tryd.func29 (by kernel_rfl) rfl args w
theorem enters_dec1 (args : Array Value) (w : World) : Sem.run Tryd.prog (callFunc 27 args) w = .ok (.enter 27 args) w := enters_of Tryd.func27 (by kernel_rfl) rfl args w
end Go.Proofs.YtcmlgiilifdnfaaDoor
