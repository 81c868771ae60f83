/- The symbolic machine: what it reckons, the program does. -/
import Derived.Test.YtfhcngnmgfkdkaaGreatDoorTO
import Derived.Defers
namespace Go.Proofs.YtfhcngnmgfkdkaaGreatDoor
namespace Sy
open Go.RowKit

theorem bindAll_some {α β : Type} {g : α → Option (List β)} : ∀ {l : List α} {ys : List β}, bindAll g l = some ys → ∀ a ∈ l, ∃ ya, g a = some ya ∧ ∀ y ∈ ya, y ∈ ys
  | [], _, _, a, ha => by cases ha
  | [x], ys, h, a, ha => by
    simp only [bindAll] at h
    rcases List.mem_cons.1 ha with rfl | ha
    · exact ⟨ys, h, fun y hy => hy⟩
    · cases ha
  | x :: z :: l, ys, h, a, ha => by
    simp only [bindAll] at h
    split at h
    · cases h
    · rename_i y1 h1
      split at h
      · cases h
      · rename_i y2 h2
        injection h with h
        subst h
        rcases List.mem_cons.1 ha with rfl | ha
        · exact ⟨y1, h1, fun y hy => List.mem_append.2 (.inl hy)⟩
        · obtain ⟨ya, h3, h4⟩ := bindAll_some (l := z :: l) (ys := y2) (by simp only [bindAll]; exact h2) a ha
          exact ⟨ya, h3, fun y hy => List.mem_append.2 (.inr (h4 y hy))⟩
theorem bindL_some {α β : Type} {g : α → Option (List β)} {x : Option (List α)} {ys : List β} (h : bindL x g = some ys) : ∃ l, x = some l ∧ ∀ a ∈ l, ∃ ya, g a = some ya ∧ ∀ y ∈ ya, y ∈ ys := by
  unfold bindL at h
  split at h
  · cases h
  · rename_i l
    exact ⟨l, rfl, bindAll_some h⟩
def XOk : SX → Exit → Prop
  | .nor, .normal => True
  | .ex i, .exit j => i = j
  | .ret, .ret => True
  | _, _ => False
/-- What stands behind: one of the outcomes. -/
def QS (B : Nat) (w0 : World) (E : Env) (outs : List (SR × SH)) (e : Exit) (a : Act) (w : World) : Prop :=
  ∃ x A S F, ((.x x A, S) : SR × SH) ∈ outs ∧ E.le F ∧ Inv B w0 F S w ∧ ARel F A a ∧ XOk x e
def CS (B : Nat) (w0 : World) (E : Env) (outs : List (SR × SH)) (e : Ending) (w : World) : Prop :=
  ∃ v S F x, ((.v v, S) : SR × SH) ∈ outs ∧ E.le F ∧ Inv B w0 F S w ∧ den F v = some x ∧ e = .returned x
/-- A loop, behind its head. -/
def LoopWp (P : Program) (c : Code) (Q : Exit → Act → World → Prop) (a : Act) (w : World) : Prop :=
  ∀ (b : Frame) (k : List Item) (cs : List Frame), ∃ e a' w', Q e a' w' ∧ Arrives P (lone (b.at a (.code c :: .inLoop c :: k)) cs w) b k cs e a' w'
theorem loopWp_of {P : Program} {c : Code} {Q : Exit → Act → World → Prop} {a : Act} {w : World} (h : c.wp P (Exit.then (LoopWp P c Q) Q) a w) : LoopWp P c Q a w := by
  intro b k cs
  obtain ⟨e, a₁, w₁, hq, harr⟩ := h b (.inLoop c :: k) cs
  cases e with
  | normal =>
    obtain ⟨e₂, a₂, w₂, hq₂, harr₂⟩ := hq b k cs
    exact ⟨e₂, a₂, w₂, hq₂, .of_steps (Steps.trans harr (.one step_inLoop)) harr₂⟩
  | exit id => exact ⟨_, a₁, w₁, hq, .pass (x := .inLoop c) rfl (fun _ _ => .inl (by simp)) harr⟩
  | goto l => exact ⟨_, a₁, w₁, hq, .pass (x := .inLoop c) rfl (fun _ _ => .inl (by simp)) harr⟩
  | ret => exact ⟨_, a₁, w₁, hq, .pass (x := .inLoop c) rfl (fun _ _ => .inl (by simp)) harr⟩
  | panic ch => exact ⟨_, a₁, w₁, hq, .pass (x := .inLoop c) rfl (fun _ _ => .inl (by simp)) harr⟩
  | outgrown => exact ⟨_, a₁, w₁, hq, .pass (x := .inLoop c) rfl (fun _ _ => .inl (by simp)) harr⟩
theorem wp_of_loopWp {P : Program} {c : Code} {Q : Exit → Act → World → Prop} {a : Act} {w : World} (h : LoopWp P c Q a w) : (Code.loop c).wp P Q a w := by
  intro b k cs
  obtain ⟨e, a₁, w₁, hq, harr⟩ := h b k cs
  exact ⟨e, a₁, w₁, hq, .of_steps (.one step_loop) harr⟩
structure Snd (P : Program) (rec : Rq → SH → Option (List (SR × SH))) : Prop where
  code : ∀ {c A S outs}, rec (.code c A) S = some outs → ∀ {B w0 E E0 w a outs'}, E0.le E → (∀ y ∈ outs, y ∈ outs') → Inv B w0 E S w → ARel E A a → c.wp P (QS B w0 E0 outs') a w
  loop : ∀ {c A S outs}, rec (.code (.loop c) A) S = some outs → ∀ {B w0 E E0 w a outs'}, E0.le E → (∀ y ∈ outs, y ∈ outs') → Inv B w0 E S w → ARel E A a → LoopWp P c (QS B w0 E0 outs') a w
  ops : ∀ {l all A S outs}, rec (.ops l all A) S = some outs → ∀ {B w0 E E0 w a outs'}, E0.le E → (∀ y ∈ outs, y ∈ outs') → Inv B w0 E S w → ARel E A a → wpList P all (QS B w0 E0 outs') l a w
  any : ∀ {all π H A S outs}, rec (.any all π H A) S = some outs → ∀ {B w0 E E0 w a outs' T n listed}, E0.le E → (∀ y ∈ outs, y ∈ outs') → Inv B w0 E S w → ARel E A a →
    Region.noSelect all = true → planGo all n listed = some π → HOk E H T → (∀ t ∈ T, t.2 w) → wpAnyX P all (QS B w0 E0 outs') n T listed a w
  call : ∀ {f args S outs}, rec (.call f args) S = some outs → ∀ {B w0 E E0 w xs outs'}, E0.le E → (∀ y ∈ outs, y ∈ outs') → Inv B w0 E S w → denL E args = some xs → Calls P f xs.toArray w (CS B w0 E0 outs')

section
variable {P : Program} {E E0 : Env} {A : SA} {a : Act} {B : Nat} {w0 w : World} {S : SH}
theorem want_ok (hA : ARel E A a) {ops : Array Oper} {o : Oper} {b : Bool} (h : want ops A o = some b) : Region.wanted o (yielded ops a.tmps) = b := by
  unfold want at h
  unfold Region.wanted
  split at h
  · rename_i hg
    rw [hg]
    injection h with h
  · rename_i j b' hg
    rw [hg]
    simp only
    split at h
    · rename_i p hp
      split at h
      · rename_i d hd
        split at h
        · rename_i c hc
          injection h with h
          obtain ⟨x, h1, h2⟩ := hA.tmp _ _ hc
          simp only [den, Option.some.injEq] at h1
          subst h1 h
          simp [yielded, hp, hd, h2]
        · rename_i l hc
          injection h with h
          obtain ⟨x, h1, h2⟩ := hA.tmp _ _ hc
          obtain ⟨xs, -, rfl⟩ := den_tu h1
          subst h
          simp [yielded, hp, hd, h2]
        · cases h
      · cases h
    · cases h
theorem den_undef (E : Env) : den E (.tu []) = some undef := rfl
section
variable {ib : FuncId} {rec : Rq → SH → Option (List (SR × SH))} (hC : Cf P ib) (hS : Snd P rec)
include hC hS
theorem run1_ok {o : Oper} {outs : List (SA × SH)} (h : run1 P ib rec A S o = some outs) (hI : Inv B w0 E S w) (hA : ARel E A a) {K : Act → World → Prop} {Q : Exit → Act → World → Prop}
    (hK : ∀ A' S' F a' w', (A', S') ∈ outs → E.le F → Inv B w0 F S' w' → ARel F A' a' → K a' w') : o.wp P a w K Q := by
  have fin : ∀ {A1 : SA} {v : SV} {S1 : SH} {ya : List (SA × SH)}, Sy.fin A1 o.dst v S1 = some ya → (∀ y ∈ ya, y ∈ outs) → ∀ {F : Env} {a1 : Act} {w1 : World} {x : Value}, E.le F → Inv B w0 F S1 w1 → ARel F A1 a1 → den F v = some x → K (a1.put o.dst x) w1 := by
    intro A1 v S1 ya h1 h2 F a1 w1 x h3 h4 h5 h6
    unfold Sy.fin at h1
    split at h1
    · rename_i A' hp
      injection h1 with h1
      subst h1
      exact hK A' S1 F _ w1 (h2 _ (List.mem_cons_self ..)) h3 h4 (h5.put hp h6)
    · cases h1
  unfold run1 at h
  unfold Oper.wp
  split at h
  · rename_i v hv
    obtain ⟨x, h1, h2⟩ := opD_ok hA hv
    rw [h2 w, Oper.upon_value]
    exact fin h (fun y hy => hy) (.refl E) hI hA h1
  · split at h
    · rename_i v hh hv
      obtain ⟨id, q, l⟩ := hh
      obtain ⟨r, xs, x, _, _, h3, h4, h5⟩ := opL_ok hI hA hv
      rw [h5 w h4, Oper.upon_value]
      exact fin h (fun y hy => hy) (.refl E) hI hA h3
    · split at h
      · rename_i v S' hn
        obtain ⟨F, w', h1, h2, x, h3, h4⟩ := opN_ok hC hI hA hn
        rw [h4, Oper.upon_value]
        exact fin h (fun y hy => hy) h1 h2 (hA.mono h1) h3
      · rename_i S' hn
        obtain ⟨F, w', h1, h2, h4⟩ := opN_ok hC hI hA hn
        rw [show (execOp a.eval o).run P w = .ok .skip w' from h4, Oper.upon_skip]
        exact fin h (fun y hy => hy) h1 h2 (hA.mono h1) (den_undef F)
      · rename_i f args S' hn
        obtain ⟨F, w', h1, h2, d, cap, h3, h4, h5⟩ := opN_ok hC hI hA hn
        rw [h3, Oper.upon_defer]
        have hA' := hA.mono h1
        have hA2 : ARel F { A with df := (f, args) :: A.df } { a with defers := d :: a.defers } := ⟨hA'.glob, hA'.size, hA'.tmp, ⟨cap, h4, h5⟩, hA'.df⟩
        exact fin h (fun y hy => hy) h1 h2 hA2 (den_undef F)
      · rename_i f args S' hn
        obtain ⟨F, w', h1, h2, xs, h3, h4⟩ := opN_ok hC hI hA hn
        rw [h4, Oper.upon_enter]
        obtain ⟨l, hl, hg⟩ := bindL_some h
        refine (hS.call hl (.refl F) (fun y hy => hy) h2 h3).mono ?_
        rintro e w'' ⟨v, S'', G, x, h5, h6, h7, h8, rfl⟩
        obtain ⟨ya, h9, h10⟩ := hg _ h5
        exact fin h9 h10 (h1.trans h6) h7 (hA.mono (h1.trans h6)) h8
      · cases h
end
theorem QS.no_panic {outs : List (SR × SH)} {c : List PanicEntry} : ¬ QS B w0 E outs (.panic c) a w := by
  rintro ⟨x, _, _, _, _, _, _, _, h⟩
  cases x <;> exact h
theorem QS.mono {outs outs' : List (SR × SH)} {e : Exit} (hE : E0.le E) (ho : ∀ y ∈ outs, y ∈ outs') (h : QS B w0 E outs e a w) : QS B w0 E0 outs' e a w := by
  obtain ⟨x, A, S, F, h1, h2, h3, h4, h5⟩ := h
  exact ⟨x, A, S, F, ho _ h1, hE.trans h2, h3, h4, h5⟩
section
variable {ib : FuncId} {rec : Rq → SH → Option (List (SR × SH))} (hC : Cf P ib) (hS : Snd P rec)
include hC hS
theorem sOps_ok {l : List Oper} {all : Array Oper} {outs outs' : List (SR × SH)} (h : sOps P ib rec l all A S = some outs) (hE : E0.le E) (ho : ∀ y ∈ outs, y ∈ outs') (hI : Inv B w0 E S w) (hA : ARel E A a) : wpList P all (QS B w0 E0 outs') l a w := by
  unfold sOps at h
  split at h
  · injection h with h
    subst h
    exact ⟨.nor, A, S, E, ho _ (List.mem_cons_self ..), hE, hI, hA, trivial⟩
  · rename_i o l
    split at h
    · rename_i hw
      obtain ⟨m, hm, hg⟩ := bindL_some h
      simp only [wpList, want_ok hA hw, if_true]
      refine .inl (run1_ok hC hS hm hI hA fun A' S' F a' w' hin h1 h2 h3 => ?_)
      obtain ⟨ya, h4, h5⟩ := hg _ hin
      exact hS.ops h4 (hE.trans h1) (fun y hy => ho y (h5 y hy)) h2 h3
    · rename_i hw
      split at h
      · rename_i A' hp
        simp only [wpList, want_ok hA hw, Bool.false_eq_true, if_false]
        exact hS.ops h hE ho hI (hA.put hp (den_undef E))
      · cases h
    · cases h
theorem sN_ok {all : Array Oper} {i : Nat} {π : PT} {H : List (Nat × Nat × Nat × List SV)} {outs outs' : List (SR × SH)} (h : sN P ib rec all i π H A S = some outs) (hE : E0.le E) (ho : ∀ y ∈ outs, y ∈ outs') (hI : Inv B w0 E S w) (hA : ARel E A a)
    {T : List Tk} {n : Nat} {listed : Array Bool} (hs : Region.noSelect all = true) (hp : planGo all n (listed.setIfInBounds i true) = some π) (hH : HOk E H T) (hT : ∀ t ∈ T, t.2 w) :
    wpOp P all (QS B w0 E0 outs') i (fun a' w' => (∀ t ∈ T.filter (keep all i), t.2 w') ∧ wpAnyX P all (QS B w0 E0 outs') n (T.filter (keep all i)) (listed.setIfInBounds i true) a' w') a w := by
  unfold sN at h
  split at h
  · cases h
  · rename_i o hio
    unfold wpOp
    simp only [hio]
    split at h
    · cases h
    · rename_i hw
      split at h
      · rename_i A' hp'
        simp only [want_ok hA hw, Bool.false_eq_true, if_false]
        refine ⟨fun t ht => hT t (List.mem_filter.1 ht).1, wpAnyX_weak _ (fun t ht => (List.mem_filter.1 ht).1) ?_⟩
        exact hS.any h hE ho hI (hA.put hp' (den_undef E)) hs hp hH hT
      · cases h
    · rename_i hw
      obtain ⟨m, hm, hg⟩ := bindL_some h
      simp only [want_ok hA hw, if_true]
      refine .inl (run1_ok hC hS hm hI hA fun A' S' F a' w' hin h1 h2 h3 => ?_)
      obtain ⟨ya, h4, h5⟩ := hg _ hin
      replace h4 := need_some h4
      obtain ⟨h6, h7⟩ := h4
      have hH' := (hH.mono h1).stay hio
      have hT' := holds_ok h2 h6 hH'
      exact ⟨hT', hS.any h7 (hE.trans h1) (fun y hy => ho y (h5 y hy)) h2 h3 hs hp hH' hT'⟩
theorem sAny_ok {all : Array Oper} {π : PT} {H : List (Nat × Nat × Nat × List SV)} {outs outs' : List (SR × SH)} (h : sAny P ib rec all π H A S = some outs) (hE : E0.le E) (ho : ∀ y ∈ outs, y ∈ outs') (hI : Inv B w0 E S w) (hA : ARel E A a)
    {T : List Tk} {n : Nat} {listed : Array Bool} (hs : Region.noSelect all = true) (hp : planGo all n listed = some π) (hH : HOk E H T) (hT : ∀ t ∈ T, t.2 w) : wpAnyX P all (QS B w0 E0 outs') n T listed a w := by
  have noP : ∀ {c : List PanicEntry} {a1 : Act} {w1 : World} {R : Prop}, QS B w0 E0 outs' (.panic c) a1 w1 → R := fun h => (QS.no_panic h).elim
  rcases planGo_some hp with ⟨rfl, hr, rfl⟩ | ⟨m, rfl, ⟨i, p, rfl, hr, hf, hp'⟩ | ⟨i, p, rfl, hr, hp'⟩ | ⟨i, p, j, q, rfl, hr, hp1, hp2⟩⟩
  · simp only [sAny, Option.some.injEq] at h
    subst h
    exact ⟨hr, .nor, A, S, E, ho _ (List.mem_cons_self ..), hE, hI, hA, trivial⟩
  · simp only [sAny] at h
    split at h
    · cases h
    · rename_i o hio
      split at h
      · cases h
      · rename_i hw
        split at h
        · rename_i A' hpt
          refine wpAnyX_take (v := undef) (F := fun _ => True) hio hs hf hr (fun c a w hq => noP hq) (.inr ⟨want_ok hA hw, rfl⟩) trivial hT (wpAnyX_true _ ?_)
          exact hS.any h hE ho hI (hA.put hpt (den_undef E)) hs hp' hH hT
        · cases h
      · rename_i hw
        split at h
        · rename_i v hv
          obtain ⟨x, h1, h2⟩ := opD_ok hA hv
          split at h
          · rename_i A' hpt
            refine wpAnyX_take (v := x) (F := fun _ => True) hio hs hf hr (fun c a w hq => noP hq) (.inl ⟨want_ok hA hw, fun w _ => h2 w⟩) trivial hT (wpAnyX_true _ ?_)
            exact hS.any h hE ho hI (hA.put hpt h1) hs hp' hH hT
          · cases h
        · split at h
          · rename_i v hh hv
            obtain ⟨id, qq, l⟩ := hh
            obtain ⟨r, xs, x, h1, h2, h3, h4, h5⟩ := opL_ok hI hA hv
            split at h
            · rename_i A' hpt
              refine wpAnyX_take (v := x) (F := fun w => CellsAtW w r qq xs) hio hs hf hr (fun c a w hq => noP hq) (.inl ⟨want_ok hA hw, fun w hw => h5 w hw⟩) h4 hT ?_
              refine hS.any h hE ho hI (hA.put hpt h3) hs hp' ⟨⟨r, xs, h1, h2, rfl⟩, hH⟩ fun t ht => ?_
              rcases List.mem_cons.1 ht with rfl | ht
              · exact h4
              · exact hT t ht
            · cases h
          · cases h
  · simp only [sAny] at h
    refine ⟨fun h0 => (by rw [hr] at h0; cases h0), fun k hk => ?_⟩
    rw [hr] at hk
    rcases List.mem_cons.1 hk with rfl | hk
    · exact sN_ok hC hS h hE ho hI hA hs hp' hH hT
    · cases hk
  · simp only [sAny] at h
    split at h
    · cases h
    · rename_i x hx
      split at h
      · cases h
      · rename_i y hy
        injection h with h
        subst h
        refine ⟨fun h0 => (by rw [hr] at h0; cases h0), fun k hk => ?_⟩
        rw [hr] at hk
        rcases List.mem_cons.1 hk with rfl | hk
        · exact sN_ok hC hS hx hE (fun z hz => ho z (List.mem_append.2 (.inl hz))) hI hA hs hp1 hH hT
        · rcases List.mem_cons.1 hk with rfl | hk
          · exact sN_ok hC hS hy hE (fun z hz => ho z (List.mem_append.2 (.inr hz))) hI hA hs hp2 hH hT
          · cases hk
end
section
variable {rec : Rq → SH → Option (List (SR × SH))} (hS : Snd P rec)
include hS
theorem sCode_loop {c : Code} {outs outs' : List (SR × SH)} (h : sCode rec (.loop c) A S = some outs) (hE : E0.le E) (ho : ∀ y ∈ outs, y ∈ outs') (hI : Inv B w0 E S w) (hA : ARel E A a) : LoopWp P c (QS B w0 E0 outs') a w := by
  simp only [sCode] at h
  obtain ⟨l, hl, hg⟩ := bindL_some h
  refine loopWp_of (wp_mono (hS.code hl (.refl E) (fun y hy => hy) hI hA) ?_)
  rintro e a1 w1 ⟨x, A1, S1, F, h1, h2, h3, h4, h5⟩
  obtain ⟨ya, h6, h7⟩ := hg _ h1
  cases x with
  | nor =>
    cases e <;> first | exact h5.elim | skip
    exact hS.loop h6 (hE.trans h2) (fun y hy => ho y (h7 y hy)) h3 h4
  | ex id =>
    cases e <;> first | exact h5.elim | skip
    injection h6 with h6
    subst h6
    exact ⟨_, A1, S1, F, ho _ (h7 _ (List.mem_cons_self ..)), hE.trans h2, h3, h4, h5⟩
  | ret =>
    cases e <;> first | exact h5.elim | skip
    injection h6 with h6
    subst h6
    exact ⟨_, A1, S1, F, ho _ (h7 _ (List.mem_cons_self ..)), hE.trans h2, h3, h4, h5⟩
theorem sCode_ok (hm : P.follows .mixedOrders = true) {c : Code} {outs outs' : List (SR × SH)} (h : sCode rec c A S = some outs) (hE : E0.le E) (ho : ∀ y ∈ outs, y ∈ outs') (hI : Inv B w0 E S w) (hA : ARel E A a) : c.wp P (QS B w0 E0 outs') a w := by
  cases c with
  | skip =>
    simp only [sCode, Option.some.injEq] at h
    subst h
    exact wp_skip ⟨.nor, A, S, E, ho _ (List.mem_cons_self ..), hE, hI, hA, trivial⟩
  | region id ops d =>
    cases d with
    | false =>
      simp only [sCode] at h
      exact wp_region_list (hS.ops h hE ho hI hA)
    | true =>
      simp only [sCode] at h
      split at h
      · rename_i π hp
        unfold plan at hp
        obtain ⟨h1, h2⟩ := need_some hp
        have hI' : Inv B w0 E S { w with drawn := w.drawn + 1 } := hI.drew rfl rfl rfl rfl
        exact wp_region_any hm (wpAny_of_X _ [] _ _ _ (hS.any h hE ho hI' hA h1 h2 trivial (fun t ht => by cases ht)))
      · cases h
  | seq x y =>
    simp only [sCode] at h
    obtain ⟨l, hl, hg⟩ := bindL_some h
    refine wp_seq (wp_mono (hS.code hl (.refl E) (fun y hy => hy) hI hA) ?_)
    rintro e a1 w1 ⟨x, A1, S1, F, h1, h2, h3, h4, h5⟩
    obtain ⟨ya, h6, h7⟩ := hg _ h1
    cases x with
    | nor =>
      cases e <;> first | exact h5.elim | skip
      exact hS.code h6 (hE.trans h2) (fun y hy => ho y (h7 y hy)) h3 h4
    | ex id =>
      cases e <;> first | exact h5.elim | skip
      injection h6 with h6
      subst h6
      exact ⟨_, A1, S1, F, ho _ (h7 _ (List.mem_cons_self ..)), hE.trans h2, h3, h4, h5⟩
    | ret =>
      cases e <;> first | exact h5.elim | skip
      injection h6 with h6
      subst h6
      exact ⟨_, A1, S1, F, ho _ (h7 _ (List.mem_cons_self ..)), hE.trans h2, h3, h4, h5⟩
  | cond x b c =>
    simp only [sCode] at h
    split at h
    · rename_i hx
      have := hA.ev hx
      simp only [den, Option.some.injEq] at this
      exact wp_cond_true this.symm (hS.code h hE ho hI hA)
    · rename_i hx
      have := hA.ev hx
      simp only [den, Option.some.injEq] at this
      exact wp_cond_false this.symm (hS.code h hE ho hI hA)
    · cases h
  | block id c =>
    simp only [sCode] at h
    obtain ⟨l, hl, hg⟩ := bindL_some h
    refine wp_block (wp_mono (hS.code hl (.refl E) (fun y hy => hy) hI hA) ?_)
    rintro e a1 w1 ⟨x, A1, S1, F, h1, h2, h3, h4, h5⟩
    obtain ⟨ya, h6, h7⟩ := hg _ h1
    cases x with
    | nor =>
      cases e <;> first | exact h5.elim | skip
      injection h6 with h6
      subst h6
      exact ⟨_, A1, S1, F, ho _ (h7 _ (List.mem_cons_self ..)), hE.trans h2, h3, h4, h5⟩
    | ex k =>
      cases e <;> first | exact h5.elim | skip
      rename_i k'
      have hk : k = k' := h5
      subst hk
      simp only at h6
      split at h6
      · rename_i he
        have he := eqB he
        subst he
        injection h6 with h6
        subst h6
        simp only [Exit.inBlock, if_true]
        exact ⟨.nor, A1, S1, F, ho _ (h7 _ (List.mem_cons_self ..)), hE.trans h2, h3, h4, trivial⟩
      · rename_i he
        have hne : k ≠ id := fun e0 => by subst e0; rw [Nat.beq_refl] at he; cases he
        injection h6 with h6
        subst h6
        simp only [Exit.inBlock, if_neg hne]
        exact ⟨_, A1, S1, F, ho _ (h7 _ (List.mem_cons_self ..)), hE.trans h2, h3, h4, h5⟩
    | ret =>
      cases e <;> first | exact h5.elim | skip
      injection h6 with h6
      subst h6
      exact ⟨_, A1, S1, F, ho _ (h7 _ (List.mem_cons_self ..)), hE.trans h2, h3, h4, h5⟩
  | loop c => exact wp_of_loopWp (sCode_loop hS h hE ho hI hA)
  | exit id =>
    simp only [sCode, Option.some.injEq] at h
    subst h
    exact wp_exit ⟨.ex id, A, S, E, ho _ (List.mem_cons_self ..), hE, hI, hA, rfl⟩
  | label l =>
    simp only [sCode, Option.some.injEq] at h
    subst h
    exact wp_label ⟨.nor, A, S, E, ho _ (List.mem_cons_self ..), hE, hI, hA, trivial⟩
  | scope b =>
    simp only [sCode] at h
    refine wp_scope_straight (wp_mono (hS.code h hE ho hI hA) ?_)
    rintro e a1 w1 ⟨x, A1, S1, F, h1, h2, h3, h4, h5⟩
    cases e with
    | goto l => cases x <;> exact h5.elim
    | _ => exact ⟨x, A1, S1, F, h1, h2, h3, h4, h5⟩
  | ret =>
    simp only [sCode, Option.some.injEq] at h
    subst h
    exact wp_ret ⟨.ret, A, S, E, ho _ (List.mem_cons_self ..), hE, hI, hA, trivial⟩
  | _ => cases h
end
theorem argT_get : ∀ (l : List SV) (k : Nat) (t : Tr SV) (j : Nat), k + l.length < 1000000 → (argT l k t).get j = if k ≤ j ∧ j < k + l.length then l[j - k]? else t.get j
  | [], k, t, j, _ => by
    simp only [argT, List.length_nil]
    rw [if_neg (by omega)]
  | v :: l, k, t, j, h => by
    simp only [argT, List.length_cons] at h ⊢
    rw [argT_get l (k + 1) _ j (by omega)]
    by_cases h1 : k + 1 ≤ j ∧ j < k + 1 + l.length
    · rw [if_pos h1, if_pos (by omega)]
      have : j - k = j - (k + 1) + 1 := by omega
      rw [this, List.getElem?_cons_succ]
    · rw [if_neg h1]
      by_cases h2 : j = k
      · subst h2
        rw [Tr.put_same _ _ _ (by omega), if_pos (by omega)]
        simp
      · rw [Tr.put_other _ _ h2, if_neg (by omega)]
theorem enter_ok (hI : Inv B w0 E S w) {args : List SV} {xs : List Value} (hd : denL E args = some xs) (hl : args.length < 1000) (n : Nat) :
    ARel E { t := argT args 0 .lf, n := args.length + (n - args.length), df := [] } { tmps := xs.toArray ++ Array.replicate (n - xs.toArray.size) undef, defers := [] } := by
  obtain ⟨h1, h2⟩ := denL_some hd
  refine ⟨hI.glob, by simp [h1], fun t v hv => ?_, trivial⟩
  simp only at hv
  rw [argT_get args 0 .lf t (by omega)] at hv
  split at hv
  · rename_i ht
    obtain ⟨y, h3, h4⟩ := h2 _ v hv
    refine ⟨y, h3, ?_⟩
    simp only [Nat.sub_zero] at h4
    have hlt : t < xs.length := (List.getElem?_eq_some_iff.1 h4).1
    rw [Array.getElem?_append_left (by simpa using hlt)]
    simpa using h4
  · rw [Tr.get_lf] at hv
    cases hv
theorem load_ok (hI : Inv B w0 E S w) {t : TypeId} {x v : SV} (h : sLoad P S t x = some v) {b : Value} (hb : den E x = some b) : ∃ ad z, b = .pointer (some ad) ∧ den E v = some z ∧ (loadVar t ad).run P w = .ok z w := by
  unfold sLoad at h
  split at h
  · rename_i id q
    obtain ⟨r, hr, rfl⟩ := den_pt hb
    split at h
    · rename_i ro cs sp hg
      obtain ⟨r', arr, ty, hr', hB, hw, hc, -⟩ := hI.blk _ _ hg
      rw [hr] at hr'
      injection hr' with hr'
      subst hr'
      refine ⟨⟨r, q, none⟩, ?_⟩
      unfold partS at h
      split at h
      · rename_i ha
        split at h
        · rename_i n hn
          split at h
          · rename_i l hs
            injection h with h
            subst h
            obtain ⟨xs, h5, h6, -, h7⟩ := cells_seg hw hc hs
            have hld := run_loadCells_list (P := P) w ⟨r, q, none⟩ xs (fun j v hj => by rw [add_eq]; exact h7 j v hj)
            rw [h6] at hld
            exact ⟨.agg xs.toArray, rfl, by simp [den, h5], by simp [loadVar, rAgg ha, rSz hn, hld]⟩
          · cases h
        · cases h
      · rename_i ha
        obtain ⟨x', h5, -, h6⟩ := hc _ _ h
        have hcl : w.cell? ⟨r, q, none⟩ = some x' := by rw [cell_of_cells hw]; exact h6
        exact ⟨x', rfl, h5, by simp [loadVar, rAgg ha, hcl]⟩
      · cases h
    · cases h
  · cases h
/-- What is read of one result. -/
def rd1 (tmps : Array Value) : ResultVar → Sem Value
  | .tmp t => pure (tmps.getD t undef)
  | .cell a t => do loadVar t (← asAddr (tmps.getD a undef))
theorem res1_ok (hI : Inv B w0 E S w) (hA : ARel E A a) {r : ResultVar} {v : SV} (h : sRes1 P A S r = some v) : ∃ z, den E v = some z ∧ (rd1 a.tmps r).run P w = .ok z w := by
  cases r with
  | tmp t =>
    have := hA.ev (x := .tmp t) h
    exact ⟨_, this, rfl⟩
  | cell q t =>
    simp only [sRes1] at h
    split at h
    · rename_i x hx
      have h1 := hA.ev (x := .tmp q) hx
      obtain ⟨ad, z, h2, h3, h4⟩ := load_ok hI h h1
      refine ⟨z, h3, ?_⟩
      have h5 : a.tmps.getD q undef = .pointer (some ad) := h2
      simp [rd1, h5, asAddr, h4]
    · cases h
theorem resL_ok (hI : Inv B w0 E S w) (hA : ARel E A a) : ∀ {l : List ResultVar} {vs : List SV}, mapO (sRes1 P A S) l = some vs → ∃ zs, denL E vs = some zs ∧ (l.mapM (rd1 a.tmps)).run P w = .ok zs w
  | [], vs, h => by simp only [mapO, Option.some.injEq] at h; subst h; exact ⟨[], rfl, rfl⟩
  | r :: l, vs, h => by
    simp only [mapO] at h
    split at h
    · cases h
    · rename_i v hv
      split at h
      · cases h
      · rename_i vs' hvs
        injection h with h
        subst h
        obtain ⟨z, h1, h2⟩ := res1_ok hI hA hv
        obtain ⟨zs, h3, h4⟩ := resL_ok hI hA hvs
        exact ⟨z :: zs, by simp [denL, h1, h3], by simp [List.mapM_cons, h2, h4]⟩
theorem res_ok (hI : Inv B w0 E S w) (hA : ARel E A a) {fn : Func} {v : SV} (h : sRes P fn A S = some v) : ∃ z, den E v = some z ∧ (results fn a.tmps).run P w = .ok z w := by
  have hres : ∀ zs : List Value, (fn.results.toList.mapM (rd1 a.tmps)).run P w = .ok zs w → (results fn a.tmps).run P w = .ok (if h : zs.toArray.size = 1 then zs.toArray[0] else .tuple zs.toArray) w := by
    intro zs hz
    have e : (fun x => match x with | .tmp t => pure (a.tmps.getD t undef) | .cell q t => do loadVar t (← asAddr (a.tmps.getD q undef)) : ResultVar → Sem Value) = rd1 a.tmps := by
      funext x; cases x <;> rfl
    have h1 : (results fn a.tmps).run P w = (fn.results.mapM (rd1 a.tmps) >>= fun vs => pure (if h : vs.size = 1 then vs[0] else .tuple vs)).run P w := by
      unfold results
      rw [← e]
      rfl
    rw [h1, Sem.run_bind, Array.mapM_eq_mapM_toList, Sem.run_map, hz]
    rfl
  unfold sRes at h
  split at h
  · rename_i u hu
    injection h with h
    subst h
    obtain ⟨zs, h1, h2⟩ := resL_ok hI hA hu
    simp only [denL] at h1
    split at h1
    · rename_i z hz
      simp only [Option.some.injEq] at h1
      subst h1
      exact ⟨z, hz, hres _ h2⟩
    · cases h1
  · rename_i l hne hu
    injection h with h
    subst h
    obtain ⟨zs, h1, h2⟩ := resL_ok hI hA hu
    refine ⟨.tuple zs.toArray, by simp [den, h1], ?_⟩
    rw [hres _ h2, dif_neg]
    intro h3
    have h4 := (denL_some h1).1
    simp only [List.size_toArray] at h3
    rw [h3] at h4
    obtain ⟨u, rfl⟩ := List.length_eq_one_iff.1 h4.symm
    exact hne u rfl
  · cases h
/-- What is asked of the functions that a call may leave by. -/
def Dk (P : Program) (dk : FuncId → Bool) : Prop := ∀ g, dk g = true → (∃ fn c, P.funcs[g]? = some fn ∧ fn.body = some c) ∧
  ∀ args w, args.size = 3 → CallsD P g args .returning w fun e u' w' => (∃ v, e = .returned v) ∧ u' = .returning ∧ Below w.heap.size w w'
theorem sCall_ok {ib : FuncId} {dk : FuncId → Bool} {rec : Rq → SH → Option (List (SR × SH))} (hC : Cf P ib) (hD : Dk P dk) (hS : Snd P rec) {f : FuncId} {args : List SV} {outs outs' : List (SR × SH)} (h : sCall P dk rec f args S = some outs)
    (hE : E0.le E) (ho : ∀ y ∈ outs, y ∈ outs') (hI : Inv B w0 E S w) {xs : List Value} (hd : denL E args = some xs) : Calls P f xs.toArray w (CS B w0 E0 outs') := by
  unfold sCall at h
  split at h
  · cases h
  · rename_i fn hf
    split at h
    · cases h
    · rename_i c hc
      replace h := need_some h
      obtain ⟨hl, h⟩ := h
      have hl := ltB hl
      obtain ⟨l, hcode, hg⟩ := bindL_some h
      refine calls_of_wp_defers hf hc ?_
      refine wp_mono (hS.code hcode (.refl E) (fun y hy => hy) hI (enter_ok hI hd hl fn.ntmps)) ?_
      rintro e a1 w1 ⟨x, A1, S1, F, h1, h2, h3, h4, h5⟩
      obtain ⟨ya, h6, h7⟩ := hg _ h1
      have fin : ∀ {yb : List (SR × SH)}, sEnd P fn A1 S1 = some yb → (∀ y ∈ yb, y ∈ ya) → ∀ {w2 : World}, Inv B w0 F S1 w2 → ∃ v, (results fn a1.tmps).run P w2 = .ok v w2 ∧ CS B w0 E0 outs' (.returned v) w2 := by
        intro yb h8 h9 w2 hI2
        unfold sEnd at h8
        split at h8
        · rename_i v hv
          injection h8 with h8
          subst h8
          obtain ⟨z, h10, h11⟩ := res_ok hI2 h4 hv
          exact ⟨z, h11, v, S1, F, z, ho _ (h7 _ (h9 _ (List.mem_cons_self ..))), hE.trans h2, hI2, h10, rfl⟩
        · cases h8
      have leave : sLeave P dk fn (.x x A1, S1) = some ya → (∀ i, x ≠ .ex i) → Leaves P fn a1.tmps (CS B w0 E0 outs') a1.defers .returning w1 := by
        intro h8 h9
        have h8 : (match A1.df with
          | [] => sEnd P fn A1 S1
          | [(g, l)] => need (dk g && Nat.beq l.length 3) (sEnd P fn A1 S1)
          | _ => none) = some ya := by
          cases x with
          | nor => exact h8
          | ret => exact h8
          | ex i => exact absurd rfl (h9 i)
        have hdf := h4.df
        split at h8
        · rename_i hdn
          rw [hdn] at hdf
          cases hdd : a1.defers with
          | nil => exact fin h8 (fun y hy => hy) h3
          | cons d ds => rw [hdd] at hdf; exact hdf.elim
        · rename_i g l' hdn
          rw [hdn] at hdf
          replace h8 := need_some h8
          obtain ⟨hdk, h8⟩ := h8
          obtain ⟨hdk, hl3⟩ := and2 hdk
          have hl3 := eqB hl3
          obtain ⟨⟨fn', c', hf', hc'⟩, hcd⟩ := hD g hdk
          cases hdd : a1.defers with
          | nil => rw [hdd] at hdf; exact hdf.elim
          | cons d ds =>
            rw [hdd] at hdf
            obtain ⟨⟨cap, h10, h11⟩, h12⟩ := hdf
            cases ds with
            | cons d' ds' => exact h12.elim
            | nil =>
              refine ⟨by simp, .func g, cap, g, d.args ++ cap, h10, ?_, ?_⟩
              · rw [h10]
                exact hC.own g fn' c' _ _ hf' hc'
              · intro c0 cs0 hu
                obtain ⟨e2, u2, w2, fr, ⟨⟨v2, rfl⟩, rfl, hb2⟩, h13, h14⟩ := hcd (d.args ++ cap) w1 (by have := (denL_some h11).1; simp at this; simp; omega) c0 cs0 hu
                exact ⟨.returned v2, .returning, w2, fr, fin h8 (fun y hy => hy) (h3.on hb2), h13, h14⟩
        · cases h8
      cases e with
      | normal =>
        cases x <;> first | exact h5.elim | exact leave h6 (fun i h => by cases h)
      | ret =>
        cases x <;> first | exact h5.elim | exact leave h6 (fun i h => by cases h)
      | exit j =>
        cases x <;> first | exact h5.elim | skip
        simp only [sLeave] at h6
        cases h6
      | _ => cases x <;> exact h5.elim
/-- WHAT THE SYMBOLIC MACHINE RECKONS, THE PROGRAM DOES. -/
theorem go_ok {ib : FuncId} {dk : FuncId → Bool} (hm : P.follows .mixedOrders = true) (hC : Cf P ib) (hD : Dk P dk) : ∀ n, Snd P (go P ib dk n)
  | 0 => by
    constructor
    · intro c A S outs h
      cases h
    · intro c A S outs h
      cases h
    · intro l all A S outs h
      cases h
    · intro all π H A S outs h
      cases h
    · intro f args S outs h
      cases h
  | n + 1 => by
    have hS := go_ok hm hC hD n
    constructor
    · intro c A S outs h B w0 E E0 w a outs' hE ho hI hA
      exact sCode_ok hS hm h hE ho hI hA
    · intro c A S outs h B w0 E E0 w a outs' hE ho hI hA
      exact sCode_loop hS h hE ho hI hA
    · intro l all A S outs h B w0 E E0 w a outs' hE ho hI hA
      exact sOps_ok hC hS h hE ho hI hA
    · intro all π H A S outs h B w0 E E0 w a outs' T n' listed hE ho hI hA hs hp hH hT
      exact sAny_ok hC hS h hE ho hI hA hs hp hH hT
    · intro f args S outs h B w0 E E0 w xs outs' hE ho hI hd
      exact sCall_ok hC hD hS h hE ho hI hd
end
end Sy
end Go.Proofs.YtfhcngnmgfkdkaaGreatDoor
