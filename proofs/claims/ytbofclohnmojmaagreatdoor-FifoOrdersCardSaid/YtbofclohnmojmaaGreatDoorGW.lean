/- The law FifoOrders, plain. -/
import Derived.Test.YtbofclohnmojmaaGreatDoorGU
namespace Go.Proofs.YtbofclohnmojmaaGreatDoor
open Go.RowKit
open Go.Sort (grow)

/-- The waiting events are, in their order, among those that were sent. -/
inductive EmbR (all : List Sn) : List En → List Nat → Prop
  | nil : EmbR all [] []
  | cons {x : En} {l : List En} {p : Nat} {P : List Nat} (y : Sn) : all[p]? = some y → y.id = x.ev.id → y.key = x.ev.key → y.gone = false → (∀ p' ∈ P, p < p') → EmbR all l P → EmbR all (x :: l) (p :: P)
section
variable {all all' : List Sn} {l l' : List En} {P : List Nat}
theorem EmbR.sub (h : EmbR all l P) : ∀ {l'}, l'.Sublist l → ∃ P', P'.Sublist P ∧ EmbR all l' P' := by
  induction h with
  | nil => intro l' hs; rw [List.sublist_nil] at hs; subst hs; exact ⟨[], List.Sublist.refl _, .nil⟩
  | @cons x l p P y h1 h2 h3 h4 h5 h6 ih =>
    intro l' hs
    cases hs with
    | cons _ hs =>
      obtain ⟨P', hp, he⟩ := ih hs
      exact ⟨P', hp.cons _, he⟩
    | cons_cons _ hs =>
      obtain ⟨P', hp, he⟩ := ih hs
      exact ⟨p :: P', hp.cons_cons _, .cons y h1 h2 h3 h4 (fun p' h' => h5 p' (hp.subset h')) he⟩
theorem EmbR.at_ (h : EmbR all l P) : ∀ {i : Nat} {x : En}, l[i]? = some x → ∃ (p : Nat) (y : Sn), P[i]? = some p ∧ all[p]? = some y ∧ y.id = x.ev.id ∧ y.key = x.ev.key ∧ y.gone = false := by
  induction h with
  | nil => intro i x hx; simp at hx
  | @cons x l p P y h1 h2 h3 h4 h5 h6 ih =>
    intro i x' hx
    cases i with
    | zero => simp at hx; subst hx; exact ⟨p, y, rfl, h1, h2, h3, h4⟩
    | succ i => exact ih (i := i) (by simpa using hx)
theorem EmbR.back (h : EmbR all l P) : ∀ {i p : Nat}, P[i]? = some p → ∃ (x : En) (y : Sn), l[i]? = some x ∧ all[p]? = some y ∧ y.id = x.ev.id := by
  induction h with
  | nil => intro i p hx; simp at hx
  | @cons x l p P y h1 h2 h3 h4 h5 h6 ih =>
    intro i p' hx
    cases i with
    | zero => simp at hx; subst hx; exact ⟨x, y, rfl, h1, h2⟩
    | succ i => exact ih (i := i) (by simpa using hx)
theorem EmbR.lt (h : EmbR all l P) : ∀ {i j p p' : Nat}, i < j → P[i]? = some p → P[j]? = some p' → p < p' := by
  induction h with
  | nil => intro i j p p' _ hx; simp at hx
  | @cons x l p P y h1 h2 h3 h4 h5 h6 ih =>
    intro i j a b hij ha hb
    cases j with
    | zero => omega
    | succ j =>
      cases i with
      | zero => simp at ha; subst ha; exact h5 b (List.mem_of_getElem? (by simpa using hb))
      | succ i => exact ih (i := i) (j := j) (by omega) (by simpa using ha) (by simpa using hb)
theorem EmbR.keep (h : EmbR all l P) : (∀ p ∈ P, all'[p]? = all[p]?) → EmbR all' l P := by
  induction h with
  | nil => intro _; exact .nil
  | @cons x l p P y h1 h2 h3 h4 h5 h6 ih =>
    intro hk
    exact .cons y (by rw [hk p (List.mem_cons_self ..)]; exact h1) h2 h3 h4 h5 (ih fun p' hp => hk p' (List.mem_cons_of_mem _ hp))
theorem EmbR.bnd (h : EmbR all l P) {p : Nat} (hp : p ∈ P) : p < all.length := by
  obtain ⟨i, hi⟩ := List.getElem?_of_mem hp
  obtain ⟨x, y, _, hy, _⟩ := h.back hi
  exact (List.getElem?_eq_some_iff.1 hy).1
theorem EmbR.snoc (h : EmbR all l P) : ∀ {x : En} {p : Nat} {y : Sn}, all[p]? = some y → y.id = x.ev.id → y.key = x.ev.key → y.gone = false → (∀ p' ∈ P, p' < p) → EmbR all (l ++ [x]) (P ++ [p]) := by
  induction h with
  | nil => intro x p y h1 h2 h3 h4 _; exact .cons y h1 h2 h3 h4 (by simp) .nil
  | @cons x l p P y h1 h2 h3 h4 h5 h6 ih =>
    intro x' p' y' g1 g2 g3 g4 g5
    refine .cons y h1 h2 h3 h4 (fun q hq => ?_) (ih g1 g2 g3 g4 fun q hq => g5 q (List.mem_cons_of_mem _ hq))
    rcases List.mem_append.1 hq with hq | hq
    · exact h5 q hq
    · rw [List.mem_singleton] at hq; subst hq; exact g5 p (List.mem_cons_self ..)
theorem EmbR.map (h : EmbR all l P) : ∀ {l' : List En}, (l'.map fun x => (x.ev.id, x.ev.key)) = (l.map fun x => (x.ev.id, x.ev.key)) → EmbR all l' P := by
  induction h with
  | nil =>
    intro l' hm
    have h0 : l' = [] := by simpa using hm
    subst h0
    exact .nil
  | @cons x l p P y h1 h2 h3 h4 h5 h6 ih =>
    intro l' hm
    cases l' with
    | nil => simp at hm
    | cons x' l' =>
      simp only [List.map_cons, List.cons.injEq, Prod.mk.injEq] at hm
      exact .cons y h1 (h2.trans hm.1.1.symm) (h3.trans hm.1.2.symm) h4 h5 (ih hm.2)
end
/-! ### receipts -/
theorem let_no {c : UInt8} (h : letB c.toNat = true) : c.toNat ≠ 35 := by
  intro e
  rw [e] at h
  revert h
  decide
theorem idL_no35 {s : ByteArray} (h : idL s = true) : (35 : UInt8) ∉ s.data.toList := by
  intro hm
  unfold idL at h
  rw [Bool.and_eq_true] at h
  have := List.all_eq_true.1 h.2 _ hm
  exact let_no this rfl
theorem split_at {a b a' b' : List UInt8} {c : UInt8} (h : a ++ c :: b = a' ++ c :: b') (ha : c ∉ a) (ha' : c ∉ a') : a = a' ∧ b = b' := by
  induction a generalizing a' with
  | nil =>
    cases a' with
    | nil => simpa using h
    | cons x a' => simp at h; exact absurd h.1 (fun e => ha' (by simp [e]))
  | cons y a ih =>
    cases a' with
    | nil => simp at h; exact absurd h.1 (fun e => ha (by simp [e]))
    | cons x a' =>
      simp only [List.cons_append, List.cons.injEq] at h
      obtain ⟨h1, h2⟩ := ih h.2 (fun hm => ha (List.mem_cons_of_mem _ hm)) (fun hm => ha' (List.mem_cons_of_mem _ hm))
      exact ⟨by rw [h.1, h1], h2⟩
theorem rcp_list (id : ByteArray) (n : Int) : (rcpS id n).data.toList = id.data.toList ++ 35 :: Lib.itoa n := by
  unfold rcpS
  simp [ByteArray.data_append]
theorem ba_ext2 {a b : ByteArray} (h : a.data.toList = b.data.toList) : a = b := by
  cases a with
  | mk a => cases b with
    | mk b => exact congrArg ByteArray.mk (Array.toList_inj.1 h)
theorem rcp_inj {a b : ByteArray} {n m : Int} (ha : idL a = true) (hb : idL b = true) (h : rcpS a n = rcpS b m) : a = b := by
  have h1 := congrArg (fun s => s.data.toList) h
  simp only [rcp_list] at h1
  exact ba_ext2 (split_at h1 (idL_no35 ha) (idL_no35 hb)).1
theorem rc_parts (rc : ByteArray) (m : Nat) (hm : m < rc.size) (h35 : ((rc.data[m]!).toNat : Int) = 35) : rc.data.toList = (rc.extract 0 m).data.toList ++ 35 :: (rc.extract (m + 1) rc.size).data.toList := by
  have hl : rc.data.toList.length = rc.size := by simp
  have h1 : rc.data.toList[m]? = some 35 := by
    have e : rc.data[m]! = rc.data.toList[m]'(by omega) := by
      rw [getElem!_pos rc.data m (by simpa using hm)]
      simp
    rw [List.getElem?_eq_getElem (by omega), ← e]
    congr 1
    exact UInt8.toNat_inj.1 (by have : (rc.data[m]!).toNat = 35 := by omega
                                rw [this]; rfl)
  have h2 : (rc.extract 0 m).data.toList = rc.data.toList.take m := by simp [ByteArray.data_extract]
  have h3 : (rc.extract (m + 1) rc.size).data.toList = rc.data.toList.drop (m + 1) := by
    simp only [ByteArray.data_extract, Array.toList_extract, List.extract_eq_take_drop]
    exact List.take_of_length_le (by rw [List.length_drop, hl]; omega)
  rw [h2, h3]
  conv => lhs; rw [← List.take_append_drop m rc.data.toList]
  congr 1
  rw [List.drop_eq_getElem_cons (by omega)]
  congr 1
  rw [List.getElem?_eq_getElem (by omega)] at h1
  injection h1
/-- The receipt that finds an entry is the one that it was delivered with. -/
theorem fnd_rc {now : Int} {l : List En} {rc : ByteArray} (h : (fndS now l rc).2 = 0) : ∃ (i : Nat) (x : En), fndS now l rc = ((i : Int), 0) ∧ l[i]? = some x ∧ rc = rcpS x.ev.id x.rcv ∧ 1 ≤ x.rcv := by
  unfold fndS at h ⊢
  rcases Lib.lastIndexByte_spec rc 35 with ⟨hat, -⟩ | ⟨m, hmz, hat, hm35, -⟩
  · rw [hat] at h
    simp at h
  · rw [hat] at h ⊢
    rw [if_neg (by omega)] at h ⊢
    simp only [Int.toNat_natCast] at h ⊢
    split at h
    · simp at h
    · rename_i hp
      rw [if_neg hp]
      cases hf : l.findIdx? (fun x => eqS x.ev.id (rc.extract 0 m)) with
      | none => rw [hf] at h; simp at h
      | some i =>
        rw [hf] at h
        simp only at h ⊢
        obtain ⟨hil, hie, -⟩ := List.findIdx?_eq_some_iff_getElem.1 hf
        have hx := List.getElem?_eq_getElem hil
        unfold fndE at h ⊢
        rw [hx] at h ⊢
        simp only at h ⊢
        split at h
        · simp at h
        · rename_i h1
          split at h
          · simp at h
          · rename_i h2
            rw [if_neg h1, if_neg h2]
            refine ⟨i, l[i], rfl, hx, ?_, by omega⟩
            have hid : l[i].ev.id = rc.extract 0 m := (eqS_iff _ _).1 hie
            have hn : (parI (rc.extract (m + 1) rc.size).data.toList).1 = l[i].rcv := by
              by_cases he : (parI (rc.extract (m + 1) rc.size).data.toList).1 = l[i].rcv
              · exact he
              · exact absurd (.inl he) h2
            have hp0 : (parI (rc.extract (m + 1) rc.size).data.toList).2 = 0 := by
              by_cases he : (parI (rc.extract (m + 1) rc.size).data.toList).2 = 0
              · exact he
              · exact absurd he hp
            have hit : Lib.itoa l[i].rcv = (rc.extract (m + 1) rc.size).data.toList := by
              rw [← hn]
              unfold parI at hp0 ⊢
              split at hp0
              · rename_i hd
                split at hp0
                · rename_i hb
                  rw [if_pos hd, if_pos hb]
                  exact dec_itoa _ hd
                · simp at hp0
              · simp at hp0
            refine ba_ext2 ?_
            rw [rcp_list, hit, hid]
            exact rc_parts rc m hmz hm35
end Go.Proofs.YtbofclohnmojmaaGreatDoor
