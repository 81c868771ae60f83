/- Records in order: the plain law. -/
import Derived.Test.YtojghgeemdpmpaaMCT0
namespace Go.Proofs.Ytojghgeemdpmpaa
open Go.RowKit
open BO (RP inB nxI)

/-- What holds between two rounds. -/
structure OrdInv (F : Int) (C : Nat) (s : MS) (nx now : Int) : Prop where
  e : s.e = 0
  sh : s.sh = 0
  fl : s.fl = 0
  lo : F ≤ nx
  hi : nx ≤ F + C
  at_ : s.nx = nx ∨ (s.nx = 0 ∧ nx = F)
  nw : 0 ≤ now
  fi : s.fi ≤ now
theorem recsR_get {a : Int} {n i : Nat} (h : i < n) : (recsR a n)[i]? = some (rec0 (a + i)) := by simp [recsR, h]
theorem pre_recs {a : Int} : ∀ {n : Nat} {b r : List Rec}, recsR a n = b ++ r → b = recsR a b.length ∧ b.length ≤ n := by
  intro n b r h
  have hl : n = b.length + r.length := by have := congrArg List.length h; simpa [recsR_length] using this
  refine ⟨List.ext_getElem? fun i => ?_, by omega⟩
  rcases Nat.lt_or_ge i b.length with hi | hi
  · rw [recsR_get hi, ← recsR_get (n := n) (by omega), h, List.getElem?_append_left hi]
  · rw [List.getElem?_eq_none hi, List.getElem?_eq_none (by rw [recsR_length]; exact hi)]
theorem candF_recs (a F : Int) (C : Nat) (h : a ≤ F) : candF a (recsR F C) = recsR F C := by
  unfold candF
  rw [List.filter_eq_self]
  intro x hx
  obtain ⟨i, hi, rfl⟩ : ∃ i, i < C ∧ rec0 (F + (i : Nat)) = x := by simpa [recsR] using hx
  exact decide_eq_true (show a ≤ F + (i : Int) by omega)
theorem candF_recs2 (a F : Int) : ∀ (C : Nat), F ≤ a → a ≤ F + C → candF a (recsR F C) = recsR a (F + C - a).toNat := by
  intro C
  induction C with
  | zero =>
    intro h1 h2
    have : (F + (0 : Nat) - a).toNat = 0 := by omega
    rw [this]
    rfl
  | succ C ih =>
    intro h1 h2
    rw [recsR_snoc]
    unfold candF at ih ⊢
    rw [List.filter_append]
    by_cases h3 : a ≤ F + C
    · rw [ih h1 h3]
      have e1 : (F + ((C + 1 : Nat) : Int) - a).toNat = (F + (C : Int) - a).toNat + 1 := by omega
      rw [e1, recsR_snoc]
      have e2 : a + ((F + (C : Int) - a).toNat : Int) = F + C := by omega
      rw [e2]
      have e3 : decide (a ≤ F + (C : Int)) = true := decide_eq_true h3
      simp [rec0, e3]
    · have e1 : (F + ((C + 1 : Nat) : Int) - a).toNat = 0 := by omega
      rw [e1]
      have e2 : (recsR F C).filter (fun x => decide (a ≤ x.seq)) = [] := by
        rw [List.filter_eq_nil_iff]
        intro x hx
        obtain ⟨i, hi, rfl⟩ : ∃ i, i < C ∧ rec0 (F + (i : Nat)) = x := by simpa [recsR] using hx
        exact fun hh => absurd (of_decide_eq_true hh) (show ¬ a ≤ F + (i : Int) by omega)
      rw [e2]
      simp [rec0, recsR]
      omega
section
variable {F : Int} {C : Nat} {s : MS} {nx now now' : Int} {p : Pol} {r : RP}
theorem OrdInv.candF (h : OrdInv F C s nx now) (hF : 0 ≤ F) : candF s.nx (recsR F C) = recsR nx (F + C - nx).toNat := by
  rcases h.at_ with h1 | ⟨h1, h2⟩
  · rw [h1]; exact candF_recs2 nx F C h.lo h.hi
  · rw [h1, candF_recs 0 F C hF, h2]
    have : (F + (C : Int) - F).toNat = C := by omega
    rw [this]
theorem ordB_recs (F : Int) (C : Nat) (hF : 0 ≤ F ∧ F ≤ 65535) (hC : C ≤ 255) : ordB 0 (recsR F C) = true := by
  unfold ordB
  rw [List.all_eq_true]
  intro k hk
  have hk2 : k < C := by simpa [recsR_length] using hk
  unfold badAt
  rw [recsR_get hk2, recsR_get (show k - 1 < C by omega)]
  simp only
  unfold bad2 rec0
  simp only
  by_cases h0 : 0 < k
  · have e1 : IntKind.i64.wrap (F + (k : Int) - 1) = F + ((k - 1 : Nat) : Int) := by rw [IntWalk.i64_in _ (by omega)]; omega
    have e2 : decide (F + (k : Int) ≤ F + ((k - 1 : Nat) : Int)) = false := decide_eq_false (by omega)
    rw [e1, e2]
    simp
  · simp [h0]
theorem checkE_two (p : Pol) : checkE p = 0 ∨ checkE p = 2 := by unfold checkE; split; exact .inr rfl; exact .inl rfl
theorem OrdInv.pollE (h : OrdInv F C s nx now) (hF : 0 ≤ F ∧ F ≤ 65535) (hC : C ≤ 255) (hn : 0 ≤ now' ∧ now' ≤ 1073741824) (hw : s.wa ≤ now') : pollE s p (recsR F C) now' = checkE p := by
  by_cases hp : checkE p = 0
  · rw [hp]
    exact pollE7 h.e hp (by simp [inB, hn]) (by rw [recsR_length]; omega) (by rw [h.sh]; exact ordB_recs F C hF hC) (by rw [h.fl]; rfl) (decide_eq_false (by omega))
  · exact pollE1 h.e hp
/-- The batches of a cut are no longer than the policy allows. -/
theorem stepR_size {m r : Int} {bs : List (List Rec)} {x : Rec} (hm : 1 ≤ m) (h : ∀ b ∈ bs, (b.length : Int) ≤ m) : ∀ b ∈ stepR m r bs x, (b.length : Int) ≤ m := by
  unfold stepR
  cases hg : bs.getLast? with
  | none => simp; exact hm
  | some b0 =>
    simp only
    split
    · rename_i hf
      intro b hb
      rcases List.mem_append.1 hb with hb | hb
      · exact h b (List.dropLast_subset _ hb)
      · simp at hb
        subst hb
        unfold fitsR at hf
        rw [Bool.or_eq_true, Bool.and_eq_true] at hf
        rcases hf with hf | ⟨hf, -⟩
        · have : b0 = [] := by simpa using hf
          subst this
          simp
          exact hm
        · have := of_decide_eq_true hf
          simp
          omega
    · intro b hb
      rcases List.mem_append.1 hb with hb | hb
      · exact h b hb
      · simp at hb; subst hb; simp; exact hm
theorem cutR_size (m r : Int) (L : List Rec) (hm : 1 ≤ m) : ∀ b ∈ cutR m r L, (b.length : Int) ≤ m := by
  unfold cutR
  suffices hh : ∀ (L : List Rec) (bs : List (List Rec)), (∀ b ∈ bs, (b.length : Int) ≤ m) → ∀ b ∈ L.foldl (stepR m r) bs, (b.length : Int) ≤ m from hh L [] (by simp)
  intro L
  induction L with
  | nil => intro bs h; simpa using h
  | cons x L ih => intro bs h; exact ih _ (stepR_size hm h)
theorem headOf_size {m : Int} {bs : List (List Rec)} (hm : 1 ≤ m) (h : ∀ b ∈ bs, (b.length : Int) ≤ m) : ((headOf bs).length : Int) ≤ m := by
  cases bs with
  | nil => simp [headOf]; omega
  | cons b bs => exact h b (by simp)
theorem size_ok {p : Pol} (h : checkE p = 0) : 1 ≤ p.size := by
  unfold checkE Pol.bad at h
  split at h
  · cases h
  · rename_i hb
    simp only [Bool.or_eq_true, decide_eq_true_eq] at hb
    omega
/-- What Poll answers between two rounds. -/
theorem OrdInv.poll (h : OrdInv F C s nx now) (hF : 0 ≤ F ∧ F ≤ 65535) (hC : C ≤ 255) (hn : 0 ≤ now' ∧ now' ≤ 1073741824) (hw : s.wa ≤ now') (hnn : now ≤ now') {t : MS} {b : List Rec} {e : Int} (hx : pollS s p (recsR F C) now' = (t, b, e)) :
    (e ≠ 0 → e = 2) ∧ (e = 0 → b = [] → t = s ∧ nx = F + C) ∧
    (e = 0 → b ≠ [] → t.e = 0 ∧ t.sh = 0 ∧ t.nx = nx ∧ t.fl = b.length ∧ b = recsR nx b.length ∧ nx + b.length ≤ F + C ∧ (b.length : Int) ≤ p.size ∧ t.fi ≤ now' ∧ 1 ≤ b.length) := by
  have hE := h.pollE (p := p) hF hC hn hw
  by_cases hp : checkE p = 0
  · rw [hp] at hE
    rw [poll_go hE] at hx
    have hcF := h.candF hF.1
    by_cases hc : cand s.nx s.li (recsR F C) = []
    · rw [pollG1 hc] at hx
      injection hx with h1 h2
      injection h2 with h2 h3
      subst h1 h2 h3
      refine ⟨by simp, fun _ _ => ⟨rfl, ?_⟩, fun _ hb => absurd rfl hb⟩
      have hz : (recsR nx (F + C - nx).toNat) = [] := by
        unfold cand at hc
        rw [hcF] at hc
        split at hc
        · exact hc
        · rename_i hl
          have hli := (MS.ok_iff.1 h.e).1
          unfold MS.rng at hli
          rcases List.take_eq_nil_iff.1 hc with h3 | h3
          · omega
          · exact h3
      have := congrArg List.length hz
      rw [recsR_length] at this
      have h4 := h.hi
      simp at this
      omega
    · obtain ⟨x, tl, rr, e1, e2⟩ := pollB_cons (p := p) hc
      have hpre : ∃ r2, recsR nx (F + C - nx).toNat = pollB s p (recsR F C) ++ r2 := by
        rw [e1, ← hcF]
        unfold cand at e2
        split at e2
        · exact ⟨rr, e2⟩
        · exact ⟨rr ++ (Go.Proofs.Ytojghgeemdpmpaa.candF s.nx (recsR F C)).drop s.li.toNat, by rw [← List.append_assoc, ← e2, List.take_append_drop]⟩
      obtain ⟨r2, hr2⟩ := hpre
      obtain ⟨hb1, hb2⟩ := pre_recs hr2
      have hsz : ((pollB s p (recsR F C)).length : Int) ≤ p.size := headOf_size (size_ok hp) (cutR_size _ _ _ (size_ok hp))
      have hb3 : 1 ≤ (pollB s p (recsR F C)).length := by rw [e1]; simp
      by_cases ht : (pollT s (pollB s p (recsR F C)) now').e = 0
      · rw [pollG2 hc rfl rfl ht] at hx
        injection hx with h1 h2
        injection h2 with h2 h3
        subst h1 h2 h3
        refine ⟨by simp, fun _ hb => absurd hb (by rw [e1]; simp), fun _ _ => ⟨ht, ?_, ?_, ?_, hb1, ?_, hsz, ?_, hb3⟩⟩
        · unfold pollT; split <;> exact h.sh
        · have hseq : seqOf (pollB s p (recsR F C)) = nx := by
            rw [hb1]
            cases hq : (pollB s p (recsR F C)).length with
            | zero => omega
            | succ n => simp [recsR, List.range_succ_eq_map, seqOf, rec0]
          unfold pollT; split <;> exact hseq
        · unfold pollT; split <;> rfl
        · have := h.hi; omega
        · unfold pollT; split
          · exact Int.le_refl _
          · have := h.fi; exact Int.le_trans this hnn
      · rw [pollG3 hc rfl rfl ht] at hx
        injection hx with h1 h2
        injection h2 with h2 h3
        subst h1 h2 h3
        exact ⟨fun _ => rfl, fun h => absurd h (by decide), fun h => absurd h (by decide)⟩
  · rw [poll_no hE hp] at hx
    injection hx with h1 h2
    injection h2 with h2 h3
    subst h1 h2
    rcases checkE_two p with h4 | h4
    · exact absurd h4 hp
    · exact ⟨fun _ => by rw [← h3, h4], fun h => absurd (h3.trans h) hp, fun h => absurd (h3.trans h) hp⟩
/-- A batch that flies, of m records. -/
structure Fly (F : Int) (C : Nat) (t : MS) (nx : Int) (m : Nat) (now : Int) : Prop where
  e : t.e = 0
  sh : t.sh = 0
  nx_ : t.nx = nx
  fl : t.fl = m
  lo : F ≤ nx
  hi : nx + m ≤ F + C
  one : 1 ≤ m
  fi : t.fi ≤ now
variable {t : MS} {m : Nat}
theorem Fly.fail (h : Fly F C t nx m now) (hn : 0 ≤ now ∧ now ≤ 1073741824) {u : MS} {g : Bool} {e : Int} (hx : failS t r now = (u, g, e)) :
    (e ≠ 0 → e = 2) ∧ (e = 0 → g = true → m = 1 ∧ u.fl = 0 ∧ u.nx = nx + 1 ∧ OrdInv F C u (nx + 1) now) ∧ (e = 0 → g = false → u.fl = 0 ∧ u.nx = nx ∧ OrdInv F C u nx now) := by
  have hE : failE t r now = 0 ∨ (failE t r now = r.e ∧ r.e ≠ 0) := by
    by_cases hr : r.e = 0
    · left
      exact failE6 h.e hr (by simp [inB, hn]) (by rw [h.fl]; exact beq_eq_false_iff_ne.2 (by have := h.one; omega)) (decide_eq_false (by have := h.fi; omega))
    · right
      exact ⟨failE2 h.e hr, hr⟩
  rcases hE with hE | ⟨hE, hr⟩
  · have hv := @fail_valid t r now
    rw [hx] at hv
    simp only at hv
    have hup : e = 0 → u.sh = 0 ∧ u.fi ≤ now := by
      intro he
      subst he
      rw [fail_go hE] at hx
      unfold failG at hx
      split at hx
      · injection hx with h1 _
        subst h1
        exact ⟨h.sh, hn.1⟩
      · split at hx
        · injection hx with h1 _
          subst h1
          exact ⟨h.sh, h.fi⟩
        · injection hx with h1 h2
          injection h2 with _ h3
          obtain ⟨e1, _⟩ := rg_valid h3
          rw [e1] at h1
          subst h1
          exact ⟨h.sh, hn.1⟩
    refine ⟨fun he => ?_, fun he hg => ?_, fun he hg => ?_⟩
    · rw [fail_go hE] at hx
      unfold failG at hx
      split at hx
      · injection hx with _ h2
        injection h2 with _ h3
        exact absurd h3.symm he
      · split at hx
        · injection hx with _ h2
          injection h2 with _ h3
          exact absurd h3.symm he
        · injection hx with _ h2
          injection h2 with _ h3
          by_cases hz : MS.e ⟨t.sh, t.nx + 1, 0, 0, 0, 0, 0⟩ = 0
          · rw [rg_ok hz] at h3; exact absurd h3.symm he
          · rw [rg_no hz] at h3; exact h3.symm
    · obtain ⟨v1, v2, v3, hv4⟩ := hv he
      rcases hv4 with ⟨-, h5, h6⟩ | ⟨h5, -⟩
      · have hm : m = 1 := by have := h.fl; omega
        have h7 := h.hi
        have h8 := h.lo
        have h9 := h.nx_
        exact ⟨hm, v3, by omega, ⟨v1, (hup he).1, v3, by omega, by omega, .inl (by omega), hn.1, (hup he).2⟩⟩
      · rw [hg] at h5; cases h5
    · obtain ⟨v1, v2, v3, hv4⟩ := hv he
      rcases hv4 with ⟨h5, -, -⟩ | ⟨-, h5⟩
      · rw [hg] at h5; cases h5
      · have h7 := h.hi
        have h8 := h.lo
        have h9 := h.nx_
        exact ⟨v3, by omega, ⟨v1, (hup he).1, v3, by omega, by omega, .inl (by omega), hn.1, (hup he).2⟩⟩
  · have hz : RP.e r = 2 := by
      cases ho : r.ok
      · unfold RP.e; rw [ho]; rfl
      · exact absurd (by unfold RP.e; rw [ho]; rfl) hr
    rw [hz] at hE
    rw [fail_no hE (by decide)] at hx
    injection hx with _ h2
    injection h2 with _ h3
    subst h3
    exact ⟨fun _ => rfl, fun h => absurd h (by decide), fun h => absurd h (by decide)⟩
theorem Fly.valid (h : Fly F C t nx m now) (hF : 0 ≤ F ∧ F ≤ 65535) (hC : C ≤ 255) (k l : Int) (hk : 0 ≤ k ∧ k ≤ m) (hl : 0 ≤ l ∧ l ≤ 32) : MS.e ⟨t.sh, t.nx + k, 0, 0, 0, 0, l⟩ = 0 := by
  refine MS.ok_iff.2 ⟨?_, ?_⟩
  · have h1 := h.sh
    have h2 := h.nx_
    have h3 := h.hi
    have h4 := h.lo
    unfold MS.rng
    simp only
    omega
  · unfold MS.bad; simp only; omega
theorem Fly.suc (h : Fly F C t nx m now) (hF : 0 ≤ F ∧ F ≤ 65535) (hC : C ≤ 255) (hn : 0 ≤ now) {u : MS} {e : Int} (hx : sucS t = (u, e)) : e = 0 ∧ u.nx = nx + m ∧ OrdInv F C u (nx + m) now := by
  have hne : t.fl ≠ 0 := by have := h.fl; have := h.one; omega
  have hok := h.valid hF hC m 0 (by omega) (by omega)
  rw [suc_ok h.e hne, h.fl, rg_ok hok] at hx
  injection hx with h1 h2
  subst h1 h2
  have h3 := h.hi
  have h4 := h.lo
  exact ⟨rfl, by show t.nx + m = nx + m; rw [h.nx_], ⟨hok, h.sh, rfl, by omega, by omega, .inl (by show t.nx + m = nx + m; rw [h.nx_]), hn, hn⟩⟩
theorem Fly.par (h : Fly F C t nx m now) (hF : 0 ≤ F ∧ F ≤ 65535) (hC : C ≤ 255) (hn : 0 ≤ now) {k : Int} (hk : 0 ≤ k ∧ k < m) {u : MS} {e : Int} (hx : parS t k = (u, e)) : e = 0 ∧ u.li = m - k ∧ u.nx = nx + k ∧ OrdInv F C u (nx + k) now := by
  have hne : t.fl ≠ 0 := by have := h.fl; have := h.one; omega
  have hfl : t.fl ≤ 32 := (nx_bd h.e).2.2.2
  have hok := h.valid hF hC k (t.fl - k) (by omega) (by have := h.fl; omega)
  rw [par_ok h.e hne (by rw [h.fl]; omega), rg_ok hok] at hx
  injection hx with h1 h2
  subst h1 h2
  have h3 := h.hi
  have h4 := h.lo
  exact ⟨rfl, by show t.fl - k = m - k; rw [h.fl], by show t.nx + k = nx + k; rw [h.nx_], ⟨hok, h.sh, rfl, by omega, by omega, .inl (by show t.nx + k = nx + k; rw [h.nx_]), hn, hn⟩⟩
theorem OrdInv.start (F : Int) (C : Nat) : OrdInv F C ⟨0, 0, 0, 0, 0, 0, 0⟩ F 0 := ⟨by kernel_rfl, rfl, rfl, Int.le_refl _, by omega, .inr ⟨rfl, rfl⟩, Int.le_refl _, Int.le_refl _⟩
end
end Go.Proofs.Ytojghgeemdpmpaa
