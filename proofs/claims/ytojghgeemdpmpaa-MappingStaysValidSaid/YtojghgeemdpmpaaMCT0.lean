/- What a step returns without an error is valid: in plain words. -/
import Derived.Test.YtojghgeemdpmpaaMCR
namespace Go.Proofs.Ytojghgeemdpmpaa
open Go.RowKit
open BO (RP inB nxI dl dl_bd)

theorem rg_valid {s : MS} (h : (rgS s).2 = 0) : rgS s = (s, 0) ∧ s.e = 0 := by
  by_cases h0 : s.e = 0
  · exact ⟨rg_ok h0, h0⟩
  · rw [rg_no h0] at h; cases h
theorem suc_valid {s : MS} (h : (sucS s).2 = 0) : sucS s = (⟨s.sh, s.nx + s.fl, 0, 0, 0, 0, 0⟩, 0) ∧ MS.e ⟨s.sh, s.nx + s.fl, 0, 0, 0, 0, 0⟩ = 0 ∧ s.e = 0 ∧ s.fl ≠ 0 := by
  by_cases h0 : s.e = 0
  · by_cases h1 : s.fl = 0
    · rw [suc_none h0 h1] at h; cases h
    · rw [suc_ok h0 h1] at h ⊢
      exact ⟨(rg_valid h).1, (rg_valid h).2, h0, h1⟩
  · rw [suc_bad h0] at h; exact absurd h h0
theorem par_valid {s : MS} {m : Int} (h : (parS s m).2 = 0) : parS s m = (⟨s.sh, s.nx + m, 0, 0, 0, 0, s.fl - m⟩, 0) ∧ MS.e ⟨s.sh, s.nx + m, 0, 0, 0, 0, s.fl - m⟩ = 0 ∧ s.e = 0 ∧ 0 ≤ m ∧ m < s.fl := by
  by_cases h0 : s.e = 0
  · by_cases h1 : s.fl = 0
    · rw [par_none h0 h1] at h; cases h
    · by_cases h2 : 0 ≤ m ∧ m < s.fl
      · rw [par_ok h0 h1 h2] at h ⊢
        exact ⟨(rg_valid h).1, (rg_valid h).2, h0, h2⟩
      · rw [par_out h0 h1 h2] at h; cases h
  · rw [par_bad h0] at h; exact absurd h h0
theorem suc_nx {s : MS} (h : (sucS s).2 = 0) : (sucS s).1.e = 0 ∧ (sucS s).1.nx = s.nx + s.fl ∧ s.e = 0 := by
  obtain ⟨h1, h2, h3, -⟩ := suc_valid h
  rw [h1]
  exact ⟨h2, rfl, h3⟩
theorem par_nx {s : MS} {m : Int} (h : (parS s m).2 = 0) : (parS s m).1.e = 0 ∧ (parS s m).1.nx = s.nx + m ∧ s.e = 0 ∧ 0 ≤ m ∧ m < s.fl ∧ (parS s m).1.li = s.fl - m := by
  obtain ⟨h1, h2, h3, h4, h5⟩ := par_valid h
  rw [h1]
  exact ⟨h2, rfl, h3, h4, h5, rfl⟩
theorem nxI_bd {a b f c m s t n : Int} (h : (nxI a b f c m s t n).2.2 = 0 ∧ (nxI a b f c m s t n).2.1 = true) : 0 ≤ (nxI a b f c m s t n).1 ∧ (nxI a b f c m s t n).1 ≤ 2147483648 := by
  unfold nxI at h ⊢
  split at h
  · rename_i h0
    split at h
    · split at h
      · exact absurd h.1 (by decide)
      · split at h
        · exact absurd h.2 (by decide)
        · rename_i h2 h3 h4
          rw [if_pos h0, if_pos h2, if_neg h3, if_neg h4]
          have hr := (RP.ok_iff _).1 h0
          simp only at hr
          have := dl_bd (b := b) (f := f) (c := c) (by omega) (by omega) (by omega) (t.toNat - 1)
          simp only
          omega
    · exact absurd h.1 (by decide)
  · exact absurd h.1 (by decide)
section
variable {s : MS} {r : RP} {now : Int}
theorem failE_ok (h : failE s r now = 0) : s.e = 0 ∧ r.e = 0 ∧ inB now 0 1073741824 = true ∧ s.fl ≠ 0 ∧ ¬ now < s.fi := by
  by_cases h0 : s.e = 0
  · by_cases h1 : r.e = 0
    · cases h2 : inB now 0 1073741824
      · rw [failE3 h0 h1 h2] at h; cases h
      · cases h3 : (s.fl == 0)
        · cases h4 : decide (now < s.fi)
          · exact ⟨h0, h1, rfl, by simpa using h3, by simpa using h4⟩
          · rw [failE5 h0 h1 h2 h3 h4] at h; cases h
        · rw [failE4 h0 h1 h2 h3] at h; cases h
    · rw [failE2 h0 h1] at h; exact absurd h h1
  · rw [failE1 h0] at h; exact absurd h h0
/-- What a failed batch leads to, without an error. -/
theorem fail_valid (h : (failS s r now).2.2 = 0) : (failS s r now).1.e = 0 ∧ s.e = 0 ∧ (failS s r now).1.fl = 0 ∧ (((failS s r now).2.1 = true ∧ (failS s r now).1.nx = s.nx + 1 ∧ s.fl = 1) ∨ ((failS s r now).2.1 = false ∧ (failS s r now).1.nx = s.nx)) := by
  by_cases hE : failE s r now = 0
  · obtain ⟨h0, h1, h2, h3, h4⟩ := failE_ok hE
    rw [fail_go hE] at h ⊢
    have hr := (MS.ok_iff.1 h0).1
    have hb := (MS.ok_iff.1 h0).2
    unfold MS.rng at hr
    unfold MS.bad at hb
    have hi : 0 ≤ now ∧ now ≤ 1073741824 := by simpa [inB] using h2
    by_cases h5 : 1 < s.fl
    · rw [failG1 h5]
      refine ⟨MS.ok_iff.2 ⟨?_, ?_⟩, h0, rfl, .inr ⟨rfl, rfl⟩⟩
      · unfold MS.rng; simp only; omega
      · unfold MS.bad; simp only; omega
    · by_cases h6 : s.ac < r.a ∧ (nxI r.a r.b r.f r.c r.m s.fi s.ac now).2.2 = 0 ∧ (nxI r.a r.b r.f r.c r.m s.fi s.ac now).2.1 = true
      · have hn := nxI_bd h6.2
        unfold failG
        rw [if_neg h5, if_pos h6]
        refine ⟨MS.ok_iff.2 ⟨?_, ?_⟩, h0, rfl, .inr ⟨rfl, rfl⟩⟩
        · unfold MS.rng; simp only; omega
        · unfold MS.bad; simp only; omega
      · rw [failG3 h5 h6] at h ⊢
        simp only at h ⊢
        obtain ⟨e1, e2⟩ := rg_valid h
        rw [e1]
        exact ⟨e2, h0, rfl, .inl ⟨rfl, rfl, by omega⟩⟩
  · rw [fail_no rfl hE] at h; exact absurd h hE
theorem fail_err (h : (failS s r now).2.2 ≠ 0) : (failS s r now).2.1 = false := by
  by_cases hE : failE s r now = 0
  · rw [fail_go hE] at h ⊢
    unfold failG at h ⊢
    split
    · rfl
    · split
      · rfl
      · rename_i h1 h2
        rw [if_neg h1, if_neg h2] at h
        simp only at h ⊢
        exact beq_eq_false_iff_ne.2 h
  · rw [fail_no rfl hE]
end
theorem stepR_ne {m r : Int} {bs : List (List Rec)} {x : Rec} (h : ∀ b ∈ bs, b ≠ []) : ∀ b ∈ stepR m r bs x, b ≠ [] := by
  unfold stepR
  cases hg : bs.getLast? with
  | none => simp
  | some b0 =>
    simp only
    split
    · intro b hb
      rcases List.mem_append.1 hb with hb | hb
      · exact h b (List.dropLast_subset _ hb)
      · simp at hb; subst hb; simp
    · intro b hb
      rcases List.mem_append.1 hb with hb | hb
      · exact h b hb
      · simp at hb; subst hb; simp
theorem cutR_ne (m r : Int) (C : List Rec) : ∀ b ∈ cutR m r C, b ≠ [] := by
  unfold cutR
  suffices hh : ∀ (C : List Rec) (bs : List (List Rec)), (∀ b ∈ bs, b ≠ []) → ∀ b ∈ C.foldl (stepR m r) bs, b ≠ [] from hh C [] (by simp)
  intro C
  induction C with
  | nil => intro bs h; simpa using h
  | cons x C ih => intro bs h; exact ih _ (stepR_ne h)
theorem cutR_flat (m r : Int) (C : List Rec) : (cutR m r C).flatten = C := by
  have hl : ∃ xs : List RecX, xs.map (·.r) = C := ⟨C.map fun r => ⟨r, none, 0⟩, by rw [List.map_map]; exact List.map_id _⟩
  obtain ⟨xs, rfl⟩ := hl
  rw [← cutR_eq, ← List.map_flatten, cutS_flatten]
/-- The first batch begins as the candidates do. -/
theorem pollB_cons {s : MS} {p : Pol} {l : List Rec} (h : cand s.nx s.li l ≠ []) : ∃ x t r, pollB s p l = x :: t ∧ cand s.nx s.li l = (x :: t) ++ r := by
  have hf := cutR_flat p.size p.cells (cand s.nx s.li l)
  have hn := cutR_ne p.size p.cells (cand s.nx s.li l)
  unfold pollB
  cases hc : cutR p.size p.cells (cand s.nx s.li l) with
  | nil => rw [hc] at hf; exact absurd hf.symm h
  | cons b bs =>
    rw [hc] at hf hn
    cases b with
    | nil => exact absurd rfl (hn [] (by simp))
    | cons x t => exact ⟨x, t, bs.flatten, rfl, by rw [← hf]; rfl⟩
theorem cand_ge {nx li : Int} {l : List Rec} {x : Rec} (h : x ∈ cand nx li l) : nx ≤ x.seq := by
  have h2 : x ∈ candF nx l := by
    unfold cand at h
    split at h
    · exact h
    · exact List.mem_of_mem_take h
  unfold candF at h2
  simpa using (List.mem_filter.1 h2).2
/-- What Poll returns without an error. -/
theorem poll_valid {s : MS} {p : Pol} {l : List Rec} {now : Int} (h : (pollS s p l now).2.2 = 0) : (pollS s p l now).1.e = 0 ∧ s.nx ≤ (pollS s p l now).1.nx ∧ ((pollS s p l now).2.1.length : Int) = (pollS s p l now).1.fl := by
  by_cases hE : pollE s p l now = 0
  · obtain ⟨h0, -, -, -, hf, -⟩ := pollE_ok hE
    rw [poll_go hE] at h ⊢
    by_cases hc : cand s.nx s.li l = []
    · rw [pollG1 hc]
      exact ⟨h0, Int.le_refl _, by simp [hf]⟩
    · by_cases ht : (pollT s (pollB s p l) now).e = 0
      · rw [pollG2 hc rfl rfl ht]
        refine ⟨ht, ?_, ?_⟩
        · obtain ⟨x, t, r, e1, e2⟩ := pollB_cons (p := p) hc
          have hx : s.nx ≤ x.seq := cand_ge (li := s.li) (l := l) (by rw [e2]; simp)
          unfold pollT
          rw [e1]
          split <;> exact hx
        · unfold pollT
          split <;> rfl
      · rw [pollG3 hc rfl rfl ht] at h; cases h
  · rw [poll_no rfl hE] at h; exact absurd h hE
end Go.Proofs.Ytojghgeemdpmpaa
