/- The walks of the copy of a record. -/
import Derived.Test.YtojghgeemdpmpaaBW3
namespace Go.Proofs.Ytojghgeemdpmpaa
open Go.RowKit

theorem info79 : (Try.prog.info? 74).map (fun i => (i.zero, i.size, i.bytes)) = some (some (.agg #[.int .i64 0, .int .i64 0, .string ⟨#[]⟩, .int .i64 0]), 4, 40) := by kernel_rfl
theorem info39 : (Try.prog.info? 54).map (fun i => (i.zero, i.size, i.bytes)) = some (some (.agg #[.int .i64 0, .int .i64 0, .int .i64 0, .string ⟨#[]⟩, .string ⟨#[]⟩, .string ⟨#[]⟩, .string ⟨#[]⟩, .int .i64 0, .string ⟨#[]⟩, .slice none 0 0]), 10, 136) := by kernel_rfl
theorem info24 : (Try.prog.info? 28).map (fun i => (i.zero, i.size, i.bytes)) = some (some (.slice none 0 0), 1, 24) := by kernel_rfl

set_option maxHeartbeats 400000 in
theorem clone_any (A : Option Addr) (c : Nat) (l : List CellV) (w : World) (hl : Reads w w.heap.size 4 A l.length (l.flatMap CellV.cells)) (hn : l.length ≤ 3518437208780) :
    Calls Try.prog 50 #[.slice A l.length c] w fun e w' => ∃ A' c', e = .returned (.slice A' l.length c') ∧ Reads w' w'.heap.size 4 A' l.length (l.flatMap CellV.cells) ∧ (∀ ad, A' = some ad → w.heap.size ≤ ad.block) ∧ Below w.heap.size w w' := by
  have heq := fun n' c' wx => Lib.run_eql_slice_nil (P := Try.prog) wx 50 74 A l.length c n' c' Try.underlying50
  have h1 : ∀ u ∈ l.flatMap CellV.cells, u.oneCell' = true := by
    intro u hu
    obtain ⟨x, _, hx⟩ := List.mem_flatMap.1 hu
    simp only [CellV.cells, List.mem_cons, List.not_mem_nil, or_false] at hx
    rcases hx with rfl | rfl | rfl | rfl <;> rfl
  have H1 := Lib.hid h1
  clear h1
  cases A with
  | none =>
    have hl0 : l.length = 0 := by
      rcases Nat.eq_zero_or_pos l.length with h | h
      · exact h
      · obtain ⟨b, o, h, _⟩ := hl.2 h
        cases h
    have HL := Lib.hid hl0
    clear hl0
    go_enter Try.func50, Try.ntmps50
    go_wp2
    go_ret
    refine ⟨none, 0, ?_, ?_, by simp, Below.refl _ _⟩
    · rw [HL.out]; rfl
    · rw [HL.out, List.eq_nil_of_length_eq_zero HL.out]; exact Reads.none_
  | some ad =>
    obtain ⟨i0, hi0, hz0, hz1, hz2⟩ := info_parts info79
    go_enter Try.func50, Try.ntmps50
    go_wp2_with (at_builtin; refine wpList_append_any _ rfl (.tmp 5) (.tmp 6) 50 rfl w.heap.size 74 i0 _ 4 40 Try.underlying50 hi0 hz0 hz1 hz2 rfl (by omega) (.slice (some ⟨w.heap.size, 0, none⟩) 0 0) 0 [] rfl (World.ownsRow_made _ _ 0 (Nat.le_refl _) (Nat.zero_le _) rfl) w.heap.size (some ad) l.length c (l.flatMap CellV.cells) rfl (hl.below ((Below.refl _ _).alloc (Nat.le_refl _) _)) H1.out (by simp only [maxLen]; omega) (by omega) (by simp) ?_; intro v' w1 hown hgr hat)
    go_ret
    simp only [Nat.zero_add, List.nil_append] at hown
    have hb1 : Below w.heap.size w w1 := ((Below.refl _ _).alloc (Nat.le_refl _) _).grown hgr (by simp) (fun k hk => by simp [Value.ownBlock] at hk; omega)
    rcases hown.2 with ⟨rfl, h0⟩ | ⟨g, cap, cur, rfl, _⟩
    · exact ⟨none, 0, by rw [h0]; rfl, ⟨hown.1, fun h => by omega⟩, by simp, hb1⟩
    · exact ⟨some ⟨g, 0, none⟩, cap, rfl, Reads.of_own hown, fun ad ha => by injection ha with ha; subst ha; exact (hown.lt g rfl).1, hb1⟩

set_option maxHeartbeats 400000 in
theorem own_any (x : RecX) (w : World) (hx : BodyAt w w.heap.size x) (hn : x.r.body.length ≤ 3518437208780) :
    Calls Try.prog 51 #[.agg x.cells.toArray] w fun e w' => ∃ x' : RecX, x'.r = x.r ∧ e = .returned (.agg x'.cells.toArray) ∧ BodyAt w' w'.heap.size x' ∧ (∀ ad, x'.ba = some ad → w.heap.size ≤ ad.block) ∧ Below w.heap.size w w' := by
  simp only [RecX.cells]
  go_enter Try.func51, Try.ntmps51
  go_wp2_with fail
  have hb0 : ∀ o1 o2, Below w.heap.size w ((w.alloc o1).alloc o2) := fun o1 o2 => ((Below.refl _ _).alloc (Nat.le_refl _) _).alloc (by simp) _
  refine (clone_any x.ba x.bc x.r.body _ ((hx.below (hb0 _ _)).more (by simp; omega)) hn).mono ?_
  rintro e w1 ⟨A', c', rfl, hr1, hfr1, hb1⟩
  obtain ⟨hc1, hf1⟩ := bcell hb1
  have hz1 := hb1.size
  simp only [World.size_alloc] at hc1 hf1 hz1
  have k9 : w1.cell? ⟨w.heap.size, 9, none⟩ = some (.slice x.ba x.r.body.length x.bc) := by rw [hc1 _ _ (by omega)]; go_simp
  go_wp2_with fail
  obtain ⟨v0, z0⟩ : ∃ v, w1.cell? ⟨w.heap.size + 1, 0, none⟩ = some v := by simp only [hc1 (w.heap.size + 1) _ (by omega)]; go_simp
  obtain ⟨v1, z1⟩ : ∃ v, w1.cell? ⟨w.heap.size + 1, 1, none⟩ = some v := by simp only [hc1 (w.heap.size + 1) _ (by omega)]; go_simp
  obtain ⟨v2, z2⟩ : ∃ v, w1.cell? ⟨w.heap.size + 1, 2, none⟩ = some v := by simp only [hc1 (w.heap.size + 1) _ (by omega)]; go_simp
  obtain ⟨v3, z3⟩ : ∃ v, w1.cell? ⟨w.heap.size + 1, 3, none⟩ = some v := by simp only [hc1 (w.heap.size + 1) _ (by omega)]; go_simp
  obtain ⟨v4, z4⟩ : ∃ v, w1.cell? ⟨w.heap.size + 1, 4, none⟩ = some v := by simp only [hc1 (w.heap.size + 1) _ (by omega)]; go_simp
  obtain ⟨v5, z5⟩ : ∃ v, w1.cell? ⟨w.heap.size + 1, 5, none⟩ = some v := by simp only [hc1 (w.heap.size + 1) _ (by omega)]; go_simp
  obtain ⟨v6, z6⟩ : ∃ v, w1.cell? ⟨w.heap.size + 1, 6, none⟩ = some v := by simp only [hc1 (w.heap.size + 1) _ (by omega)]; go_simp
  obtain ⟨v7, z7⟩ : ∃ v, w1.cell? ⟨w.heap.size + 1, 7, none⟩ = some v := by simp only [hc1 (w.heap.size + 1) _ (by omega)]; go_simp
  obtain ⟨v8, z8⟩ : ∃ v, w1.cell? ⟨w.heap.size + 1, 8, none⟩ = some v := by simp only [hc1 (w.heap.size + 1) _ (by omega)]; go_simp
  obtain ⟨v9, z9⟩ : ∃ v, w1.cell? ⟨w.heap.size + 1, 9, none⟩ = some v := by simp only [hc1 (w.heap.size + 1) _ (by omega)]; go_simp
  refine bodyPost_ret (v := .agg (RecX.cells ⟨x.r, A', c'⟩).toArray) (by simp [results, Try.results51, go_sem, RecX.cells, z0, z1, z2, z3, z4, z5, z6, z7, z8, z9]) rfl ⟨⟨x.r, A', c'⟩, rfl, rfl, ?_, fun ad ha => by have := hfr1 ad ha; simp only [World.size_alloc] at this; omega, ?_⟩
  · have hne : ∀ (b : Nat), b < w.heap.size + 1 + 1 → ∀ ad, A' = some ad → ad.block ≠ b := fun b hb ad ha => by have := hfr1 ad ha; simp only [World.size_alloc] at this; omega
    show Reads _ _ 4 A' x.r.body.length _
    refine Reads.more (B := w1.heap.size) ?_ (by simp [World.setCell])
    iterate 11 (with_reducible refine Reads.set ?_ (hne _ (by first | (simp; done) | (simp; omega))) _)
    with_reducible exact hr1
  · have hw1 : Below w.heap.size w w1 := (hb0 _ _).trans (hb1.mono (by simp; omega))
    iterate 11 (with_reducible refine Below.setCell ?_ (by simp) _)
    with_reducible exact hw1
end Go.Proofs.Ytojghgeemdpmpaa
