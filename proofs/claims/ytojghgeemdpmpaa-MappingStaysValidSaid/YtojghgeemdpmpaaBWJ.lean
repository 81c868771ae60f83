/- The division by records alone; both Cuts by one contract; the walk of BatchCut. -/
import Derived.Test.YtojghgeemdpmpaaBWA
namespace Go.Proofs.Ytojghgeemdpmpaa
open Go.RowKit
open Go.Sort (grow)

/-- A list of batches in memory. -/
def Bats (w : World) (A : Option Addr) (bs : List BatchX) : Prop := Reads w w.heap.size 1 A bs.length (bs.map BatchX.val) ∧ ∀ b ∈ bs, RecsAt w w.heap.size b.a b.l
theorem Bats.below {w w' : World} {A : Option Addr} {bs : List BatchX} (h : Bats w A bs) (hb : Below w.heap.size w w') : Bats w' A bs :=
  ⟨(h.1.below hb).more hb.size, fun b hbm => ((h.2 b hbm).below hb).more hb.size⟩
theorem Bats.of_out {w : World} {base c : Nat} {A : Option Addr} {bs : List BatchX} (h : OutInv w base (.slice A bs.length c) bs) (hb : ∀ b ∈ bs, ∀ x ∈ b.l, BodyAt w w.heap.size x) : Bats w A bs :=
  ⟨Reads.of_own h.row, fun b hbm => (h.own b hbm).recs (Nat.le_refl _) (hb b hbm)⟩
theorem Bats.nil (w : World) : Bats w none [] := ⟨Reads.none_, by simp⟩
theorem Bats.get {w : World} {A : Option Addr} {bs : List BatchX} (h : Bats w A bs) {k : Nat} (hk : k < bs.length) : ∃ b o, A = some ⟨b, o, none⟩ ∧ b < w.heap.size ∧ w.cell? ⟨b, o + k, none⟩ = some (.slice bs[k].a bs[k].l.length bs[k].c) := by
  obtain ⟨b, o, e, hb, hc⟩ := h.1.2 (by omega)
  exact ⟨b, o, e, hb, hc k _ (by simp [hk, BatchX.val])⟩

def fitsR (m r : Int) (l : List Rec) (x : Rec) : Bool := l.isEmpty || (decide ((l.length : Int) < m) && decide (((l.map fun y => y.body.length).sum + x.body.length : Nat) ≤ r))
def stepR (m r : Int) (bs : List (List Rec)) (x : Rec) : List (List Rec) :=
  match bs.getLast? with
  | none => [[x]]
  | some b => if fitsR m r b x = true then bs.dropLast ++ [b ++ [x]] else bs ++ [[x]]
def cutR (m r : Int) (l : List Rec) : List (List Rec) := l.foldl (stepR m r) []
theorem fitsR_eq (m r : Int) (l : List RecX) (x : RecX) : fitsR m r (l.map (·.r)) x.r = fitsB m r l x := by
  unfold fitsR fitsB sumBody
  rw [List.map_map]
  simp [Function.comp_def]
theorem stepR_eq (m r : Int) (bs : List (List RecX)) (x : RecX) : (cutStep m r bs x).map (·.map (·.r)) = stepR m r (bs.map (·.map (·.r))) x.r := by
  unfold cutStep stepR
  rw [List.getLast?_map]
  cases h : bs.getLast? with
  | none => simp
  | some b =>
    simp only [Option.map_some, fitsR_eq]
    by_cases hf : fitsB m r b x = true
    · simp [hf]
    · simp [hf]
theorem cutR_eq (m r : Int) (l : List RecX) : (cutS m r l).map (·.map (·.r)) = cutR m r (l.map (·.r)) := by
  unfold cutS cutR
  suffices h : ∀ (l : List RecX) (bs : List (List RecX)), (l.foldl (cutStep m r) bs).map (·.map (·.r)) = (l.map (·.r)).foldl (stepR m r) (bs.map (·.map (·.r))) by simpa using h l []
  intro l
  induction l with
  | nil => simp
  | cons x l ih => intro bs; rw [List.foldl_cons, List.map_cons, List.foldl_cons, ih, stepR_eq]

def cutE (p : Pol) (n : Nat) : Int := if p.bad = true then 2 else if 256 < n then 3 else 0
def cutL (p : Pol) (l : List Rec) : List (List Rec) := if cutE p l.length = 0 then cutR p.size p.cells l else []
def CutPost (p : Pol) (l : List RecX) (w : World) (e : Ending) (w' : World) : Prop :=
  ∃ A c bs, e = .returned (.tuple #[.slice A (List.length bs) c, .int .i64 (cutE p l.length)]) ∧ Bats w' A bs ∧ bs.map (fun b => b.l.map (·.r)) = cutL p (l.map (·.r)) ∧ Below w.heap.size w w' ∧
    (∀ b ∈ bs, 0 < b.l.length ∧ sumBody b.l ≤ sumBody l ∧ b.l.length ≤ l.length) ∧ bs.length ≤ l.length
theorem parts_le {l : List RecX} {bs : List BatchX} (h : (bs.map (·.l)).flatten.map (·.r) = l.map (·.r)) : ∀ b ∈ bs, sumBody b.l ≤ sumBody l ∧ b.l.length ≤ l.length := by
  intro b hb
  have h1 : sumBody (bs.map (·.l)).flatten = sumBody l := by
    have := congrArg (List.map fun r : Rec => r.body.length) h
    rw [List.map_map, List.map_map] at this
    exact congrArg List.sum this
  have h2 : (bs.map (·.l)).flatten.length = l.length := by have := congrArg List.length h; rw [List.length_map, List.length_map] at this; exact this
  obtain ⟨s, t, rfl⟩ := List.append_of_mem hb
  rw [← h1, ← h2]
  simp only [List.map_append, List.map_cons, List.flatten_append, List.flatten_cons, sumBody_append, List.length_append]
  omega
theorem bad_E (p : Pol) (h : p.bad = true) : checkE p = 2 := by simp [checkE, h]
theorem good_E (p : Pol) (h : p.bad = false) : checkE p = 0 := by simp [checkE, h]

theorem Cut_all (s c n : Int) (A : Option Addr) (ca : Nat) (l : List RecX) (w : World) (hl : RecsAt w w.heap.size A l) (hb : okB l) :
    Calls Try.prog 33 #[.slice A l.length ca, .agg #[.int .i64 s, .int .i64 c, .int .i64 n]] w fun e w' => CutPost ⟨s, c, n⟩ l w e w' := by
  cases hp : Pol.bad ⟨s, c, n⟩
  · by_cases h256 : 256 < l.length
    · exact (Cut_lim s c n A ca l w (good_E _ hp) h256).mono fun e w' ⟨he, hw⟩ => ⟨none, 0, [], by rw [he]; simp [cutE, hp, h256], Bats.nil _, by simp [cutL, cutE, hp, h256], hw, by simp, by simp⟩
    · refine (Cut_ok s c n A ca l w (good_E _ hp) hl hb (by omega)).mono ?_
      rintro e w' ⟨v, bs, xs, rfl, hout, hbs, hxs, hbody, hw⟩
      obtain ⟨A', c', rfl⟩ := hout.shape
      have hflat : (bs.map (·.l)).flatten = xs := by rw [hbs, cutS_flatten]
      have hpl := parts_le (l := l) (bs := bs) (by rw [hflat, hxs])
      have hxl : xs.length = l.length := by have := congrArg List.length hxs; simpa using this
      refine ⟨A', c', bs, by simp [cutE, hp, h256], Bats.of_out hout fun b hb x hx => hbody x ?_, ?_, hw, fun b hb => ⟨(hout.own b hb).1, hpl b hb⟩, ?_⟩
      · rw [← hflat]
        exact List.mem_flatten.2 ⟨b.l, List.mem_map.2 ⟨b, hb, rfl⟩, hx⟩
      · have h1 : bs.map (fun b => b.l.map (·.r)) = (bs.map (·.l)).map (·.map (·.r)) := by rw [List.map_map]; rfl
        rw [h1, hbs, cutR_eq, hxs]
        simp [cutL, cutE, hp, h256]
      · have := hout.len_le
        rw [hflat, hxl] at this
        exact this
  · exact (Cut_bad s c n A ca l w (bad_E _ hp)).mono fun e w' ⟨he, hw⟩ => ⟨none, 0, [], by rw [he]; simp [cutE, hp], Bats.nil _, by simp [cutL, cutE, hp], hw, by simp, by simp⟩
theorem rCut_all (s c n : Int) (A : Option Addr) (ca : Nat) (l : List RecX) (w : World) (hl : RecsAt w w.heap.size A l) (hb : okB l) :
    Calls Try.prog 36 #[.slice A l.length ca, .agg #[.int .i64 s, .int .i64 c, .int .i64 n]] w fun e w' => CutPost ⟨s, c, n⟩ l w e w' := by
  cases hp : Pol.bad ⟨s, c, n⟩
  · by_cases h256 : 256 < l.length
    · exact (rCut_lim s c n A ca l w (good_E _ hp) h256).mono fun e w' ⟨he, hw⟩ => ⟨none, 0, [], by rw [he]; simp [cutE, hp, h256], Bats.nil _, by simp [cutL, cutE, hp, h256], hw, by simp, by simp⟩
    · refine (rCut_ok s c n A ca l w (good_E _ hp) hl hb (by omega)).mono ?_
      rintro e w' ⟨v, bs, rfl, hout, hbs, hw⟩
      obtain ⟨A', c', rfl⟩ := hout.shape
      have hflat : (bs.map (·.l)).flatten = l := by rw [hbs, cutS_flatten]
      have hpl := parts_le (l := l) (bs := bs) (by rw [hflat])
      refine ⟨A', c', bs, by simp [cutE, hp, h256], Bats.of_out hout fun b hb x hx => Reads.more (Reads.below (hl.2 x ?_) hw) hw.size, ?_, hw, fun b hb => ⟨(hout.own b hb).1, hpl b hb⟩, ?_⟩
      · rw [← hflat]
        exact List.mem_flatten.2 ⟨b.l, List.mem_map.2 ⟨b, hb, rfl⟩, hx⟩
      · have h1 : bs.map (fun b => b.l.map (·.r)) = (bs.map (·.l)).map (·.map (·.r)) := by rw [List.map_map]; rfl
        rw [h1, hbs, cutR_eq]
        simp [cutL, cutE, hp, h256]
      · have := hout.len_le
        rw [hflat] at this
        exact this
  · exact (rCut_bad s c n A ca l w (bad_E _ hp)).mono fun e w' ⟨he, hw⟩ => ⟨none, 0, [], by rw [he]; simp [cutE, hp], Bats.nil _, by simp [cutL, cutE, hp], hw, by simp, by simp⟩

end Go.Proofs.Ytojghgeemdpmpaa
