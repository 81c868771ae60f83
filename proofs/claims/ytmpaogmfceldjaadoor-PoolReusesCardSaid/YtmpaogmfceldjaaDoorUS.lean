/- Words for strings and lists of strings in memory; a cut at one byte, byte by byte. -/
import Derived.Test.YtmpaogmfceldjaaDoorU4
import Derived.Test.YtmpaogmfceldjaaDoorS1
import Derived.Lib.SmallJoins
namespace Go.Proofs.YtmpaogmfceldjaaDoor
open Go.RowKit
open Go.Sort (grow)

theorem byte_at (s : ByteArray) (k : Nat) (hk : k < s.size) : s.data.toList[k]? = some s[k] := by
  have h' : k < s.data.toList.length := by simpa using hk
  rw [List.getElem?_eq_getElem h']
  simp
  rfl
theorem size_len (s : ByteArray) : s.data.toList.length = s.size := by simp
theorem take_size (s : ByteArray) : s.data.toList.take s.size = s.data.toList := by rw [← size_len, List.take_length]
theorem take_snoc (s : ByteArray) (k : Nat) (h : k < s.size) : s.data.toList.take (k + 1) = s.data.toList.take k ++ [s[k]] := by
  rw [List.take_add_one, byte_at s k h]; rfl
theorem ba_ext {s t : ByteArray} (h : s.data.toList = t.data.toList) : s = t := by
  obtain ⟨⟨a⟩⟩ := s; obtain ⟨⟨b⟩⟩ := t
  have : a = b := h
  rw [this]
theorem ret_str {a b : ByteArray} (h : a = b) : Ending.returned (.string a) = .returned (.string b) := by rw [h]
theorem info_str : (Tryd.prog.info? 9).map (fun i => (i.zero, i.size, i.bytes)) = some (some (.string ⟨#[]⟩), 1, 16) := by kernel_rfl
def svals (l : List ByteArray) : List Value := l.map Value.string
/-- An owned list of strings. -/
def OwnS (w : World) (base : Nat) (v : Value) (l : List ByteArray) : Prop := w.ownsRow base 9 1 v l.length (svals l)
theorem OwnS.nil (w : World) (base : Nat) : OwnS w base (.slice none 0 0) [] := own_nil w base _ _
theorem OwnS.on {w w' : World} {base : Nat} {v : Value} {l : List ByteArray} (h : OwnS w base v l) (hb : Below w.heap.size w w') : OwnS w' base v l := own_below h hb
theorem OwnS.push {w : World} {base : Nat} {v : Value} {l : List ByteArray} {x : ByteArray} (h : w.ownsRow base 9 1 v (l.length + 1) (svals l ++ [.string x])) : OwnS w base v (l ++ [x]) := by
  unfold OwnS svals
  simpa [svals] using h
theorem OwnS.empty {w : World} {base g : Nat} (hg : g = w.heap.size) (hb : base ≤ w.heap.size) : OwnS (w.alloc (.cells #[] 9)) base (.slice (some ⟨g, 0, none⟩) 0 0) [] := by
  subst hg
  exact ⟨rfl, .inr ⟨w.heap.size, 0, #[], rfl, hb, heap_alloc_new _ _, by simp [maxLen, svals]⟩⟩
/-- A list of strings at a block's head. -/
def StrsAt (w : World) (B g : Nat) (l : List ByteArray) : Prop := B ≤ g ∧ g < w.heap.size ∧ CellsAt w g (svals l)
theorem OwnS.at_ {w : World} {base : Nat} {v : Value} {l : List ByteArray} (h : OwnS w base v l) (hl : 0 < l.length) : ∃ g cap, v = .slice (some ⟨g, 0, none⟩) l.length cap ∧ StrsAt w base g l := by
  obtain ⟨g, cap, rfl, hb, hg⟩ := own_form h hl
  refine ⟨g, cap, rfl, hb, hg, fun j u hu => ?_⟩
  have h' : w.ownsRow base 9 1 (.slice (some ⟨g, 0, none⟩) l.length cap) l.length (svals l) := h
  have := World.ownsRow.cells h' (g := g) rfl j u hu
  rw [Addr.add_lit, Nat.zero_add] at this
  exact this
theorem StrsAt.on {w w' : World} {B g : Nat} {l : List ByteArray} (h : StrsAt w B g l) (hb : Below w.heap.size w w') : StrsAt w' B g l :=
  ⟨h.1, Nat.lt_of_lt_of_le h.2.1 hb.size, h.2.2.below hb h.2.1⟩
theorem StrsAt.cell {w : World} {B g : Nat} {l : List ByteArray} (h : StrsAt w B g l) {k : Nat} {x : ByteArray} (hk : l[k]? = some x) : w.cell? ⟨g, k, none⟩ = some (.string x) :=
  h.2.2 k _ (by unfold svals; rw [List.getElem?_map, hk]; rfl)

/-- The state of a cut in front of byte k: the pieces so far, and where the piece at hand begins. -/
def CutRel (c : UInt8) (s : ByteArray) (k f : Nat) (P : List ByteArray) : Prop :=
  f ≤ k ∧ k ≤ s.size ∧ P.length ≤ f ∧ P.map (·.data.toList) ++ cutA c ((s.data.toList.take k).drop f) (s.data.toList.drop k) = cutL c s.data.toList
theorem CutRel.start (c : UInt8) (s : ByteArray) : CutRel c s 0 0 [] := ⟨Nat.le_refl _, Nat.zero_le _, Nat.le_refl _, by simp [cutL]⟩
theorem drop_byte (s : ByteArray) (k : Nat) (hk : k < s.size) : s.data.toList.drop k = s[k] :: s.data.toList.drop (k + 1) := by
  have h' : k < s.data.toList.length := by simpa using hk
  rw [List.drop_eq_getElem_cons h']
  simp
  rfl
theorem ext_take (s : ByteArray) (f k : Nat) : (s.extract f k).data.toList = (s.data.toList.take k).drop f := by
  rw [Lib.extract_data, List.drop_take]
theorem CutRel.hit {c : UInt8} {s : ByteArray} {k f : Nat} {P : List ByteArray} (h : CutRel c s k f P) (hk : k < s.size) (e : s[k] = c) : CutRel c s (k + 1) (k + 1) (P ++ [s.extract f k]) := by
  obtain ⟨h1, h2, h3, h4⟩ := h
  refine ⟨Nat.le_refl _, hk, by simp; omega, ?_⟩
  rw [← h4, drop_byte s k hk, e, cutA_eq, List.map_append, List.append_assoc]
  have : (s.data.toList.take (k + 1)).drop (k + 1) = [] := List.drop_eq_nil_of_le (by simp; omega)
  rw [this]
  simp only [List.map_cons, List.map_nil, ext_take, List.cons_append, List.nil_append]
theorem CutRel.miss {c : UInt8} {s : ByteArray} {k f : Nat} {P : List ByteArray} (h : CutRel c s k f P) (hk : k < s.size) (e : s[k] ≠ c) : CutRel c s (k + 1) f P := by
  obtain ⟨h1, h2, h3, h4⟩ := h
  refine ⟨by omega, hk, h3, ?_⟩
  rw [← h4, drop_byte s k hk, cutA_ne e, List.take_add_one, byte_at s k hk]
  simp only [Option.toList_some]
  rw [List.drop_append_of_le_length (by rw [List.length_take]; have := size_len s; omega)]
theorem CutRel.done {c : UInt8} {s : ByteArray} {f : Nat} {P : List ByteArray} (h : CutRel c s s.size f P) : P ++ [s.extract f s.size] = pcs c s := by
  obtain ⟨h1, h2, h3, h4⟩ := h
  have hd : s.data.toList.drop s.size = [] := List.drop_eq_nil_of_le (by have := size_len s; omega)
  rw [hd, cutA] at h4
  have h5 : (P ++ [s.extract f s.size]).map (·.data.toList) = cutL c s.data.toList := by
    rw [← h4, List.map_append, List.map_cons, List.map_nil, ext_take]
  unfold pcs
  rw [← h5, List.map_map]
  conv => lhs; rw [← List.map_id (P ++ [s.extract f s.size])]
  apply List.map_congr_left
  intro t _
  obtain ⟨⟨l⟩⟩ := t
  rfl
theorem pcs_pos (c : UInt8) (s : ByteArray) : 0 < (pcs c s).length := by
  unfold pcs
  rw [List.length_map]
  have := cutL_ne_nil c s.data.toList
  cases h : cutL c s.data.toList with
  | nil => exact absurd h this
  | cons a b => simp
theorem pcs_size {c : UInt8} {s t : ByteArray} (h : t ∈ pcs c s) : t.size ≤ s.size := by
  unfold pcs at h
  obtain ⟨l, hl, rfl⟩ := List.mem_map.1 h
  have := cutL_piece hl
  rw [← size_len, ← size_len s]
  simpa using this
theorem svals_flat : ∀ l : List ByteArray, l.flatMap (fun x => [Value.string x]) = svals l
  | [] => rfl
  | a :: l => by rw [List.flatMap_cons, svals_flat l]; rfl
/-- A list of strings in memory. -/
def StrL (w : World) (B : Nat) (A : Option Addr) (l : List ByteArray) : Prop := Reads w B 1 A l.length (svals l)
theorem StrL.cell {w : World} {B : Nat} {A : Option Addr} {l : List ByteArray} (h : StrL w B A l) {k : Nat} {x : ByteArray} (hk : l[k]? = some x) :
    ∃ b o, A = some ⟨b, o, none⟩ ∧ b < B ∧ w.cell? ⟨b, o + k, none⟩ = some (.string x) := by
  have hlt : k < l.length := (List.getElem?_eq_some_iff.1 hk).1
  obtain ⟨b, o, e, hb, hc⟩ := Reads.elem (g := fun x => [Value.string x]) (sz := 1) (fun _ => rfl) (l := l) (by rw [svals_flat]; exact h) hk
  exact ⟨b, o, e, hb, by have := hc 0 _ rfl; simpa using this⟩
theorem StrL.on {w w' : World} {A : Option Addr} {l : List ByteArray} (h : StrL w w.heap.size A l) (hb : Below w.heap.size w w') : StrL w' w'.heap.size A l := (Reads.below h hb).more hb.size
theorem StrL.keep {w w' : World} {B : Nat} {A : Option Addr} {l : List ByteArray} (h : StrL w B A l) (hb : Below B w w') : StrL w' B A l := Reads.below h hb

end Go.Proofs.YtmpaogmfceldjaaDoor
