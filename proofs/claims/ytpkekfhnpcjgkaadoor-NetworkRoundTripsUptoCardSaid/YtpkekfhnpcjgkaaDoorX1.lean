/- A cut of a string at one byte: the reference's walk. -/
import Derived.Test.YtpkekfhnpcjgkaaDoorU4
import Derived.Test.YtpkekfhnpcjgkaaDoorS1
import Derived.Test.YtpkekfhnpcjgkaaDoorG
namespace Go.Proofs.YtpkekfhnpcjgkaaDoor
open Go.RowKit
open Go.Sort (grow)

theorem info_str : (Tryd.prog.info? 9).map (fun i => (i.zero, i.size, i.bytes)) = some (some (.string ⟨#[]⟩), 1, 16) := by kernel_rfl
def svals (l : List ByteArray) : List Value := l.map Value.string
/-- An owned list of strings. -/
def OwnS (w : World) (base : Nat) (v : Value) (l : List ByteArray) : Prop := w.ownsRow base 9 1 v l.length (svals l)
theorem OwnS.nil (w : World) (base : Nat) : OwnS w base (.slice none 0 0) [] := own_nil w base _ _
theorem OwnS.on {w w' : World} {base : Nat} {v : Value} {l : List ByteArray} (h : OwnS w base v l) (hb : Below w.heap.size w w') : OwnS w' base v l := own_below h hb
theorem OwnS.push {w : World} {base : Nat} {v : Value} {l : List ByteArray} {x : ByteArray} (h : w.ownsRow base 9 1 v (l.length + 1) (svals l ++ [.string x])) : OwnS w base v (l ++ [x]) := by
  unfold OwnS svals
  simpa [svals] using h
theorem OwnS.empty {w : World} {base g : Nat} (hg : g = w.heap.size) (hb : base ≤ w.heap.size) : OwnS (w.alloc (.cells #[] 9)) base (.slice (some ⟨g, 0, none⟩) 0 0) [] := by
  subst hg
  exact ⟨rfl, .inr ⟨w.heap.size, 0, #[], rfl, hb, heap_alloc_new _ _, by simp [maxLen, svals]⟩⟩
/-- A list of strings at a block's head. -/
def StrsAt (w : World) (B g : Nat) (l : List ByteArray) : Prop := B ≤ g ∧ g < w.heap.size ∧ CellsAt w g (svals l)
theorem OwnS.at_ {w : World} {base : Nat} {v : Value} {l : List ByteArray} (h : OwnS w base v l) (hl : 0 < l.length) : ∃ g cap, v = .slice (some ⟨g, 0, none⟩) l.length cap ∧ StrsAt w base g l := by
  obtain ⟨g, cap, rfl, hb, hg⟩ := own_form h hl
  refine ⟨g, cap, rfl, hb, hg, fun j u hu => ?_⟩
  have h' : w.ownsRow base 9 1 (.slice (some ⟨g, 0, none⟩) l.length cap) l.length (svals l) := h
  have := World.ownsRow.cells h' (g := g) rfl j u hu
  rw [Addr.add_lit, Nat.zero_add] at this
  exact this
theorem StrsAt.on {w w' : World} {B g : Nat} {l : List ByteArray} (h : StrsAt w B g l) (hb : Below w.heap.size w w') : StrsAt w' B g l :=
  ⟨h.1, Nat.lt_of_lt_of_le h.2.1 hb.size, h.2.2.below hb h.2.1⟩
theorem StrsAt.cell {w : World} {B g : Nat} {l : List ByteArray} (h : StrsAt w B g l) {k : Nat} {x : ByteArray} (hk : l[k]? = some x) : w.cell? ⟨g, k, none⟩ = some (.string x) :=
  h.2.2 k _ (by unfold svals; rw [List.getElem?_map, hk]; rfl)

/-- The state of a cut in front of byte k: the pieces so far, and where the piece at hand begins. -/
def CutRel (c : UInt8) (s : ByteArray) (k f : Nat) (P : List ByteArray) : Prop :=
  f ≤ k ∧ k ≤ s.size ∧ P.length ≤ f ∧ P.map (·.data.toList) ++ cutA c ((s.data.toList.take k).drop f) (s.data.toList.drop k) = cutL c s.data.toList
theorem CutRel.start (c : UInt8) (s : ByteArray) : CutRel c s 0 0 [] := ⟨Nat.le_refl _, Nat.zero_le _, Nat.le_refl _, by simp [cutL]⟩
theorem drop_byte (s : ByteArray) (k : Nat) (hk : k < s.size) : s.data.toList.drop k = s[k] :: s.data.toList.drop (k + 1) := by
  have h' : k < s.data.toList.length := by simpa using hk
  rw [List.drop_eq_getElem_cons h']
  simp
  rfl
theorem ext_take (s : ByteArray) (f k : Nat) : (s.extract f k).data.toList = (s.data.toList.take k).drop f := by
  rw [Lib.extract_data, List.drop_take]
theorem CutRel.hit {c : UInt8} {s : ByteArray} {k f : Nat} {P : List ByteArray} (h : CutRel c s k f P) (hk : k < s.size) (e : s[k] = c) : CutRel c s (k + 1) (k + 1) (P ++ [s.extract f k]) := by
  obtain ⟨h1, h2, h3, h4⟩ := h
  refine ⟨Nat.le_refl _, hk, by simp; omega, ?_⟩
  rw [← h4, drop_byte s k hk, e, cutA_eq, List.map_append, List.append_assoc]
  have : (s.data.toList.take (k + 1)).drop (k + 1) = [] := List.drop_eq_nil_of_le (by simp; omega)
  rw [this]
  simp only [List.map_cons, List.map_nil, ext_take, List.cons_append, List.nil_append]
theorem CutRel.miss {c : UInt8} {s : ByteArray} {k f : Nat} {P : List ByteArray} (h : CutRel c s k f P) (hk : k < s.size) (e : s[k] ≠ c) : CutRel c s (k + 1) f P := by
  obtain ⟨h1, h2, h3, h4⟩ := h
  refine ⟨by omega, hk, h3, ?_⟩
  rw [← h4, drop_byte s k hk, cutA_ne e, List.take_add_one, byte_at s k hk]
  simp only [Option.toList_some]
  rw [List.drop_append_of_le_length (by rw [List.length_take]; have := size_len s; omega)]
theorem CutRel.done {c : UInt8} {s : ByteArray} {f : Nat} {P : List ByteArray} (h : CutRel c s s.size f P) : P ++ [s.extract f s.size] = pcs c s := by
  obtain ⟨h1, h2, h3, h4⟩ := h
  have hd : s.data.toList.drop s.size = [] := List.drop_eq_nil_of_le (by have := size_len s; omega)
  rw [hd, cutA] at h4
  have h5 : (P ++ [s.extract f s.size]).map (·.data.toList) = cutL c s.data.toList := by
    rw [← h4, List.map_append, List.map_cons, List.map_nil, ext_take]
  unfold pcs
  rw [← h5, List.map_map]
  conv => lhs; rw [← List.map_id (P ++ [s.extract f s.size])]
  apply List.map_congr_left
  intro t _
  obtain ⟨⟨l⟩⟩ := t
  rfl
theorem pcs_pos (c : UInt8) (s : ByteArray) : 0 < (pcs c s).length := by
  unfold pcs
  rw [List.length_map]
  have := cutL_ne_nil c s.data.toList
  cases h : cutL c s.data.toList with
  | nil => exact absurd h this
  | cons a b => simp
theorem pcs_size {c : UInt8} {s t : ByteArray} (h : t ∈ pcs c s) : t.size ≤ s.size := by
  unfold pcs at h
  obtain ⟨l, hl, rfl⟩ := List.mem_map.1 h
  have := cutL_piece hl
  rw [← size_len, ← size_len s]
  simpa using this
set_option maxHeartbeats 2000000 in
set_option maxRecDepth 20000 in
theorem rcut_own (c : UInt8) (s : ByteArray) (w : World) (hs : s.size ≤ 1048576) :
    Calls Tryd.prog 82 #[.string s, .int .u8 (c.toNat : Int)] w fun e w' => ∃ v, e = .returned v ∧ OwnS w' w.heap.size v (pcs c s) ∧ Below w.heap.size w w' := by
  obtain ⟨i0, ih, iz0, iz1, iz2⟩ := info_parts info_str
  go_enter Tryd.func82, Tryd.ntmps82
  go_wp2_with fail
  go_loopw [5, 6, 7] (fun v f i wr => ∃ (k n : Nat) (P : List ByteArray), i = .int .i64 k ∧ f = .int .i64 n ∧ CutRel c s k n P ∧ OwnS wr w.heap.size v P ∧ Below w.heap.size w wr) (fun _ _ i _ => s.size - (intOf i).toNat)
  case atStart => exact ⟨0, 0, [], rfl, rfl, CutRel.start c s, OwnS.empty rfl (Nat.le_refl _), (Below.refl _ _).alloc (Nat.le_refl _) _⟩
  case round =>
    obtain ⟨k, n, P, rfl, rfl, hrel', hv, hbr⟩ := hrel
    obtain ⟨v, rfl⟩ : ∃ v : Value, v = u5 := ⟨_, rfl⟩
    have HR := Lib.hid hbr
    have HV := Lib.hid hv
    have hzr := hbr.size
    have HC := Lib.hid hrel'
    obtain ⟨hnk, hks, hpl, -⟩ := hrel'
    clear hbr hv
    by_cases hlt : k < s.size
    · by_cases he : s[k] = c
      · have hbe : ((s[k].toNat : Int) == (c.toNat : Int)) = true := beq_iff_eq.2 (by rw [he])
        have HN := Lib.hid (HC.out.hit hlt he)
        clear he
        go_wp2_with (at_builtin; go_loud (refine wpList_append_own _ rfl (.tmp 20) (.tmp 25) 76 rfl w.heap.size 9 i0 (.string ⟨#[]⟩) 1 16 Tryd.underlying76 ih iz0 iz1 iz2 rfl (by decide) _ P.length (svals P) rfl (HV.out.alloc _) ⟨wr.heap.size, 0, none⟩ 1 1 [.string (s.extract n k)] rfl rfl (cells_new_at rfl) (by intro u hu; simp at hu; subst hu; rfl) (by simp only [maxLen]; omega) (by omega) (by simp; omega) ?_); intro v' wn hown1 hgr hiff; clear hiff; have HG := Lib.hid (And.intro hown1 hgr); clear hown1 hgr)
        have hlow : Below w.heap.size w wn := ((HR.out).alloc (by omega) _).grown HG.out.2 (by simp; omega) (fun q hq => (HV.out.lt q hq).1)
        have hown := HG.out.1
        have HF := Lib.hid (And.intro (OwnS.push hown) hlow)
        clear hlow hown HG
        go_wp2_with fail
        go_roundw
        case rel => exact ⟨k + 1, k + 1, P ++ [s.extract n k], by go_num, by go_num, HN.out, HF.out.1, HF.out.2⟩
        case measure => simp [intOf]; omega
      · have hbe : ((s[k].toNat : Int) == (c.toNat : Int)) = false := beq_eq_false_iff_ne.2 (fun e => he (UInt8.toNat_inj.1 (by omega)))
        have HN := Lib.hid (HC.out.miss hlt he)
        clear he
        go_wp2_with fail
        go_roundw
        case rel => exact ⟨k + 1, n, P, by go_num, rfl, HN.out, HV.out, HR.out⟩
        case measure => simp [intOf]; omega
    · obtain rfl : k = s.size := by omega
      have HN := Lib.hid HC.out.done
      go_wp2_with (at_builtin; go_loud (refine wpList_append_own _ rfl (.tmp 29) (.tmp 33) 76 rfl w.heap.size 9 i0 (.string ⟨#[]⟩) 1 16 Tryd.underlying76 ih iz0 iz1 iz2 rfl (by decide) _ P.length (svals P) rfl (HV.out.alloc _) ⟨wr.heap.size, 0, none⟩ 1 1 [.string (s.extract n s.size)] rfl rfl (cells_new_at rfl) (by intro u hu; simp at hu; subst hu; rfl) (by simp only [maxLen]; omega) (by omega) (by simp; omega) ?_); intro v' wn hown1 hgr hiff; clear hiff; have HG := Lib.hid (And.intro hown1 hgr); clear hown1 hgr)
      have hlow : Below w.heap.size w wn := ((HR.out).alloc (by omega) _).grown HG.out.2 (by simp; omega) (fun q hq => (HV.out.lt q hq).1)
      have hown := HG.out.1
      have HF := Lib.hid (And.intro (OwnS.push hown) hlow)
      clear hlow hown HG
      go_wp2_with fail
      go_ret
      exact ⟨_, rfl, by rw [← HN.out]; exact HF.out.1, HF.out.2⟩
theorem rcut_any (c : UInt8) (s : ByteArray) (w : World) (hs : s.size ≤ 1048576) :
    Calls Tryd.prog 82 #[.string s, .int .u8 (c.toNat : Int)] w fun e w' => (∃ g cap, e = .returned (.slice (some ⟨g, 0, none⟩) (pcs c s).length cap) ∧ StrsAt w' w.heap.size g (pcs c s)) ∧ Below w.heap.size w w' := by
  refine (rcut_own c s w hs).mono ?_
  rintro e w' ⟨v, rfl, ho, hb⟩
  obtain ⟨g, cap, rfl, h⟩ := ho.at_ (pcs_pos c s)
  exact ⟨⟨g, cap, rfl, h⟩, hb⟩
end Go.Proofs.YtpkekfhnpcjgkaaDoor
