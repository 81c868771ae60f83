/- The walks of both Chain, and of the reference's Text. -/
import Derived.Test.YtjjmdgiaohmjkaaDoorH5
import Derived.Test.YtjjmdgiaohmjkaaDoorU4
import Derived.Lib.ItoaLen
import Derived.Lib.AppendIntMem
namespace Go.Proofs.YtjjmdgiaohmjkaaDoor
open Go.RowKit
open Go.Sort (grow)

def svals (l : List ByteArray) : List Value := l.map Value.string
theorem svals_flat : ∀ l : List ByteArray, l.flatMap (fun x => [Value.string x]) = svals l
  | [] => rfl
  | a :: l => by rw [List.flatMap_cons, svals_flat l]; rfl
/-- A list of strings in memory. -/
def StrL (w : World) (B : Nat) (A : Option Addr) (l : List ByteArray) : Prop := Reads w B 1 A l.length (svals l)
theorem StrL.cell {w : World} {B : Nat} {A : Option Addr} {l : List ByteArray} (h : StrL w B A l) {k : Nat} {x : ByteArray} (hk : l[k]? = some x) :
    ∃ b o, A = some ⟨b, o, none⟩ ∧ b < B ∧ w.cell? ⟨b, o + k, none⟩ = some (.string x) := by
  have hlt : k < l.length := (List.getElem?_eq_some_iff.1 hk).1
  obtain ⟨b, o, e, hb, hc⟩ := Reads.elem (g := fun x => [Value.string x]) (sz := 1) (fun _ => rfl) (l := l) (by rw [svals_flat]; exact h) hk
  exact ⟨b, o, e, hb, by have := hc 0 _ rfl; simpa using this⟩
theorem StrL.on {w w' : World} {A : Option Addr} {l : List ByteArray} (h : StrL w w.heap.size A l) (hb : Below w.heap.size w w') : StrL w' w'.heap.size A l := (Reads.below h hb).more hb.size
theorem StrL.keep {w w' : World} {B : Nat} {A : Option Addr} {l : List ByteArray} (h : StrL w B A l) (hb : Below B w w') : StrL w' B A l := Reads.below h hb

/-! ### builders -/
theorem BAt.on {T e : TypeId} {B b : Nat} {p : Value} {bs : List Value} {w w' : World} (h : Lib.BuilderAt T e B b p bs w) (hb : Below w.heap.size w w') : Lib.BuilderAt T e B b p bs w' := by
  obtain ⟨h1, v, h2, h3, h4⟩ := h
  exact ⟨h1, v, (hb.block b (Array.getElem?_eq_some_iff.1 h2).1).trans h2, own_below h3 hb, h4⟩
theorem IsB.on {T e : TypeId} {B b : Nat} {bs : List Value} {w w' : World} (h : Lib.IsBuilder T e B b bs w) (hb : Below w.heap.size w w') : Lib.IsBuilder T e B b bs w' := by
  rcases h with h | h
  · exact .inl (BAt.on h hb)
  · exact .inr (BAt.on h hb)
theorem IsB.lt {T e : TypeId} {B b : Nat} {bs : List Value} {w : World} (h : Lib.IsBuilder T e B b bs w) : b < w.heap.size := by
  rcases h with ⟨-, v, h2, -⟩ | ⟨-, v, h2, -⟩ <;> exact (Array.getElem?_eq_some_iff.1 h2).1
abbrev TB : TypeId := 60
abbrev TC : TypeId := 5
def BldB (w : World) (b : Nat) (l : List UInt8) : Prop := Lib.IsBuilder TB TC b b (Lib.byteCells l) w
theorem BldB.fresh (w : World) : BldB (w.alloc (.cells #[.pointer none, .slice none 0 0] TB)) w.heap.size [] :=
  .inl ⟨Nat.le_refl _, .slice none 0 0, heap_alloc_new w _, own_nil _ _ _ _, by simp [Value.ownBlock]⟩
theorem BldB.on {w w' : World} {b : Nat} {l : List UInt8} (h : BldB w b l) (hb : Below w.heap.size w w') : BldB w' b l := IsB.on h hb
theorem BWrite (b : Nat) (l : List UInt8) (s : ByteArray) (w : World) (h : BldB w b l) (hl : l.length + s.size ≤ 140737488355328) :
    Calls Tryd.prog 33 #[.pointer (some ⟨b, 0, none⟩), .string s] w fun e w' => e = .returned (.tuple #[.int .i64 s.size, .nilIface]) ∧ BldB w' b (l ++ s.data.toList) ∧ Below b w w' := by
  refine (Tryd.Builder_WriteString b b (Lib.byteCells l) s w h (by rw [Lib.byteCells_length]; exact hl) (Nat.le_of_lt (IsB.lt h))).mono ?_
  rintro e w' ⟨he, h1, h2⟩
  refine ⟨he, .inr ?_, h2⟩
  rw [Lib.strCells_eq, ← Lib.byteCells_append] at h1
  exact h1
theorem BByte (b : Nat) (l : List UInt8) (w : World) (h : BldB w b l) (hl : l.length + 1 ≤ 140737488355328) :
    Calls Tryd.prog 35 #[.pointer (some ⟨b, 0, none⟩), .int .u8 58] w fun e w' => e = .returned .nilIface ∧ BldB w' b (l ++ [58]) ∧ Below b w w' := by
  refine (Tryd.Builder_WriteByte b b (Lib.byteCells l) 58 w h (by rw [Lib.byteCells_length]; exact hl) (Nat.le_of_lt (IsB.lt h))).mono ?_
  rintro e w' ⟨he, h1, h2⟩
  refine ⟨he, .inr ?_, h2⟩
  rw [Lib.byteCells_append]
  exact h1
theorem Itoa_b (n : Nat) (h : n ≤ 1000000) (w : World) (hX : LaidH w) :
    Calls Tryd.prog 34 #[.int .i64 (n : Int)] w fun e w' => e = .returned (.string ⟨(Lib.itoa (n : Int)).toArray⟩) ∧ Below w.heap.size w w' := by
  refine (Tryd.strconv_Itoa (n : Int) (by omega) (by omega) w hX.tab).mono ?_
  rintro e w' ⟨he, k, os, rfl⟩
  exact ⟨he, Lib.below_grow _ w (Nat.le_refl _) k os⟩
def okL (l : List ByteArray) : Prop := l.length ≤ 1000 ∧ ∀ t ∈ l, t.size ≤ 10000
theorem itoa_sz {n : Nat} (h : n ≤ 1000000) : (⟨(Lib.itoa (n : Int)).toArray⟩ : ByteArray).size ≤ 21 := by
  have := Lib.itoa_length_le (n : Int) (by omega) (by omega)
  rw [← size_len]; simpa using this
theorem chT_len : ∀ (l : List ByteArray), (∀ t ∈ l, t.size ≤ 10000) → (chT l).length ≤ l.length * 11000
  | [], _ => by simp [chT]
  | t :: l, h => by
    have h1 := h t (by simp)
    have h2 := chT_len l (fun x hx => h x (by simp [hx]))
    have h3 := Lib.itoa_length_le (t.size : Int) (by omega) (by omega)
    have e : chT (t :: l) = (Lib.itoa (t.size : Int) ++ 58 :: t.data.toList) ++ chT l := by simp [chT]
    rw [e, List.length_append, List.length_append, List.length_cons, List.length_cons, size_len]
    omega
theorem chT_take {l : List ByteArray} (h : okL l) (k : Nat) : (chT (l.take k)).length ≤ 11000000 := by
  have h1 := chT_len (l.take k) (fun t ht => h.2 t (List.mem_of_mem_take ht))
  have h2 : (l.take k).length ≤ l.length := by rw [List.length_take]; omega
  have := h.1
  omega
theorem chT_step {l : List ByteArray} {k : Nat} {t : ByteArray} (hk : l[k]? = some t) : chT (l.take (k + 1)) = ((chT (l.take k) ++ Lib.itoa (t.size : Int)) ++ [58]) ++ t.data.toList := by
  rw [List.take_add_one, hk]
  show chT (l.take k ++ [t]) = _
  rw [chT_snoc]; simp
set_option maxHeartbeats 2000000 in
theorem Chain_any (A : Option Addr) (c : Nat) (l : List ByteArray) (w : World) (hl : StrL w w.heap.size A l) (hok : okL l) (hX : LaidH w) :
    Calls Tryd.prog 20 #[.slice A l.length c] w fun e w' => e = .returned (.int .u64 (fnv (chT l))) ∧ Below w.heap.size w w' := by
  have HL := Lib.hid hl
  have HX := Lib.hid hX
  have HO := Lib.hid hok
  have hln := hok.1
  clear hl hX hok
  go_enter Tryd.func20, Tryd.ntmps20
  go_wp2_with fail
  go_loopw [8] (fun i wr => ∃ k : Nat, k ≤ l.length ∧ i = .int .i64 k ∧ BldB wr w.heap.size (chT (l.take k)) ∧ Below w.heap.size w wr) (fun i _ => l.length - (intOf i).toNat)
  case atStart => exact ⟨0, Nat.zero_le _, rfl, BldB.fresh w, (Below.refl _ _).alloc (Nat.le_refl _) _⟩
  case round =>
    obtain ⟨k, hk, rfl, hbl, hbr⟩ := hrel
    have HB := Lib.hid hbr
    have HBL := Lib.hid hbl
    have hzr : w.heap.size ≤ wr.heap.size := hbr.size
    have HC := Lib.hid (chT_take HO.out k)
    have HC2 := Lib.hid (chT_take HO.out (k + 1))
    clear hbr hbl
    by_cases hlt : k < l.length
    · obtain ⟨t, ht⟩ : ∃ t, l[k]? = some t := ⟨_, List.getElem?_eq_getElem hlt⟩
      have HS := Lib.hid (chT_step ht)
      have hts := HO.out.2 t (List.mem_of_getElem? ht)
      obtain ⟨b, o, rfl, -, c0⟩ := (HL.out.keep HB.out).cell ht
      have hki : (k : Int) < l.length := by omega
      have hk0 : (0 : Int) ≤ k := by omega
      have hz := itoa_sz (n := t.size) (by omega)
      rw [HS.out] at HC2
      clear ht
      go_wp2_with fail
      refine (Itoa_b t.size (by omega) wr (HX.out.below HB.out)).mono ?_
      rintro e w1 ⟨rfl, hb⟩
      have HB1 := Lib.hid (HB.out.trans (hb.mono hzr))
      have HBL1 := Lib.hid (HBL.out.on hb)
      clear hb
      have HQ := Lib.hid (show (⟨(Lib.itoa (t.size : Int)).toArray⟩ : ByteArray).data.toList = Lib.itoa (t.size : Int) from rfl)
      generalize hs : (⟨(Lib.itoa (t.size : Int)).toArray⟩ : ByteArray) = s at *
      clear hs
      rw [← HQ.out] at HC2 HS
      go_wp2_with fail
      refine (BWrite _ _ s w1 HBL1.out (by have := HC.out; omega)).mono ?_
      rintro e w2 ⟨rfl, h2, hb⟩
      have HB2 := Lib.hid (HB1.out.trans hb)
      have HBL2 := Lib.hid h2
      clear h2 hb
      go_wp2_with fail
      refine (BByte _ _ w2 HBL2.out (by have := HC.out; have := size_len s; rw [List.length_append]; omega)).mono ?_
      rintro e w3 ⟨rfl, h2, hb⟩
      have HB3 := Lib.hid (HB2.out.trans hb)
      have HBL3 := Lib.hid h2
      clear h2 hb
      go_wp2_with fail
      refine (BWrite _ _ t w3 HBL3.out (by have := HC.out; have := size_len s; rw [List.length_append, List.length_append, List.length_singleton]; omega)).mono ?_
      rintro e w4 ⟨rfl, h2, hb⟩
      have HB4 := Lib.hid (HB3.out.trans hb)
      have HBL4 := Lib.hid h2
      clear h2 hb
      go_wp2_with fail
      go_roundw
      case rel => exact ⟨k + 1, by omega, by go_num, by rw [HS.out]; exact HBL4.out, HB4.out⟩
      case measure => simp [intOf]; omega
    · obtain rfl : k = l.length := by omega
      have HT := Lib.hid (List.take_length (l := l))
      rw [HT.out] at HBL HC
      go_wp2_with fail
      refine (Tryd.Builder_String_any w.heap.size w.heap.size (chT l) wr HBL.out hzr).mono ?_
      rintro e w1 ⟨rfl, hb⟩
      have HB1 := Lib.hid (HB.out.trans hb)
      have hsz : (⟨(chT l).toArray⟩ : ByteArray).size ≤ 9223372036854775807 := by rw [← size_len]; have := HC.out; simp; omega
      have HSZ := Lib.hid hsz
      clear hb hsz
      go_wp2_with fail
      refine (Sum_any ⟨(chT l).toArray⟩ w1 HSZ.out).mono ?_
      rintro e w2 ⟨rfl, rfl⟩
      go_wp2_with fail
      go_ret
      exact ⟨rfl, HB1.out⟩
end Go.Proofs.YtjjmdgiaohmjkaaDoor
