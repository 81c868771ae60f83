/- The walk of Address. -/
import Derived.Test.YtpkekfhnpcjgkaaDoorW9
import Derived.Test.YtpkekfhnpcjgkaaDoorI
import Derived.Test.YtpkekfhnpcjgkaaDoorShelf2
import Derived.Lib.SplitLaws
namespace Go.Proofs.YtpkekfhnpcjgkaaDoor
open Go.RowKit
open Nw
open Go.Sort (grow)

/-- What the walks of the texts ask besides: the processor's feature that strings.Index asks for. -/
structure LaidS (w : World) : Prop where
  laid : LaidW w
  mx : ∃ m : Int, w.cell? ⟨2, 0, none⟩ = some (.int .i64 m)
theorem LaidS.below {W W' : World} (h : LaidS W) (hb : Below W.heap.size W W') : LaidS W' := by
  refine ⟨h.laid.below hb, ?_⟩
  obtain ⟨m, hm⟩ := h.mx
  have hlt : (2 : Nat) < W.heap.size := Lib.lt_of_cell hm
  exact ⟨m, (hb.cell (p := ⟨2, 0, none⟩) hlt).trans hm⟩
def dotB : ByteArray := ⟨#[46]⟩
/-- One part of an address. -/
def ptB (x : Int × Int) : Bool := x.2 == 0 && decide (0 ≤ x.1) && decide (x.1 ≤ 255)
def adL : List (Int × Int) → Int × Int
  | [a, b, c, d] => if ptB a && ptB b && ptB c && ptB d then (16777216 * a.1 + 65536 * b.1 + 256 * c.1 + d.1, 0) else (0, 1)
  | _ => (0, 1)
/-- The address of the parts of a text. -/
def adT (l : List ByteArray) : Int × Int := adL (l.map fun t => parI t.data.toList)
def parts (s : ByteArray) : List ByteArray := Lib.splitB dotB 0 (Lib.countB s dotB) s
def adS (s : ByteArray) : Int × Int := adT (parts s)
theorem parts_len (s : ByteArray) : (parts s).length = Lib.countB s dotB + 1 := Lib.splitB_all dotB (by decide) 0 _ s rfl
theorem ptB_no {a e : Int} (h : ¬ (e = 0 ∧ 0 ≤ a ∧ a ≤ 255)) : ptB (a, e) = false := by
  unfold ptB
  rcases Bool.eq_false_or_eq_true (e == 0 && decide (0 ≤ a) && decide (a ≤ 255)) with h2 | h2
  · simp at h2; exact absurd ⟨h2.1.1, h2.1.2, h2.2⟩ h
  · exact h2
theorem ptB_yes {a e : Int} (h : e = 0 ∧ 0 ≤ a ∧ a ≤ 255) : ptB (a, e) = true := by simp [ptB, h]
theorem adL_short {l : List (Int × Int)} (h : l.length ≠ 4) : adL l = (0, 1) := by
  match l, h with
  | [], _ => rfl
  | [_], _ => rfl
  | [_, _], _ => rfl
  | [_, _, _], _ => rfl
  | [_, _, _, _], h => exact absurd rfl h
  | _ :: _ :: _ :: _ :: _ :: _, _ => rfl
theorem adL_no {l : List (Int × Int)} {k : Nat} {x : Int × Int} (hk : l[k]? = some x) (h : ptB x = false) : adL l = (0, 1) := by
  match l, k, hk with
  | [], _, _ => rfl
  | [_], _, _ => rfl
  | [_, _], _, _ => rfl
  | [_, _, _], _, _ => rfl
  | [a, b, c, d], 0, hk => simp at hk; subst hk; simp [adL, h]
  | [a, b, c, d], 1, hk => simp at hk; subst hk; simp [adL, h]
  | [a, b, c, d], 2, hk => simp at hk; subst hk; simp [adL, h]
  | [a, b, c, d], 3, hk => simp at hk; subst hk; simp [adL, h]
  | [a, b, c, d], _ + 4, hk => simp at hk
  | _ :: _ :: _ :: _ :: _ :: _, _, _ => rfl
theorem adL_yes {a b c d : Int} (ha : 0 ≤ a ∧ a ≤ 255) (hb : 0 ≤ b ∧ b ≤ 255) (hc : 0 ≤ c ∧ c ≤ 255) (hd : 0 ≤ d ∧ d ≤ 255) :
    adL [(a, 0), (b, 0), (c, 0), (d, 0)] = (16777216 * a + 65536 * b + 256 * c + d, 0) := by
  simp only [adL, ptB_yes (show (0 : Int) = 0 ∧ 0 ≤ a ∧ a ≤ 255 from ⟨rfl, ha⟩), ptB_yes (show (0 : Int) = 0 ∧ 0 ≤ b ∧ b ≤ 255 from ⟨rfl, hb⟩), ptB_yes (show (0 : Int) = 0 ∧ 0 ≤ c ∧ c ≤ 255 from ⟨rfl, hc⟩), ptB_yes (show (0 : Int) = 0 ∧ 0 ≤ d ∧ d ≤ 255 from ⟨rfl, hd⟩)]
  rfl
theorem i64_or_nat (a b : Nat) (ha : a < 9223372036854775808) (hb : b < 9223372036854775808) : bits .or .i64 (a : Int) (b : Int) = ((a ||| b : Nat) : Int) := by
  have hx : a ||| b < 2 ^ 63 := Nat.or_lt_two_pow (by omega) (by omega)
  show IntKind.i64.wrap ((BitVec.ofInt 64 (a : Int) ||| BitVec.ofInt 64 (b : Int)).toNat : Int) = _
  have h1 : (BitVec.ofInt 64 (a : Int)).toNat = a := by rw [BitVec.ofInt_natCast, BitVec.toNat_ofNat]; exact Nat.mod_eq_of_lt (by omega)
  have h2 : (BitVec.ofInt 64 (b : Int)).toNat = b := by rw [BitVec.ofInt_natCast, BitVec.toNat_ofNat]; exact Nat.mod_eq_of_lt (by omega)
  rw [BitVec.toNat_or, h1, h2]
  exact IntWalk.i64_in _ (by omega)
theorem or_add (i : Nat) {a b : Nat} (h : b < 2 ^ i) : 2 ^ i * a ||| b = 2 ^ i * a + b := (Nat.two_pow_add_eq_or_of_lt h a).symm
theorem or_four {a b c d : Int} (ha : 0 ≤ a ∧ a ≤ 255) (hb : 0 ≤ b ∧ b ≤ 255) (hc : 0 ≤ c ∧ c ≤ 255) (hd : 0 ≤ d ∧ d ≤ 255) :
    bits .or .i64 (a * 16777216) (b * 65536) = a * 16777216 + b * 65536 ∧ bits .or .i64 (a * 16777216 + b * 65536) (c * 256) = a * 16777216 + b * 65536 + c * 256 ∧
    bits .or .i64 (a * 16777216 + b * 65536 + c * 256) d = 16777216 * a + 65536 * b + 256 * c + d := by
  obtain ⟨a, rfl⟩ := Int.eq_ofNat_of_zero_le ha.1
  obtain ⟨b, rfl⟩ := Int.eq_ofNat_of_zero_le hb.1
  obtain ⟨c, rfl⟩ := Int.eq_ofNat_of_zero_le hc.1
  obtain ⟨d, rfl⟩ := Int.eq_ofNat_of_zero_le hd.1
  refine ⟨?_, ?_, ?_⟩
  · have h := i64_or_nat (2 ^ 24 * a) (65536 * b) (by omega) (by omega)
    rw [or_add 24 (by omega)] at h
    rw [show (a : Int) * 16777216 = ((2 ^ 24 * a : Nat) : Int) by omega, show (b : Int) * 65536 = ((65536 * b : Nat) : Int) by omega, h]
    omega
  · have h := i64_or_nat (2 ^ 16 * (256 * a + b)) (256 * c) (by omega) (by omega)
    rw [or_add 16 (by omega)] at h
    rw [show (a : Int) * 16777216 + (b : Int) * 65536 = ((2 ^ 16 * (256 * a + b) : Nat) : Int) by omega, show (c : Int) * 256 = ((256 * c : Nat) : Int) by omega, h]
    omega
  · have h := i64_or_nat (2 ^ 8 * (65536 * a + 256 * b + c)) d (by omega) (by omega)
    rw [or_add 8 (by omega)] at h
    rw [show (a : Int) * 16777216 + (b : Int) * 65536 + (c : Int) * 256 = ((2 ^ 8 * (65536 * a + 256 * b + c) : Nat) : Int) by omega, h]
    omega
theorem piece_le (sep : ByteArray) : ∀ (k : Nat) (s t : ByteArray), t ∈ Lib.splitB sep 0 k s → t.size ≤ s.size
  | 0, s, t, h => by
    rw [Lib.splitB_zero] at h
    simp at h; rw [h]; exact Nat.le_refl _
  | k + 1, s, t, h => by
    unfold Lib.splitB at h
    split at h
    · simp at h; rw [h]; exact Nat.le_refl _
    · rcases List.mem_cons.1 h with h | h
      · rw [h]; simp; omega
      · have := piece_le sep k _ t h
        simp at this; omega
theorem Split_dot (s : ByteArray) (w : World) (hs : s.size < 4294967281) (hX : LaidS w) :
    Calls Tryd.prog 83 #[.string s, .string ⟨#[46]⟩] w fun e w' => e = .returned (.slice (some ⟨w.heap.size, 0, none⟩) (parts s).length (parts s).length) ∧ Below w.heap.size w w' ∧ Blk w' w.heap.size 9 ((parts s).map Value.string).toArray := by
  obtain ⟨m, hm⟩ := hX.mx
  refine (Tryd.strings_Split s dotB m w hs hm (by decide)).mono ?_
  rintro e w1 ⟨rfl, rfl⟩
  rw [← parts_len s]
  exact ⟨rfl, (Below.refl _ _).alloc (Nat.le_refl _) _, Blk.new _ _ _⟩
set_option maxHeartbeats 4000000 in
set_option maxRecDepth 20000 in
theorem Address_any (s : ByteArray) (w : World) (hs : s.size < 4294967281) (hX : LaidS w) :
    Calls Tryd.prog 48 #[.string s] w fun e w' => e = .returned (tup2 (adS s)) ∧ Below w.heap.size w w' := by
  have hsz := piece_le dotB (Lib.countB s dotB) s
  have HX := Lib.hid hX
  have HS := Lib.hid (show ∀ t ∈ parts s, t.size ≤ 140737488351232 from fun t ht => by have := hsz t ht; omega)
  have HY := Lib.hid (show adS s = adL ((parts s).map fun t => parI t.data.toList) from rfl)
  have Hs := Lib.hid hs
  clear hX hsz hs
  go_enter Tryd.func48, Tryd.ntmps48
  go_wp2_with fail
  refine (Split_dot s w Hs.out HX.out).mono ?_
  rintro e w1 ⟨rfl, hb, bs⟩
  have HB1 := Lib.hid hb
  have hz1 := hb.size
  clear hb
  generalize parts s = L at *
  by_cases h4 : L.length = 4
  · obtain ⟨a, b, c, d, rfl⟩ : ∃ a b c d, L = [a, b, c, d] := by
      match L, h4 with
      | [a, b, c, d], _ => exact ⟨a, b, c, d, rfl⟩
    clear h4
    have HY := Lib.hid (show adS s = adL [parI a.data.toList, parI b.data.toList, parI c.data.toList, parI d.data.toList] from HY.out)
    have bs : Blk w1 w.heap.size 9 #[.string a, .string b, .string c, .string d] := bs
    have lbs := bs.lt
    have HA := Lib.hid (show a.size ≤ 140737488351232 ∧ b.size ≤ 140737488351232 ∧ c.size ≤ 140737488351232 ∧ d.size ≤ 140737488351232 from ⟨HS.out a (by simp), HS.out b (by simp), HS.out c (by simp), HS.out d (by simp)⟩)
    clear HS
    go_wp2_with fail
    go_loopw [14] (fun i wr => ((i = .int .i64 0 ∧ Blk wr w1.heap.size 72 #[.int .i64 0, .int .i64 0, .int .i64 0, .int .i64 0]) ∨ (∃ x0 : Int, i = .int .i64 1 ∧ (parI a.data.toList = (x0, 0) ∧ 0 ≤ x0 ∧ x0 ≤ 255) ∧ Blk wr w1.heap.size 72 #[.int .i64 x0, .int .i64 0, .int .i64 0, .int .i64 0]) ∨ (∃ x0 : Int, ∃ x1 : Int, i = .int .i64 2 ∧ (parI a.data.toList = (x0, 0) ∧ 0 ≤ x0 ∧ x0 ≤ 255) ∧ (parI b.data.toList = (x1, 0) ∧ 0 ≤ x1 ∧ x1 ≤ 255) ∧ Blk wr w1.heap.size 72 #[.int .i64 x0, .int .i64 x1, .int .i64 0, .int .i64 0]) ∨ (∃ x0 : Int, ∃ x1 : Int, ∃ x2 : Int, i = .int .i64 3 ∧ (parI a.data.toList = (x0, 0) ∧ 0 ≤ x0 ∧ x0 ≤ 255) ∧ (parI b.data.toList = (x1, 0) ∧ 0 ≤ x1 ∧ x1 ≤ 255) ∧ (parI c.data.toList = (x2, 0) ∧ 0 ≤ x2 ∧ x2 ≤ 255) ∧ Blk wr w1.heap.size 72 #[.int .i64 x0, .int .i64 x1, .int .i64 x2, .int .i64 0]) ∨ (∃ x0 : Int, ∃ x1 : Int, ∃ x2 : Int, ∃ x3 : Int, i = .int .i64 4 ∧ (parI a.data.toList = (x0, 0) ∧ 0 ≤ x0 ∧ x0 ≤ 255) ∧ (parI b.data.toList = (x1, 0) ∧ 0 ≤ x1 ∧ x1 ≤ 255) ∧ (parI c.data.toList = (x2, 0) ∧ 0 ≤ x2 ∧ x2 ≤ 255) ∧ (parI d.data.toList = (x3, 0) ∧ 0 ≤ x3 ∧ x3 ≤ 255) ∧ Blk wr w1.heap.size 72 #[.int .i64 x0, .int .i64 x1, .int .i64 x2, .int .i64 x3])) ∧ Below w.heap.size w wr ∧ Blk wr w.heap.size 9 #[.string a, .string b, .string c, .string d]) (fun i _ => 4 - (intOf i).toNat)
    case atStart => exact ⟨.inl ⟨rfl, Blk.new _ _ _⟩, HB1.out.alloc hz1 _, bs.alloc _⟩
    case round =>
      obtain ⟨hc, hb, bs⟩ := hrel
      have HB := Lib.hid hb
      have hzr := hb.size
      have lbs := bs.lt
      clear hb
      rcases hc with ⟨rfl, br⟩ | ⟨x0, rfl, h0, br⟩ | ⟨x0, x1, rfl, h0, h1, br⟩ | ⟨x0, x1, x2, rfl, h0, h1, h2, br⟩ | ⟨x0, x1, x2, x3, rfl, h0, h1, h2, h3, br⟩
      · have lbr := br.lt
        have q0 : wr.cell? ⟨w.heap.size, 0, none⟩ = some (.string a) := bs.cell 0
        skip
        go_wp2_with fail
        refine (Parse_any a wr HA.out.1 (HX.out.laid.below HB.out)).mono ?_
        rintro e w2 ⟨rfl, hb⟩
        clear q0
        have hz2 := hb.size
        have br := br.on hb
        have bs := bs.on hb
        have HB2 := Lib.hid (HB.out.trans (hb.mono hzr))
        clear hb
        have HZ := Lib.hid (fun (h : ptB (parI a.data.toList) = false) => adL_no (l := [parI a.data.toList, parI b.data.toList, parI c.data.toList, parI d.data.toList]) (k := 0) rfl h)
        simp only [tup2]
        generalize hp : parI a.data.toList = A at *
        obtain ⟨n, e⟩ := A
        have HP := Lib.hid hp
        clear hp
        by_cases he : e = 0
        · have heb : (e != 0) = false := by rw [he]; rfl
          by_cases hn : 0 ≤ n ∧ n ≤ 255
          · have hi := inB_yes hn
            have HN := Lib.hid (And.intro he hn)
            clear he hn
            go_wp2_with fail
            refine (in_any _ _ _ _).mono ?_
            rintro e' wq ⟨rfl, rfl⟩
            rw [hi]
            have f0 : w2.frozen? ⟨w1.heap.size, 0, none⟩ = false := br.frozen 0
            have q1 : w2.cell? ⟨w1.heap.size, 0, none⟩ = some (.int .i64 0) := br.cell 0
            go_wp2_with fail
            go_roundw
            case rel =>
              refine ⟨.inr (.inl ⟨n, rfl, ⟨by rw [HP.out, HN.out.1], HN.out.2⟩, br.set_ 0 _⟩), HB2.out.setCell (p := ⟨w1.heap.size, 0, none⟩) hz1 _, bs.far (p := ⟨w1.heap.size, 0, none⟩) (by show w.heap.size ≠ w1.heap.size; omega) _⟩
            case measure => simp [intOf]
          · have hi := inB_no hn
            have HD := Lib.hid (HY.out.trans (HZ.out (ptB_no fun h => hn h.2)))
            clear he hn
            go_wp2_with fail
            refine (in_any _ _ _ _).mono ?_
            rintro e' wq ⟨rfl, rfl⟩
            rw [hi]
            go_wp2_with fail
            go_ret2
            exact ⟨ret_tup2 HD.out, HB2.out⟩
        · have heb : (e != 0) = true := bne_iff_ne.2 he
          have HD := Lib.hid (HY.out.trans (HZ.out (ptB_no fun h => he h.1)))
          clear he
          go_wp2_with fail
          go_ret2
          exact ⟨ret_tup2 HD.out, HB2.out⟩
      · have lbr := br.lt
        have q0 : wr.cell? ⟨w.heap.size, 1, none⟩ = some (.string b) := bs.cell 1
        have H0 := Lib.hid h0
        clear h0
        go_wp2_with fail
        refine (Parse_any b wr HA.out.2.1 (HX.out.laid.below HB.out)).mono ?_
        rintro e w2 ⟨rfl, hb⟩
        clear q0
        have hz2 := hb.size
        have br := br.on hb
        have bs := bs.on hb
        have HB2 := Lib.hid (HB.out.trans (hb.mono hzr))
        clear hb
        have HZ := Lib.hid (fun (h : ptB (parI b.data.toList) = false) => adL_no (l := [parI a.data.toList, parI b.data.toList, parI c.data.toList, parI d.data.toList]) (k := 1) rfl h)
        simp only [tup2]
        generalize hp : parI b.data.toList = A at *
        obtain ⟨n, e⟩ := A
        have HP := Lib.hid hp
        clear hp
        by_cases he : e = 0
        · have heb : (e != 0) = false := by rw [he]; rfl
          by_cases hn : 0 ≤ n ∧ n ≤ 255
          · have hi := inB_yes hn
            have HN := Lib.hid (And.intro he hn)
            clear he hn
            go_wp2_with fail
            refine (in_any _ _ _ _).mono ?_
            rintro e' wq ⟨rfl, rfl⟩
            rw [hi]
            have f0 : w2.frozen? ⟨w1.heap.size, 1, none⟩ = false := br.frozen 1
            have q1 : w2.cell? ⟨w1.heap.size, 1, none⟩ = some (.int .i64 0) := br.cell 1
            go_wp2_with fail
            go_roundw
            case rel =>
              refine ⟨.inr (.inr (.inl ⟨x0, n, rfl, H0.out, ⟨by rw [HP.out, HN.out.1], HN.out.2⟩, br.set_ 1 _⟩)), HB2.out.setCell (p := ⟨w1.heap.size, 1, none⟩) hz1 _, bs.far (p := ⟨w1.heap.size, 1, none⟩) (by show w.heap.size ≠ w1.heap.size; omega) _⟩
            case measure => simp [intOf]
          · have hi := inB_no hn
            have HD := Lib.hid (HY.out.trans (HZ.out (ptB_no fun h => hn h.2)))
            clear he hn
            go_wp2_with fail
            refine (in_any _ _ _ _).mono ?_
            rintro e' wq ⟨rfl, rfl⟩
            rw [hi]
            go_wp2_with fail
            go_ret2
            exact ⟨ret_tup2 HD.out, HB2.out⟩
        · have heb : (e != 0) = true := bne_iff_ne.2 he
          have HD := Lib.hid (HY.out.trans (HZ.out (ptB_no fun h => he h.1)))
          clear he
          go_wp2_with fail
          go_ret2
          exact ⟨ret_tup2 HD.out, HB2.out⟩
      · have lbr := br.lt
        have q0 : wr.cell? ⟨w.heap.size, 2, none⟩ = some (.string c) := bs.cell 2
        have H0 := Lib.hid h0
        have H1 := Lib.hid h1
        clear h0 h1
        go_wp2_with fail
        refine (Parse_any c wr HA.out.2.2.1 (HX.out.laid.below HB.out)).mono ?_
        rintro e w2 ⟨rfl, hb⟩
        clear q0
        have hz2 := hb.size
        have br := br.on hb
        have bs := bs.on hb
        have HB2 := Lib.hid (HB.out.trans (hb.mono hzr))
        clear hb
        have HZ := Lib.hid (fun (h : ptB (parI c.data.toList) = false) => adL_no (l := [parI a.data.toList, parI b.data.toList, parI c.data.toList, parI d.data.toList]) (k := 2) rfl h)
        simp only [tup2]
        generalize hp : parI c.data.toList = A at *
        obtain ⟨n, e⟩ := A
        have HP := Lib.hid hp
        clear hp
        by_cases he : e = 0
        · have heb : (e != 0) = false := by rw [he]; rfl
          by_cases hn : 0 ≤ n ∧ n ≤ 255
          · have hi := inB_yes hn
            have HN := Lib.hid (And.intro he hn)
            clear he hn
            go_wp2_with fail
            refine (in_any _ _ _ _).mono ?_
            rintro e' wq ⟨rfl, rfl⟩
            rw [hi]
            have f0 : w2.frozen? ⟨w1.heap.size, 2, none⟩ = false := br.frozen 2
            have q1 : w2.cell? ⟨w1.heap.size, 2, none⟩ = some (.int .i64 0) := br.cell 2
            go_wp2_with fail
            go_roundw
            case rel =>
              refine ⟨.inr (.inr (.inr (.inl ⟨x0, x1, n, rfl, H0.out, H1.out, ⟨by rw [HP.out, HN.out.1], HN.out.2⟩, br.set_ 2 _⟩))), HB2.out.setCell (p := ⟨w1.heap.size, 2, none⟩) hz1 _, bs.far (p := ⟨w1.heap.size, 2, none⟩) (by show w.heap.size ≠ w1.heap.size; omega) _⟩
            case measure => simp [intOf]
          · have hi := inB_no hn
            have HD := Lib.hid (HY.out.trans (HZ.out (ptB_no fun h => hn h.2)))
            clear he hn
            go_wp2_with fail
            refine (in_any _ _ _ _).mono ?_
            rintro e' wq ⟨rfl, rfl⟩
            rw [hi]
            go_wp2_with fail
            go_ret2
            exact ⟨ret_tup2 HD.out, HB2.out⟩
        · have heb : (e != 0) = true := bne_iff_ne.2 he
          have HD := Lib.hid (HY.out.trans (HZ.out (ptB_no fun h => he h.1)))
          clear he
          go_wp2_with fail
          go_ret2
          exact ⟨ret_tup2 HD.out, HB2.out⟩
      · have lbr := br.lt
        have q0 : wr.cell? ⟨w.heap.size, 3, none⟩ = some (.string d) := bs.cell 3
        have H0 := Lib.hid h0
        have H1 := Lib.hid h1
        have H2 := Lib.hid h2
        clear h0 h1 h2
        go_wp2_with fail
        refine (Parse_any d wr HA.out.2.2.2 (HX.out.laid.below HB.out)).mono ?_
        rintro e w2 ⟨rfl, hb⟩
        clear q0
        have hz2 := hb.size
        have br := br.on hb
        have bs := bs.on hb
        have HB2 := Lib.hid (HB.out.trans (hb.mono hzr))
        clear hb
        have HZ := Lib.hid (fun (h : ptB (parI d.data.toList) = false) => adL_no (l := [parI a.data.toList, parI b.data.toList, parI c.data.toList, parI d.data.toList]) (k := 3) rfl h)
        simp only [tup2]
        generalize hp : parI d.data.toList = A at *
        obtain ⟨n, e⟩ := A
        have HP := Lib.hid hp
        clear hp
        by_cases he : e = 0
        · have heb : (e != 0) = false := by rw [he]; rfl
          by_cases hn : 0 ≤ n ∧ n ≤ 255
          · have hi := inB_yes hn
            have HN := Lib.hid (And.intro he hn)
            clear he hn
            go_wp2_with fail
            refine (in_any _ _ _ _).mono ?_
            rintro e' wq ⟨rfl, rfl⟩
            rw [hi]
            have f0 : w2.frozen? ⟨w1.heap.size, 3, none⟩ = false := br.frozen 3
            have q1 : w2.cell? ⟨w1.heap.size, 3, none⟩ = some (.int .i64 0) := br.cell 3
            go_wp2_with fail
            go_roundw
            case rel =>
              refine ⟨.inr (.inr (.inr (.inr (⟨x0, x1, x2, n, rfl, H0.out, H1.out, H2.out, ⟨by rw [HP.out, HN.out.1], HN.out.2⟩, br.set_ 3 _⟩)))), HB2.out.setCell (p := ⟨w1.heap.size, 3, none⟩) hz1 _, bs.far (p := ⟨w1.heap.size, 3, none⟩) (by show w.heap.size ≠ w1.heap.size; omega) _⟩
            case measure => simp [intOf]
          · have hi := inB_no hn
            have HD := Lib.hid (HY.out.trans (HZ.out (ptB_no fun h => hn h.2)))
            clear he hn
            go_wp2_with fail
            refine (in_any _ _ _ _).mono ?_
            rintro e' wq ⟨rfl, rfl⟩
            rw [hi]
            go_wp2_with fail
            go_ret2
            exact ⟨ret_tup2 HD.out, HB2.out⟩
        · have heb : (e != 0) = true := bne_iff_ne.2 he
          have HD := Lib.hid (HY.out.trans (HZ.out (ptB_no fun h => he h.1)))
          clear he
          go_wp2_with fail
          go_ret2
          exact ⟨ret_tup2 HD.out, HB2.out⟩
      · obtain ⟨p0, l0, u0⟩ := h0
        obtain ⟨p1, l1, u1⟩ := h1
        obtain ⟨p2, l2, u2⟩ := h2
        obtain ⟨p3, l3, u3⟩ := h3
        obtain ⟨o1, o2, o3⟩ := or_four ⟨l0, u0⟩ ⟨l1, u1⟩ ⟨l2, u2⟩ ⟨l3, u3⟩
        have HD := Lib.hid (show adS s = (16777216 * x0 + 65536 * x1 + 256 * x2 + x3, 0) by rw [HY.out, p0, p1, p2, p3, adL_yes ⟨l0, u0⟩ ⟨l1, u1⟩ ⟨l2, u2⟩ ⟨l3, u3⟩])
        clear p0 p1 p2 p3
        have q0 : wr.cell? ⟨w1.heap.size, 0, none⟩ = some (.int .i64 x0) := br.cell 0
        have q1 : wr.cell? ⟨w1.heap.size, 1, none⟩ = some (.int .i64 x1) := br.cell 1
        have q2 : wr.cell? ⟨w1.heap.size, 2, none⟩ = some (.int .i64 x2) := br.cell 2
        have q3 : wr.cell? ⟨w1.heap.size, 3, none⟩ = some (.int .i64 x3) := br.cell 3
        go_wp2_with fail
        go_ret2
        exact ⟨ret_tup2 HD.out, HB.out⟩
  · have hl : ((L.length : Int) != 4) = true := bne_iff_ne.2 (by omega)
    have HD := Lib.hid (HY.out.trans (adL_short (by rw [List.length_map]; exact h4)))
    clear h4
    go_wp2_with fail
    go_ret2
    exact ⟨ret_tup2 HD.out, HB1.out⟩
end Go.Proofs.YtpkekfhnpcjgkaaDoor
