/- Over lists of patterns: one that matches, each covered by one. -/
import Derived.Test.YtcmlgiilifdnfaaDoorPD
namespace Go.Proofs.YtcmlgiilifdnfaaDoor
open Go.RowKit
open Go.Sort (grow)

def Sz (l : List ByteArray) : Prop := ∀ t ∈ l, t.size ≤ 9223372036854775807
theorem size_new (w : World) (o : Obj) : Below w.heap.size w (w.alloc o) := (Below.refl _ _).alloc (Nat.le_refl _) _
theorem some1_ans (g : Nat) (x p : ByteArray) (w : World) (hc : Blk w g 9 #[.string x]) (hp : p.size ≤ 9223372036854775807) (hx : x.size ≤ 9223372036854775807) :
    Ans 45 #[.pointer (some ⟨g, 0, none⟩)] w p (mW p.data.toList x.data.toList) := by
  intro W hb
  have c0 : W.cell? ⟨g, 0, none⟩ = some (.string x) := (hc.on hb).cell 0
  have HP := Lib.hid hp
  have HX := Lib.hid hx
  clear hb hc hp hx
  show Calls Tryd.prog 45 #[.string p, .pointer (some ⟨g, 0, none⟩)] W _
  go_enter Tryd.func45, Tryd.ntmps45
  go_wp2_with fail
  refine (Matches_any p x W HP.out HX.out).mono ?_
  rintro e w1 ⟨rfl, hb⟩
  have HB := Lib.hid hb
  clear hb
  go_wp2_with fail
  go_ret
  exact ⟨rfl, HB.out⟩
theorem some_any (A : Option Addr) (c : Nat) (l : List ByteArray) (x : ByteArray) (w : World) (hl : StrL w w.heap.size A l) (hn : l.length ≤ 1000000) (hs : Sz l) (hx : x.size ≤ 9223372036854775807) :
    Calls Tryd.prog 30 #[.slice A l.length c, .string x] w fun e w' => e = .returned (.bool (anyM l x)) ∧ Below w.heap.size w w' := by
  have HL := Lib.hid hl
  have HS := Lib.hid hs
  have HX := Lib.hid hx
  clear hl hs hx
  go_enter Tryd.func30, Tryd.ntmps30
  go_wp2_with fail
  refine (ContainsS _ enters_some _ (fun t => mW t.data.toList x.data.toList) A c l _ (HL.out.on (size_new _ _)) hn (fun t ht => some1_ans _ x t _ (Blk.new w _ _) (HS.out t ht) HX.out)).mono ?_
  rintro e w1 ⟨rfl, hb⟩
  have HB := Lib.hid ((size_new _ _).trans (hb.mono (size_new _ _).size))
  clear hb
  go_wp2_with fail
  go_ret
  exact ⟨rfl, HB.out⟩
theorem within11_ans (g : Nat) (q p : ByteArray) (w : World) (hc : Blk w g 9 #[.string q]) (hp : p.size ≤ 9223372036854775807) (hq : q.size ≤ 9223372036854775807) :
    Ans 57 #[.pointer (some ⟨g, 0, none⟩)] w p (cW p.data.toList q.data.toList) := by
  intro W hb
  have c0 : W.cell? ⟨g, 0, none⟩ = some (.string q) := (hc.on hb).cell 0
  have HP := Lib.hid hp
  have HX := Lib.hid hq
  clear hb hc hp hq
  show Calls Tryd.prog 57 #[.string p, .pointer (some ⟨g, 0, none⟩)] W _
  go_enter Tryd.func57, Tryd.ntmps57
  go_wp2_with fail
  refine (Covers_p p q W HP.out HX.out).mono ?_
  rintro e w1 ⟨rfl, hb⟩
  have HB := Lib.hid hb
  clear hb
  go_wp2_with fail
  go_ret
  exact ⟨rfl, HB.out⟩
theorem within1_ans (g : Nat) (q : ByteArray) (A : Option Addr) (c : Nat) (l : List ByteArray) (w : World) (hc : Blk w g 29 #[.slice A l.length c]) (hl : StrL w w.heap.size A l) (hn : l.length ≤ 1000000) (hs : Sz l) (hq : q.size ≤ 9223372036854775807) :
    Ans 56 #[.pointer (some ⟨g, 0, none⟩)] w q (!(l.any fun p => cW p.data.toList q.data.toList)) := by
  intro W hb
  have hlt := hc.lt
  have hsz := hb.size
  have c0 : W.cell? ⟨g, 0, none⟩ = some (.slice A l.length c) := (hc.on hb).cell 0
  have c1 := fun o => ((hc.on hb).alloc o).cell 0
  have HL := Lib.hid (hl.on hb)
  have HS := Lib.hid hs
  have HX := Lib.hid hq
  clear hb hc hl hs hq
  show Calls Tryd.prog 56 #[.string q, .pointer (some ⟨g, 0, none⟩)] W _
  go_enter Tryd.func56, Tryd.ntmps56
  go_wp2_with fail
  refine (ContainsS _ enters_within1 _ (fun p => cW p.data.toList q.data.toList) A c l _ (HL.out.on (size_new _ _)) hn (fun t ht => within11_ans _ q t _ (Blk.new W _ _) (HS.out t ht) HX.out)).mono ?_
  rintro e w1 ⟨rfl, hb⟩
  have HB := Lib.hid ((size_new _ _).trans (hb.mono (size_new _ _).size))
  clear hb
  go_wp2_with fail
  go_ret
  exact ⟨rfl, HB.out⟩
theorem wit_any (l b : List ByteArray) : (!(l.any fun q => !(b.any fun p => cW p.data.toList q.data.toList))) = wit l b := by
  unfold wit
  induction l with
  | nil => rfl
  | cons a l ih => simp only [List.any_cons, List.all_cons, Bool.not_or, Bool.not_not, ih]
theorem within_any (A : Option Addr) (c : Nat) (l : List ByteArray) (A2 : Option Addr) (c2 : Nat) (b : List ByteArray) (w : World) (hl : StrL w w.heap.size A l) (hn : l.length ≤ 1000000) (hs : Sz l) (hl2 : StrL w w.heap.size A2 b) (hn2 : b.length ≤ 1000000) (hs2 : Sz b) :
    Calls Tryd.prog 41 #[.slice A l.length c, .slice A2 b.length c2] w fun e w' => e = .returned (.bool (wit l b)) ∧ Below w.heap.size w w' := by
  have HL := Lib.hid hl
  have HS := Lib.hid hs
  have HL2 := Lib.hid hl2
  have HS2 := Lib.hid hs2
  clear hl hs hl2 hs2
  go_enter Tryd.func41, Tryd.ntmps41
  go_wp2_with fail
  refine (ContainsS _ enters_within _ (fun q => !(b.any fun p => cW p.data.toList q.data.toList)) A c l _ (HL.out.on (size_new _ _)) hn (fun t ht => within1_ans _ t A2 c2 b _ (Blk.new w _ _) (HL2.out.on (size_new _ _)) hn2 HS2.out (HS.out t ht))).mono ?_
  rintro e w1 ⟨rfl, hb⟩
  have HB := Lib.hid ((size_new _ _).trans (hb.mono (size_new _ _).size))
  clear hb
  go_wp2_with fail
  go_ret
  exact ⟨ret_bool (wit_any l b), HB.out⟩
end Go.Proofs.YtcmlgiilifdnfaaDoor
