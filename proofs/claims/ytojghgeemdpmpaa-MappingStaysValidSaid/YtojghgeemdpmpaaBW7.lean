/- The walk of Cut. -/
import Derived.Test.YtojghgeemdpmpaaBW6
namespace Go.Proofs.Ytojghgeemdpmpaa
open Go.RowKit
open Go.Sort (grow)

/-- A list of records that the call owns, their bodies elsewhere. -/
structure MineInv (w : World) (base : Nat) (v : Value) (xs : List RecX) : Prop where
  row : w.ownsRow base 54 10 v xs.length (xs.flatMap RecX.cells)
  body : ∀ x ∈ xs, BodyAt w w.heap.size x
  apart : ∀ x ∈ xs, 0 < x.r.body.length → ∀ ad, x.ba = some ad → v.ownBlock ≠ some ad.block

theorem Reads.keepAt' {w w' : World} {B size n : Nat} {A : Option Addr} {xs : List Value} (h : Reads w B size A n xs) (hk : 0 < n → ∀ ad, A = some ad → ad.block < B → ∀ o, w'.cell? ⟨ad.block, o, none⟩ = w.cell? ⟨ad.block, o, none⟩) : Reads w' B size A n xs :=
  ⟨h.1, fun hn => by
    obtain ⟨b, o, e, hb, hc⟩ := h.2 hn
    exact ⟨b, o, e, hb, fun j u hu => (hk hn _ e hb _).trans (hc j u hu)⟩⟩
theorem MineInv.nil (w : World) (base : Nat) : MineInv w base (.slice none 0 0) [] := ⟨World.ownsRow_nil _ _ _ _, by simp, by simp⟩
theorem MineInv.below {w w' : World} {base : Nat} {v : Value} {xs : List RecX} (h : MineInv w base v xs) (hb : Below w.heap.size w w') : MineInv w' base v xs := by
  have hg : w.grownBy w' none := ⟨hb.os, hb.tape, hb.output, hb.size, fun k hk _ => hb.block k hk⟩
  exact ⟨h.row.kept hg (by cases v.ownBlock <;> simp), fun x hx => Reads.more (Reads.below (h.body x hx) hb) hb.size, h.apart⟩
theorem MineInv.shape {w : World} {base : Nat} {v : Value} {xs : List RecX} (h : MineInv w base v xs) : ∃ A c, v = .slice A xs.length c := by
  rcases h.row.2 with ⟨rfl, h0⟩ | ⟨g, cap, cur, rfl, _⟩
  · exact ⟨none, 0, by rw [h0]⟩
  · exact ⟨_, _, rfl⟩
theorem MineInv.recs {w : World} {base c : Nat} {A : Option Addr} {xs : List RecX} (h : MineInv w base (.slice A xs.length c) xs) : RecsAt w w.heap.size A xs := ⟨Reads.of_own h.row, h.body⟩
theorem MineInv.push {w w2 : World} {base n : Nat} {v v' : Value} {xs : List RecX} {x : RecX} {o : Obj} (h : MineInv w base v xs) (hx : BodyAt w w.heap.size x) (hn : n = xs.length + 1)
    (hxa : 0 < x.r.body.length → ∀ ad, x.ba = some ad → v.ownBlock ≠ some ad.block)
    (hown : w2.ownsRow base 54 10 v' n (xs.flatMap RecX.cells ++ x.cells)) (hg : (w.alloc o).grownBy w2 v.ownBlock)
    (hblk : v'.ownBlock = v.ownBlock ∨ v'.ownBlock = some (w.alloc o).heap.size) : MineInv w2 base v' (xs ++ [x]) := by
  subst hn
  have keep : ∀ z : RecX, BodyAt w w.heap.size z → (0 < z.r.body.length → ∀ ad, z.ba = some ad → v.ownBlock ≠ some ad.block) → BodyAt w2 w2.heap.size z := by
    intro z hz hza
    refine Reads.more (B := w.heap.size) (Reads.keepAt' hz fun hn ad ha hb o' => ?_) (Nat.le_trans (by simp) hg.size)
    rw [World.cell?_of_block (w := w.alloc o) (a := ⟨ad.block, o', none⟩) (hg.block _ (by simp; omega) (hza hn ad ha).symm)]
    exact World.cell?_alloc_lt w o ⟨ad.block, o', none⟩ hb
  have ap : ∀ z : RecX, BodyAt w w.heap.size z → (0 < z.r.body.length → ∀ ad, z.ba = some ad → v.ownBlock ≠ some ad.block) → 0 < z.r.body.length → ∀ ad, z.ba = some ad → v'.ownBlock ≠ some ad.block := by
    intro z hz hza hn ad ha
    rcases hblk with e | e <;> rw [e]
    · exact hza hn ad ha
    · obtain ⟨b, o', e', hb, _⟩ := hz.2 hn
      rw [ha] at e'
      injection e' with e'
      subst e'
      simp
      omega
  refine ⟨by simpa using hown, ?_, ?_⟩
  · intro z hz
    rcases List.mem_append.1 hz with hz | hz
    · exact keep z (h.body z hz) (h.apart z hz)
    · simp only [List.mem_singleton] at hz; subst hz; exact keep z hx hxa
  · intro z hz
    rcases List.mem_append.1 hz with hz | hz
    · exact ap z (h.body z hz) (h.apart z hz)
    · simp only [List.mem_singleton] at hz; subst hz; exact ap z hx hxa

set_option maxHeartbeats 400000 in
theorem Cut_bad (s c n : Int) (A : Option Addr) (ca : Nat) (l : List RecX) (w : World) (h : checkE ⟨s, c, n⟩ = 2) :
    Calls Try.prog 33 #[.slice A l.length ca, .agg #[.int .i64 s, .int .i64 c, .int .i64 n]] w fun e w' => e = .returned (.tuple #[.slice none 0 0, .int .i64 2]) ∧ Below w.heap.size w w' := by
  have H := Lib.hid h
  clear h
  go_enter Try.func33, Try.ntmps33
  go_wp2_with fail
  refine (check_any s c n _).mono ?_
  rintro e w1 ⟨rfl, hb1⟩
  rw [H.out]
  have hw : Below w.heap.size w w1 := ((Below.refl _ _).alloc (Nat.le_refl _) _).trans (hb1.mono (by simp))
  clear hb1
  go_wp2_with fail
  go_ret2
  exact ⟨rfl, hw⟩
set_option maxHeartbeats 400000 in
theorem Cut_lim (s c n : Int) (A : Option Addr) (ca : Nat) (l : List RecX) (w : World) (h : checkE ⟨s, c, n⟩ = 0) (hl : 256 < l.length) :
    Calls Try.prog 33 #[.slice A l.length ca, .agg #[.int .i64 s, .int .i64 c, .int .i64 n]] w fun e w' => e = .returned (.tuple #[.slice none 0 0, .int .i64 3]) ∧ Below w.heap.size w w' := by
  have H := Lib.hid h
  clear h
  go_enter Try.func33, Try.ntmps33
  go_wp2_with fail
  refine (check_any s c n _).mono ?_
  rintro e w1 ⟨rfl, hb1⟩
  rw [H.out]
  have hw : Below w.heap.size w w1 := ((Below.refl _ _).alloc (Nat.le_refl _) _).trans (hb1.mono (by simp))
  clear hb1
  go_wp2_with fail
  go_ret2
  exact ⟨rfl, hw⟩

/-- What holds at the head of a round of the copying loop. -/
structure CopyAt (w1 : World) (l : List RecX) (k : Nat) (v : Value) (wr : World) : Prop where
  low : Below w1.heap.size w1 wr
  ex : ∃ xs : List RecX, MineInv wr w1.heap.size v xs ∧ xs.map (·.r) = (l.take k).map (·.r)

set_option maxHeartbeats 1000000 in
theorem Cut_ok (s c n : Int) (A : Option Addr) (ca : Nat) (l : List RecX) (w : World) (h : checkE ⟨s, c, n⟩ = 0) (hl : RecsAt w w.heap.size A l) (hb : okB l) (hn : l.length ≤ 256) :
    Calls Try.prog 33 #[.slice A l.length ca, .agg #[.int .i64 s, .int .i64 c, .int .i64 n]] w fun e w' => ∃ (v : Value) (bs : List BatchX) (xs : List RecX), e = .returned (.tuple #[v, .int .i64 0]) ∧ OutInv w' w.heap.size v bs ∧ bs.map (·.l) = cutS s c xs ∧
      xs.map (·.r) = l.map (·.r) ∧ (∀ x ∈ xs, BodyAt w' w'.heap.size x) ∧ Below w.heap.size w w' := by
  have H := Lib.hid h
  clear h
  obtain ⟨i1, hi1, hy0, hy1, hy2⟩ := info_parts info39
  go_enter Try.func33, Try.ntmps33
  go_wp2_with fail
  refine (check_any s c n _).mono ?_
  rintro e w1 ⟨rfl, hb1⟩
  rw [H.out]
  obtain ⟨hc1, hf1⟩ := bcell hb1
  have hz1 := hb1.size
  simp only [World.size_alloc] at hc1 hf1 hz1
  have d0 : w1.cell? ⟨w.heap.size, 0, none⟩ = some (.int .i64 s) := by rw [hc1 _ _ (by omega)]; go_simp
  have d1 : w1.cell? ⟨w.heap.size, 1, none⟩ = some (.int .i64 c) := by rw [hc1 _ _ (by omega)]; go_simp
  have d2 : w1.cell? ⟨w.heap.size, 2, none⟩ = some (.int .i64 n) := by rw [hc1 _ _ (by omega)]; go_simp
  have hw : Below w.heap.size w w1 := ((Below.refl _ _).alloc (Nat.le_refl _) _).trans (hb1.mono (by simp))
  have hl1 : RecsAt w1 w.heap.size A l := hl.below hw
  clear hb1 hc1 hf1 hl
  go_wp2_with fail
  go_loopw [7, 20] (fun v i wr => ∃ (k : Nat) (vv : Value), k ≤ l.length ∧ i = .int .i64 k ∧ vv = v ∧ CopyAt w1 l k vv wr) (fun _ i _ => l.length - (intOf i).toNat)
  case atStart => exact ⟨0, _, Nat.zero_le _, rfl, rfl, ⟨Below.refl _ _, [], MineInv.nil _ _, rfl⟩⟩
  case round =>
    obtain ⟨k, v, hk, rfl, rfl, hbr, xs, hinv, hxs⟩ := hrel
    have hzr := hbr.size
    have hxl : xs.length = k := by have := congrArg List.length hxs; simpa [Nat.min_eq_left hk] using this
    obtain ⟨A', c', rfl⟩ := hinv.shape
    have hlr : RecsAt wr w.heap.size A l := hl1.below (hbr.mono (by omega))
    have HX := Lib.hid hxs
    have HXL := Lib.hid hxl
    have hxle : xs.length ≤ 256 := by omega
    clear hl1 hxs hxl
    by_cases hlt : k < l.length
    · obtain ⟨b, o, hA, hbl, ⟨c0, c1, c2, c3, c4, c5, c6, c7, c8, c9⟩⟩ := hlr.ten hlt
      subst hA
      have hbody : BodyAt wr w.heap.size l[k] := hlr.2 _ (List.getElem_mem hlt)
      have hbk : l[k].r.body.length ≤ 3518437208780 := hb _ (List.getElem_mem hlt)
      go_wp2_with fail
      refine (own_any l[k] _ (Reads.more (Reads.below hbody ((Below.refl _ _).alloc (by omega) _)) (by simp; omega)) hbk).mono ?_
      rintro e w2 ⟨x', hxr, rfl, hxb, hxf, hb2⟩
      have hlow2 : Below w1.heap.size w1 w2 := (hbr.alloc hzr _).trans (hb2.mono (by simp; omega))
      have hinv2 : MineInv w2 w1.heap.size (.slice A' xs.length c') xs := hinv.below (((Below.refl _ _).alloc (Nat.le_refl _) _).trans (hb2.mono (by simp)))
      have hz2 : wr.heap.size + 1 ≤ w2.heap.size := by have := hb2.size; simpa using this
      have hxa : 0 < x'.r.body.length → ∀ ad, x'.ba = some ad → (Value.slice A' xs.length c').ownBlock ≠ some ad.block := by
        intro _ ad ha e
        have h1 := hxf ad ha
        have h2 := (hinv.row.lt _ e).2
        simp only [World.size_alloc] at h1
        omega
      have HXR := Lib.hid hxr
      clear hxr c0 c1 c2 c3 c4 c5 c6 c7 c8 c9 hb2 hinv hxf
      simp only [RecX.cells]
      go_wp2_with (at_builtin; go_must (refine wpList_append_any _ rfl (.tmp 24) (.tmp 27) 28 rfl w1.heap.size 54 i1 _ 10 136 Try.underlying28 hi1 hy0 hy1 hy2 rfl (by decide) (.slice A' xs.length c') xs.length _ rfl (hinv2.row.alloc _) (w2.heap.size + 1) (some ⟨w2.heap.size, 0, none⟩) 1 1 x'.cells rfl ⟨rfl, fun _ => ⟨_, _, rfl, by omega, fun j u hu => by have := cells_new_at (w := w2) (e := 54) (g := w2.heap.size) rfl j u hu; rwa [Addr.add_lit] at this⟩⟩ (RecX.oneCell _) (by simp [maxLen]; omega) (by omega) (by simp; omega) ?_); intro v' w3 hown hgr hblk)
      have hb3 : Below w1.heap.size w1 w3 := (hlow2.alloc (by omega) _).grown hgr (by simp; omega) (fun k hk => (hinv2.row.lt k hk).1)
      go_roundw
      case rel => exact ⟨k + 1, v', by omega, by go_num, rfl, ⟨hb3, xs ++ [x'], MineInv.push hinv2 hxb rfl hxa hown hgr hblk, by rw [List.map_append, HX.out, List.take_succ_eq_append_getElem hlt, List.map_append]; simp [HXR.out]⟩⟩
      case measure => simp [intOf]; omega
    · obtain rfl : k = l.length := by omega
      have e0 : wr.cell? ⟨w.heap.size, 0, none⟩ = some (.int .i64 s) := (hbr.cell (p := ⟨_, _, _⟩) (by show w.heap.size < _; omega)).trans d0
      have e1 : wr.cell? ⟨w.heap.size, 1, none⟩ = some (.int .i64 c) := (hbr.cell (p := ⟨_, _, _⟩) (by show w.heap.size < _; omega)).trans d1
      have e2 : wr.cell? ⟨w.heap.size, 2, none⟩ = some (.int .i64 n) := (hbr.cell (p := ⟨_, _, _⟩) (by show w.heap.size < _; omega)).trans d2
      have hsum : sumBody xs ≤ 904238362656460 := okB_sum (okB_eq (by rw [HX.out, List.take_length]) hb) (by have h := congrArg List.length HX.out; rw [List.take_length] at h; simp at h; omega)
      clear d0 d1 d2 hlr
      go_wp2_with fail
      refine (records_any s c n _).mono ?_
      rintro e w4 ⟨rfl, hb4⟩
      have hinv4 := hinv.below hb4
      go_wp2_with fail
      refine (cut_any s c A' c' xs _ hinv4.recs hsum (by omega)).mono ?_
      rintro e w5 ⟨v5, bs, rfl, hout, hbs, hb5⟩
      obtain ⟨A5, c5, rfl⟩ := hout.shape
      go_wp2_with fail
      go_ret2
      have hw4 : Below w.heap.size w w4 := hw.trans ((hbr.mono (by omega)).trans (hb4.mono (by omega)))
      refine ⟨_, bs, xs, rfl, ⟨own_base hout.row hw4.size, fun b hb => ⟨(hout.own b hb).1, own_base (hout.own b hb).2 hw4.size⟩, hout.apart⟩, hbs, by rw [HX.out, List.take_length], fun x hx => Reads.more (Reads.below (hinv4.body x hx) hb5) hb5.size, hw4.trans (hb5.mono hw4.size)⟩
end Go.Proofs.Ytojghgeemdpmpaa
