/- The walks of Parse and its reference. -/
import Derived.Test.YtpkekfhnpcjgkaaDoorRA
namespace Go.Proofs.YtpkekfhnpcjgkaaDoor
open Go.RowKit
open Rt

/-- None of the first bytes is the one sought. -/
def NoB (b : Nat) (l : List UInt8) (k : Nat) : Prop := ∀ j c, j < k → l[j]? = some c → c.toNat ≠ b
theorem NoB.zero (b : Nat) (l : List UInt8) : NoB b l 0 := fun j _ h => by omega
theorem NoB.step {b : Nat} {s : ByteArray} {k : Nat} (h : NoB b s.data.toList k) (hk : k < s.size) (hc : s[k].toNat ≠ b) : NoB b s.data.toList (k + 1) := by
  intro j c hj he
  by_cases e : j = k
  · subst e
    rw [byte_at s j hk] at he
    injection he with he
    rw [← he]; exact hc
  · exact h j c (by omega) he
/-- Where the first such byte stands (the length: nowhere). -/
def fstB (b : Nat) (l : List UInt8) : Nat := l.findIdx (fun c => c.toNat == b)
theorem fstB_at {b : Nat} {s : ByteArray} {k : Nat} (h : NoB b s.data.toList k) (hk : k < s.size) (hc : s[k].toNat = b) : fstB b s.data.toList = k := by
  unfold fstB
  have hk' : k < s.data.toList.length := by rw [size_len]; exact hk
  have hg : s.data.toList[k] = s[k] := (List.getElem?_eq_some_iff.1 (byte_at s k hk)).2
  rw [List.findIdx_eq hk']
  refine ⟨by rw [hg]; simpa using hc, fun j hj => ?_⟩
  have := h j _ hj (List.getElem?_eq_getElem (by omega))
  simpa using this
theorem fstB_none {b : Nat} {s : ByteArray} (h : NoB b s.data.toList s.size) : fstB b s.data.toList = s.size := by
  unfold fstB
  rw [← size_len, List.findIdx_eq_length]
  intro c hc
  obtain ⟨j, hj⟩ := List.getElem?_of_mem hc
  have hlt : j < s.data.toList.length := (List.getElem?_eq_some_iff.1 hj).1
  have := h j c (by rw [size_len] at hlt; exact hlt) hj
  simpa using this
def prB (a b : Int × Int) (s : ByteArray) : (Int × Int) × Int := if a.2 = 0 ∧ b.2 = 0 ∧ ((fmB a.1 b.1).toList == s.toList) = true then ((a.1, b.1), 0) else ((0, 0), 1)
def prS (s : ByteArray) : (Int × Int) × Int :=
  prB (parI (s.data.toList.take (fstB 47 s.data.toList))) (if fstB 47 s.data.toList < s.size then parI (s.data.toList.drop (fstB 47 s.data.toList + 1)) else (1, 0)) s
theorem pr1 {a e b f : Int} {s : ByteArray} (h : e ≠ 0) : prB (a, e) (b, f) s = ((0, 0), 1) := by unfold prB; rw [if_neg (fun hh => h hh.1)]
theorem pr2 {a e b f : Int} {s : ByteArray} (h : f ≠ 0) : prB (a, e) (b, f) s = ((0, 0), 1) := by unfold prB; rw [if_neg (fun hh => h hh.2.1)]
theorem pr3 {a e b f : Int} {s : ByteArray} (h : ((fmB a b).toList == s.toList) = false) : prB (a, e) (b, f) s = ((0, 0), 1) := by unfold prB; rw [if_neg (fun hh => by rw [h] at hh; exact absurd hh.2.2 (by simp))]
theorem pr4 {a b : Int} {s : ByteArray} (h : ((fmB a b).toList == s.toList) = true) : prB (a, 0) (b, 0) s = ((a, b), 0) := by unfold prB; rw [if_pos ⟨rfl, rfl, h⟩]
theorem par_one : parI (⟨#[49]⟩ : ByteArray).data.toList = (1, 0) := by decide
theorem prS_at {s : ByteArray} {k : Nat} (h : NoB 47 s.data.toList k) (hk : k < s.size) (hc : s[k].toNat = 47) : prS s = prB (parI (s.extract 0 k).data.toList) (parI (s.extract (k + 1) s.size).data.toList) s := by
  unfold prS
  rw [fstB_at h hk hc, if_pos hk, Lib.extract_data, Lib.extract_to_end]; rfl
theorem prS_none {s : ByteArray} (h : NoB 47 s.data.toList s.size) : prS s = prB (parI s.data.toList) (1, 0) s := by
  unfold prS
  rw [fstB_none h, if_neg (Nat.lt_irrefl _), ← size_len, List.take_length]
theorem par_empty {s : ByteArray} (h : s.size = 0) : parI s.data.toList = (0, 1) := by
  have : s.data.toList = [] := List.eq_nil_of_length_eq_zero (by rw [size_len]; exact h)
  rw [this]; decide
theorem cut_sizes (s : ByteArray) (k : Nat) (hk : k < s.size) : (s.extract 0 k).size = k ∧ (s.extract (k + 1) s.size).size = s.size - (k + 1) := by
  constructor
  · rw [← size_len, Lib.extract_data]; simp; omega
  · rw [← size_len, Lib.extract_to_end, List.length_drop, size_len]
set_option maxHeartbeats 2000000 in
theorem qParse_any (s : ByteArray) (w : World) (hs : s.size ≤ 140737488351232) (hX : LaidW w) :
    Calls Tryd.prog 28 #[.string s] w fun e w' => e = .returned (tupR (prS s)) ∧ Below w.heap.size w w' := by
  have HX := Lib.hid hX
  clear hX
  go_enter Tryd.func28, Tryd.ntmps28
  go_wp2_with fail
  have br : Blk ((w).alloc (.cells #[.int .i64 0, .int .i64 0] 23)) (w.heap.size) 23 #[.int .i64 0, .int .i64 0] := Blk.new _ _ _
  have HB1 := Lib.hid (show Below w.heap.size w ((w).alloc (.cells #[.int .i64 0, .int .i64 0] 23)) from (Below.refl w.heap.size w).alloc (by first | exact Nat.le_refl _ | omega | (simp; done) | (simp; omega)) _)
  generalize (w).alloc (.cells #[.int .i64 0, .int .i64 0] 23) = w1 at *
  have hz1 : w.heap.size ≤ w1.heap.size := HB1.out.size
  go_loop [4, 5, 15] (fun n d i => ∃ k : Nat, k ≤ s.size ∧ n = .string s ∧ d = .string ⟨#[49]⟩ ∧ i = .int .i64 k ∧ NoB 47 s.data.toList k) (fun _ _ i => s.size - (intOf i).toNat)
  case atStart => exact ⟨0, Nat.zero_le _, rfl, rfl, rfl, NoB.zero _ _⟩
  case round =>
    obtain ⟨k, hk, rfl, rfl, rfl, hno⟩ := hrel
    by_cases hlt : k < s.size
    · by_cases hc : s[k].toNat = 47
      · have hb : ((s[k].toNat : Int) == 47) = true := by rw [hc]; rfl
        have HN := Lib.hid (prS_at hno hlt hc)
        have hsz := cut_sizes s k hlt
        have HZ := Lib.hid (show (s.extract 0 k).size ≤ 140737488351232 ∧ (s.extract (k + 1) s.size).size ≤ 140737488351232 by omega)
        have hpos : 0 < s.size := by omega
        have HE := Lib.hid (isEmpty_not hpos)
        clear hsz hno hc
        go_wp2_with fail
        go_quiet (fail)
        have hb := below_drewN' w1.heap.size w1 nq
        have br : Blk (w1.drewN nq) (w.heap.size) 23 #[.int .i64 0, .int .i64 0] := br.on hb
        have HB2 := Lib.hid ((HB1.out).trans (hb.mono (by first | exact Nat.le_refl _ | omega | (simp; done) | (simp; omega))))
        clear hb
        generalize w1.drewN nq = w2 at *
        have hz2 : w.heap.size ≤ w2.heap.size := HB2.out.size
        go_wp2_with fail
        refine (Parse_any (s.extract 0 k) _ HZ.out.1 (HX.out.below (HB2.out))).mono ?_
        rintro e w3 ⟨rfl, hb⟩
        have br : Blk w3 (w.heap.size) 23 #[.int .i64 0, .int .i64 0] := (br).on hb
        have hbz := hb.size
        have HB3 := Lib.hid ((HB2.out).trans (hb.mono (by first | exact Nat.le_refl _ | omega | (simp; done) | (simp; omega))))
        have hz3 : w.heap.size ≤ w3.heap.size := HB3.out.size
        clear hb hbz
        simp only [tup2]
        generalize parI ((s.extract 0 k)).data.toList = A at *
        obtain ⟨a, e⟩ := A
        go_wp2_with fail
        refine (Parse_any (s.extract (k + 1) s.size) _ HZ.out.2 (HX.out.below (HB3.out))).mono ?_
        rintro e w4 ⟨rfl, hb⟩
        have br : Blk w4 (w.heap.size) 23 #[.int .i64 0, .int .i64 0] := (br).on hb
        have hbz := hb.size
        have HB4 := Lib.hid ((HB3.out).trans (hb.mono (by first | exact Nat.le_refl _ | omega | (simp; done) | (simp; omega))))
        have hz4 : w.heap.size ≤ w4.heap.size := HB4.out.size
        clear hb hbz
        simp only [tup2]
        generalize parI ((s.extract (k + 1) s.size)).data.toList = B at *
        obtain ⟨b, g⟩ := B
        by_cases he : e = 0
        · subst he
          by_cases hg : g = 0
          · subst hg
            go_wp2_with fail
            refine (qFormat_any a b _ (HX.out.below ((HB4.out).alloc (by first | exact Nat.le_refl _ | omega | (simp; done) | (simp; omega)) _))).mono ?_
            rintro e w5 ⟨rfl, hb⟩
            have br : Blk w5 (w.heap.size) 23 #[.int .i64 0, .int .i64 0] := ((br).alloc _).on hb
            have bx : Blk w5 (w4.heap.size) 23 #[.int .i64 a, .int .i64 b] := (Blk.new _ _ _).on hb
            have hbz := hb.size
            have HB5 := Lib.hid (((HB4.out).alloc (by first | exact Nat.le_refl _ | omega | (simp; done) | (simp; omega)) _).trans (hb.mono (by first | exact Nat.le_refl _ | omega | (simp; done) | (simp; omega))))
            have hz5 : w.heap.size ≤ w5.heap.size := HB5.out.size
            clear hb hbz
            have q_br0 : w5.cell? ⟨w.heap.size, 0, none⟩ = some (.int .i64 0) := br.cell 0
            have q_br1 : w5.cell? ⟨w.heap.size, 1, none⟩ = some (.int .i64 0) := br.cell 1
            have q_bx0 : w5.cell? ⟨w4.heap.size, 0, none⟩ = some (.int .i64 a) := bx.cell 0
            have q_bx1 : w5.cell? ⟨w4.heap.size, 1, none⟩ = some (.int .i64 b) := bx.cell 1
            have f_br0 : w5.frozen? ⟨w.heap.size, 0, none⟩ = false := br.frozen 0
            have f_br1 : w5.frozen? ⟨w.heap.size, 1, none⟩ = false := br.frozen 1
            cases hq : ((fmB a b).toList == s.toList)
            · have HD := Lib.hid (HN.out.trans (pr3 hq))
              go_wp2_with fail
              exact bodyPost_ret (v := .tuple #[.agg #[.int .i64 0, .int .i64 0], .int .i64 1]) (by simp [results, Tryd.results28, go_sem, q_br0, q_br1]) rfl ⟨ret_tupR HD.out, below_set2 (HB5.out) (by first | exact Nat.le_refl _ | omega | (simp; done) | (simp; omega)) _ _⟩
            · have HD := Lib.hid (HN.out.trans (pr4 hq))
              have hE := HE.out
              go_wp2_with fail
              exact bodyPost_ret (v := .tuple #[.agg #[.int .i64 a, .int .i64 b], .int .i64 0]) (by simp [results, Tryd.results28, go_sem, q_br0, q_br1]) rfl ⟨ret_tupR HD.out, below_set2 (HB5.out) (by first | exact Nat.le_refl _ | omega | (simp; done) | (simp; omega)) _ _⟩
          · have hbg : (g != 0) = true := by rw [bne_iff_ne]; exact hg
            have HD := Lib.hid (HN.out.trans (pr2 hg))
            clear hg
            have q_br0 : w4.cell? ⟨w.heap.size, 0, none⟩ = some (.int .i64 0) := br.cell 0
            have q_br1 : w4.cell? ⟨w.heap.size, 1, none⟩ = some (.int .i64 0) := br.cell 1
            have f_br0 : w4.frozen? ⟨w.heap.size, 0, none⟩ = false := br.frozen 0
            have f_br1 : w4.frozen? ⟨w.heap.size, 1, none⟩ = false := br.frozen 1
            have l_br := br.lt
            go_wp2_with fail
            exact bodyPost_ret (v := .tuple #[.agg #[.int .i64 0, .int .i64 0], .int .i64 1]) (by simp [results, Tryd.results28, go_sem, q_br0, q_br1, l_br]) rfl ⟨ret_tupR HD.out, (below_set2 (HB4.out) (by first | exact Nat.le_refl _ | omega | (simp; done) | (simp; omega)) _ _).alloc (by simp; omega) _⟩
        · have hbe : (e != 0) = true := by rw [bne_iff_ne]; exact he
          have HD := Lib.hid (HN.out.trans (pr1 he))
          clear he
          have q_br0 : w4.cell? ⟨w.heap.size, 0, none⟩ = some (.int .i64 0) := br.cell 0
          have q_br1 : w4.cell? ⟨w.heap.size, 1, none⟩ = some (.int .i64 0) := br.cell 1
          have f_br0 : w4.frozen? ⟨w.heap.size, 0, none⟩ = false := br.frozen 0
          have f_br1 : w4.frozen? ⟨w.heap.size, 1, none⟩ = false := br.frozen 1
          have l_br := br.lt
          go_wp2_with fail
          exact bodyPost_ret (v := .tuple #[.agg #[.int .i64 0, .int .i64 0], .int .i64 1]) (by simp [results, Tryd.results28, go_sem, q_br0, q_br1, l_br]) rfl ⟨ret_tupR HD.out, (below_set2 (HB4.out) (by first | exact Nat.le_refl _ | omega | (simp; done) | (simp; omega)) _ _).alloc (by simp; omega) _⟩
      · have hb : ((s[k].toNat : Int) == 47) = false := by rw [beq_eq_false_iff_ne]; omega
        have HNo := Lib.hid (hno.step hlt hc)
        clear hno
        go_wp2_with fail
        go_round
        case rel => exact ⟨k + 1, by omega, rfl, rfl, by go_num, HNo.out⟩
        case measure => simp [intOf]; omega
    · obtain rfl : k = s.size := by omega
      have HN1 := Lib.hid (prS_none hno)
      have HN := Lib.hid HN1.out
      have hz : (s.size = 0 ∧ parI s.data.toList = (0, 1)) ∨ (0 < s.size ∧ s.toList.isEmpty = false) := by
        rcases Nat.eq_zero_or_pos s.size with h0 | h0
        · exact .inl ⟨h0, par_empty h0⟩
        · exact .inr ⟨h0, isEmpty_not h0⟩
      have HE := Lib.hid hz
      clear hno hz
      have H1 := Lib.hid (show (⟨#[49]⟩ : ByteArray).size ≤ 140737488351232 by decide)
      go_wp2_with fail
      refine (Parse_any s _ hs (HX.out.below (HB1.out))).mono ?_
      rintro e w2 ⟨rfl, hb⟩
      have br : Blk w2 (w.heap.size) 23 #[.int .i64 0, .int .i64 0] := (br).on hb
      have hbz := hb.size
      have HB2 := Lib.hid ((HB1.out).trans (hb.mono (by first | exact Nat.le_refl _ | omega | (simp; done) | (simp; omega))))
      have hz2 : w.heap.size ≤ w2.heap.size := HB2.out.size
      clear hb hbz
      simp only [tup2]
      generalize parI (s).data.toList = A at *
      obtain ⟨a, e⟩ := A
      go_wp2_with fail
      refine (Parse_any ⟨#[49]⟩ _ H1.out (HX.out.below (HB2.out))).mono ?_
      rintro e w3 ⟨rfl, hb⟩
      have br : Blk w3 (w.heap.size) 23 #[.int .i64 0, .int .i64 0] := (br).on hb
      have hbz := hb.size
      have HB3 := Lib.hid ((HB2.out).trans (hb.mono (by first | exact Nat.le_refl _ | omega | (simp; done) | (simp; omega))))
      have hz3 : w.heap.size ≤ w3.heap.size := HB3.out.size
      clear hb hbz
      rw [par_one]
      simp only [tup2]
      by_cases he : e = 0
      · subst he
        go_wp2_with fail
        refine (qFormat_any a 1 _ (HX.out.below ((HB3.out).alloc (by first | exact Nat.le_refl _ | omega | (simp; done) | (simp; omega)) _))).mono ?_
        rintro e w4 ⟨rfl, hb⟩
        have br : Blk w4 (w.heap.size) 23 #[.int .i64 0, .int .i64 0] := ((br).alloc _).on hb
        have bx : Blk w4 (w3.heap.size) 23 #[.int .i64 a, .int .i64 1] := (Blk.new _ _ _).on hb
        have hbz := hb.size
        have HB4 := Lib.hid (((HB3.out).alloc (by first | exact Nat.le_refl _ | omega | (simp; done) | (simp; omega)) _).trans (hb.mono (by first | exact Nat.le_refl _ | omega | (simp; done) | (simp; omega))))
        have hz4 : w.heap.size ≤ w4.heap.size := HB4.out.size
        clear hb hbz
        have q_br0 : w4.cell? ⟨w.heap.size, 0, none⟩ = some (.int .i64 0) := br.cell 0
        have q_br1 : w4.cell? ⟨w.heap.size, 1, none⟩ = some (.int .i64 0) := br.cell 1
        have q_bx0 : w4.cell? ⟨w3.heap.size, 0, none⟩ = some (.int .i64 a) := bx.cell 0
        have q_bx1 : w4.cell? ⟨w3.heap.size, 1, none⟩ = some (.int .i64 1) := bx.cell 1
        have f_br0 : w4.frozen? ⟨w.heap.size, 0, none⟩ = false := br.frozen 0
        have f_br1 : w4.frozen? ⟨w.heap.size, 1, none⟩ = false := br.frozen 1
        cases hq : ((fmB a 1).toList == s.toList)
        · have HD := Lib.hid (HN.out.trans (pr3 hq))
          go_wp2_with fail
          exact bodyPost_ret (v := .tuple #[.agg #[.int .i64 0, .int .i64 0], .int .i64 1]) (by simp [results, Tryd.results28, go_sem, q_br0, q_br1]) rfl ⟨ret_tupR HD.out, below_set2 (HB4.out) (by first | exact Nat.le_refl _ | omega | (simp; done) | (simp; omega)) _ _⟩
        · have HD := Lib.hid (HN.out.trans (pr4 hq))
          have hE : s.toList.isEmpty = false := by
            rcases HE.out with ⟨-, h⟩ | ⟨-, h⟩
            · have := congrArg Prod.snd h; simp at this
            · exact h
          go_wp2_with fail
          exact bodyPost_ret (v := .tuple #[.agg #[.int .i64 a, .int .i64 1], .int .i64 0]) (by simp [results, Tryd.results28, go_sem, q_br0, q_br1]) rfl ⟨ret_tupR HD.out, below_set2 (HB4.out) (by first | exact Nat.le_refl _ | omega | (simp; done) | (simp; omega)) _ _⟩
      · have hbe : (e != 0) = true := by rw [bne_iff_ne]; exact he
        have HD := Lib.hid (HN.out.trans (pr1 he))
        clear he
        have q_br0 : w3.cell? ⟨w.heap.size, 0, none⟩ = some (.int .i64 0) := br.cell 0
        have q_br1 : w3.cell? ⟨w.heap.size, 1, none⟩ = some (.int .i64 0) := br.cell 1
        have f_br0 : w3.frozen? ⟨w.heap.size, 0, none⟩ = false := br.frozen 0
        have f_br1 : w3.frozen? ⟨w.heap.size, 1, none⟩ = false := br.frozen 1
        have l_br := br.lt
        go_wp2_with fail
        exact bodyPost_ret (v := .tuple #[.agg #[.int .i64 0, .int .i64 0], .int .i64 1]) (by simp [results, Tryd.results28, go_sem, q_br0, q_br1, l_br]) rfl ⟨ret_tupR HD.out, (below_set2 (HB3.out) (by first | exact Nat.le_refl _ | omega | (simp; done) | (simp; omega)) _ _).alloc (by simp; omega) _⟩
end Go.Proofs.YtpkekfhnpcjgkaaDoor
