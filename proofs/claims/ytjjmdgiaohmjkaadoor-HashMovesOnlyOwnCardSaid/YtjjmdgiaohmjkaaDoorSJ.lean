/- The reference's Score, Rendezvous, has, Ranking; the program's Ranking. -/
import Derived.Test.YtjjmdgiaohmjkaaDoorSI
namespace Go.Proofs.YtjjmdgiaohmjkaaDoor
open Go.RowKit
open Go.Sort (grow)

set_option maxHeartbeats 1000000 in
theorem Score_any (a b : ByteArray) (w : World) (ha : a.size ≤ 200) (hb : b.size ≤ 200) (hX : LaidH w) :
    Calls Tryd.prog 38 #[.string a, .string b] w fun e w' => e = .returned (.int .u64 (scI b a)) ∧ Below w.heap.size w w' := by
  have HC := Lib.hid (rChain_any _ 2 [a, b] _ (strs_new w [a, b] 9) ⟨by simp, fun t ht => by simp at ht; rcases ht with rfl | rfl <;> omega⟩ (hX.below (al_new w _)))
  clear hX
  go_enter Tryd.func38, Tryd.ntmps38
  go_wp2_with fail
  refine HC.out.mono ?_
  rintro e w1 ⟨rfl, hb⟩
  have HB := Lib.hid ((al_new w (.cells #[.string a, .string b] 9)).trans (hb.mono (by simp)))
  clear hb
  go_wp2_with fail
  go_ret
  exact ⟨rfl, HB.out⟩
theorem Score_at (a b : ByteArray) (W : World) (ha : a.size ≤ 200) (hb : b.size ≤ 200) (hX : LaidH W) (d : Nat) (os : Array Obj) :
    Calls Tryd.prog 38 #[.string a, .string b] (grow (redrawn W d) os) fun e w' => e = .returned (.int .u64 (scI b a)) ∧ ∃ p : Regrown, w' = grow (redrawn W p.d) p.os :=
  Calls.regrown_of (Score_any a b _ ha hb (hX.below (below_regrown W d os)))
theorem scS_get {key : ByteArray} {l : List ByteArray} {k : Nat} {t : ByteArray} (h : l[k]? = some t) : (scS key l).getD k 0 = scI key t := by
  unfold scS
  rw [List.getD_eq_getElem?_getD, List.getElem?_map, h]; rfl

/-! ### the reference's Rendezvous -/
theorem bestK_lt' (S : List Int) {i : Nat} (h : 0 < i) : bestK S i < i := by
  obtain ⟨j, rfl⟩ : ∃ j, i = j + 1 := ⟨i - 1, by omega⟩
  exact bestK_lt S j
set_option maxHeartbeats 4000000 in
theorem rRendezvous_any (key : ByteArray) (A : Option Addr) (c : Nat) (l : List ByteArray) (w : World) (hl : StrL w w.heap.size A l) (hln : l.length ≤ 9223372036854775807) (hsz : ∀ t ∈ l, t.size ≤ 200) (hk : key.size ≤ 200) (hX : LaidH w) :
    Calls Tryd.prog 24 #[.string key, .slice A l.length c] w fun e w' => e = .returned (.tuple #[.int .i64 (rdB (scS key l) : Nat), .int .i64 (rdC (scS key l))]) ∧ Below w.heap.size w w' := by
  obtain ⟨N, hN⟩ : ∃ q, q = l.length := ⟨_, rfl⟩
  have HL := Lib.hid hl
  have HX := Lib.hid hX
  have HS := Lib.hid hsz
  have HK := Lib.hid hk
  clear hl hX hsz hk
  by_cases h0 : N = 0
  · have HE := Lib.hid (show (0 : Nat) = rdB (scS key l) ∧ (5 : Int) = rdC (scS key l) by unfold rdB rdC; rw [scS_len, if_pos (.inl (by omega)), if_pos (by omega)]; exact ⟨rfl, rfl⟩)
    subst h0
    rw [← hN, ← HE.out.1, ← HE.out.2]
    clear hN
    go_enter Tryd.func24, Tryd.ntmps24
    go_wp2_with fail
    exact bodyPost_ret (v := .tuple #[.int .i64 0, .int .i64 5]) (by simp [results, Tryd.results24, go_sem]) rfl ⟨rfl, Below.refl _ _⟩
  · by_cases h1 : 64 < N
    · have HE := Lib.hid (show (0 : Nat) = rdB (scS key l) ∧ (3 : Int) = rdC (scS key l) by unfold rdB rdC; rw [scS_len, if_pos (.inr (by omega)), if_neg (by omega), if_pos (by omega)]; exact ⟨rfl, rfl⟩)
      rw [← hN, ← HE.out.1, ← HE.out.2]
      have d1 : decide ((64 : Int) < (N : Int)) = true := decide_eq_true (by omega)
      have d0 : ((N : Int) == 0) = false := by simpa using h0
      clear h1 h0 hN
      go_enter Tryd.func24, Tryd.ntmps24
      go_wp2_with fail
      exact bodyPost_ret (v := .tuple #[.int .i64 0, .int .i64 3]) (by simp [results, Tryd.results24, go_sem]) rfl ⟨rfl, Below.refl _ _⟩
    · have HD := Lib.hid (show bestK (scS key l) N = rdB (scS key l) by unfold rdB; rw [scS_len, if_neg (by omega), hN])
      have HC := Lib.hid (show (0 : Int) = rdC (scS key l) by unfold rdC; rw [scS_len, if_neg (by omega), if_neg (by omega)])
      rw [← HC.out, ← HD.out, ← hN]
      have HN := Lib.hid hN
      have d1 : decide ((64 : Int) < (N : Int)) = false := decide_eq_false (by omega)
      have d0 : ((N : Int) == 0) = false := by simpa using h0
      have HM := Lib.hid (show 0 < N ∧ N ≤ 64 by omega)
      clear h1 h0 hN hln HC HD
      obtain ⟨S, hS⟩ : ∃ S, scS key l = S := ⟨_, rfl⟩
      have HSS := Lib.hid hS
      rw [hS]
      clear hS
      go_enter Tryd.func24, Tryd.ntmps24
      go_wp2_with fail
      go_loopw [6, 7] (fun vb vi wr => ∃ i q : Nat, bestK S i = q ∧ vb = .int .i64 q ∧ vi = .int .i64 i ∧ 0 < i ∧ i ≤ N ∧ Below w.heap.size w wr) (fun _ vi _ => N - (intOf vi).toNat)
      case atStart => exact ⟨1, 0, bestK_one S, rfl, rfl, by omega, by have := HM.out; omega, Below.refl _ _⟩
      case round =>
        obtain ⟨i, q, hq, rfl, rfl, hi0, hiN, hb⟩ := hrel
        have HB := Lib.hid hb
        have HQ := Lib.hid hq
        have hqi : q < i := by rw [← hq]; exact bestK_lt' S hi0
        have hzr : w.heap.size ≤ wr.heap.size := hb.size
        clear hb hq
        by_cases hlt : i < N
        · have hltz : (i : Int) < (N : Int) := by omega
          have hNl := HN.out
          obtain ⟨t, ht⟩ : ∃ t, l[i]? = some t := ⟨_, List.getElem?_eq_getElem (by omega)⟩
          obtain ⟨u, hu⟩ : ∃ t, l[q]? = some t := ⟨_, List.getElem?_eq_getElem (by omega)⟩
          have gi : S.getD i 0 = scI key t := by rw [← HSS.out]; exact scS_get ht
          have gq : S.getD q 0 = scI key u := by rw [← HSS.out]; exact scS_get hu
          have SA_ := Lib.hid (Score_at t key wr (HS.out t (List.mem_of_getElem? ht)) HK.out (HX.out.below HB.out))
          have SB_ := Lib.hid (Score_at u key wr (HS.out u (List.mem_of_getElem? hu)) HK.out (HX.out.below HB.out))
          obtain ⟨b, o, hA, -, c0⟩ := (HL.out.keep HB.out).cell ht
          obtain ⟨b', o', hA', -, c1⟩ := (HL.out.keep HB.out).cell hu
          rw [hA] at hA'
          injection hA' with hA'
          injection hA' with e1 e2
          subst e1 e2
          subst hA
          have r0 := fun d os => cell_regrown c0 d os
          have r1 := fun d os => cell_regrown c1 d os
          have bi : (i : Int) < (N : Int) := by omega
          have bq : (q : Int) < (N : Int) := by omega
          have pi : (0 : Int) ≤ i := by omega
          have pq : (0 : Int) ≤ q := by omega
          have hNb := HM.out.2
          clear ht hu hNl
          have HG := Lib.hid (And.intro gi gq)
          clear gi gq
          by_cases hc : scI key u < scI key t
          · have hd : decide (scI key u < scI key t) = true := decide_eq_true hc
            have HE := Lib.hid (show bestK S (i + 1) = i by rw [bestK_succ, HQ.out]; unfold bstF; rw [HG.out.1, HG.out.2, if_pos hc])
            go_wp2_with fail
            refine wp_region_quiet_below (by kernel_rfl) (by kernel_rfl) ?_
            repeat (go_big_quiet_step ((go_at_call 38; first | (with_reducible exact SA_.out _ _) | (with_reducible exact SB_.out _ _))))
            refine wpQuiet_nil ?_
            intro _ hw'
            obtain ⟨⟨dq, osq⟩, hw''⟩ := hw'
            subst hw''
            have hbq := below_regrown wr dq osq
            have HB2 := Lib.hid (HB.out.trans (hbq.mono hzr))
            generalize grow (redrawn wr dq) osq = w2 at *
            clear c0 c1 r0 r1 hbq
            go_wp2_with fail
            go_roundw
            case rel => first | exact ⟨i + 1, i, HE.out, rfl, by go_num, by omega, by omega, HB2.out⟩ | ((repeat apply Exists.intro); exact ⟨⟨i + 1, i, HE.out, rfl, by go_num, by omega, by omega, HB2.out⟩, rfl⟩)
            case measure => (simp [intOf] <;> omega)
          · have hd : decide (scI key u < scI key t) = false := decide_eq_false hc
            have HE := Lib.hid (show bestK S (i + 1) = q by rw [bestK_succ, HQ.out]; unfold bstF; rw [HG.out.1, HG.out.2, if_neg hc])
            go_wp2_with fail
            refine wp_region_quiet_below (by kernel_rfl) (by kernel_rfl) ?_
            repeat (go_big_quiet_step ((go_at_call 38; first | (with_reducible exact SA_.out _ _) | (with_reducible exact SB_.out _ _))))
            refine wpQuiet_nil ?_
            intro _ hw'
            obtain ⟨⟨dq, osq⟩, hw''⟩ := hw'
            subst hw''
            have hbq := below_regrown wr dq osq
            have HB2 := Lib.hid (HB.out.trans (hbq.mono hzr))
            generalize grow (redrawn wr dq) osq = w2 at *
            clear c0 c1 r0 r1 hbq
            go_wp2_with fail
            go_roundw
            case rel => first | exact ⟨i + 1, q, HE.out, rfl, by go_num, by omega, by omega, HB2.out⟩ | ((repeat apply Exists.intro); exact ⟨⟨i + 1, q, HE.out, rfl, by go_num, by omega, by omega, HB2.out⟩, rfl⟩)
            case measure => (simp [intOf] <;> omega)
        · obtain rfl : i = N := by omega
          go_wp2_with fail
          exact bodyPost_ret (v := .tuple #[.int .i64 (q : Nat), .int .i64 0]) (by simp [results, Tryd.results24, go_sem]) rfl ⟨by rw [HQ.out], HB.out⟩
end Go.Proofs.YtjjmdgiaohmjkaaDoor
