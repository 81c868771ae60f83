/- The program's Ranking; equal; HashRanks walked. -/
import Derived.Test.YtjjmdgiaohmjkaaDoorSK
namespace Go.Proofs.YtjjmdgiaohmjkaaDoor
open Go.RowKit
open Go.Sort (grow)

theorem rdC_ok {key : ByteArray} {l : List ByteArray} (h0 : l.length ≠ 0) (h1 : l.length ≤ 64) : rdC (scS key l) = 0 := by unfold rdC; rw [scS_len, if_neg h0, if_neg (by omega)]
theorem rdC_bad {key : ByteArray} {l : List ByteArray} (h : l.length = 0 ∨ 64 < l.length) : (rdC (scS key l) != 0) = true := by
  unfold rdC; rw [scS_len]
  by_cases h0 : l.length = 0
  · rw [if_pos h0]; rfl
  · rw [if_neg h0, if_pos (by omega)]; rfl
set_option maxHeartbeats 1000000 in
theorem Ranking_nil (key : ByteArray) (A : Option Addr) (c : Nat) (l : List ByteArray) (h : l.length = 0 ∨ 64 < l.length) (w : World) (hl : StrL w w.heap.size A l) (hln : l.length ≤ 9223372036854775807) (hsz : ∀ t ∈ l, t.size ≤ 200) (hk : key.size ≤ 200) (hX : LaidH w) :
    Calls Tryd.prog 26 #[.string key, .slice A l.length c] w fun e w' => e = .returned (.slice none 0 0) ∧ Below w.heap.size w w' := by
  have HC := Lib.hid (Rendezvous_any key A c l w hl hln hsz hk hX)
  have HD := Lib.hid (rdC_bad (key := key) h)
  clear h hl hln hsz hk hX
  go_enter Tryd.func26, Tryd.ntmps26
  go_wp2_with fail
  refine HC.out.mono ?_
  rintro e w1 ⟨rfl, hb⟩
  have HB := Lib.hid hb
  have hd := HD.out
  clear hb
  go_wp2_with fail
  go_ret
  exact ⟨rfl, HB.out⟩
set_option maxHeartbeats 1000000 in
theorem Ranking_ok (key : ByteArray) (A : Option Addr) (c : Nat) (l : List ByteArray) (n : Nat) (hn : l.length = n + 1) (hn6 : n ≤ 63) (w : World) (hl : StrL w w.heap.size A l) (hsz : ∀ t ∈ l, t.size ≤ 200) (hk : key.size ≤ 200) (hX : LaidH w) :
    Calls Tryd.prog 26 #[.string key, .slice A l.length c] w (RkPost w (scS key l) l.length) := by
  have HC := Lib.hid (Rendezvous_any key A c l w hl (by omega) hsz hk hX)
  have HD := Lib.hid (rdC_ok (key := key) (l := l) (by omega) (by omega))
  have HR := Lib.hid (fun w' (hb : Below w.heap.size w w') => ranked_any key A c l n hn hn6 w' (hl.on hb) hsz hk (hX.below hb))
  clear hn hn6 hl hsz hk hX
  go_enter Tryd.func26, Tryd.ntmps26
  go_wp2_with fail
  refine HC.out.mono ?_
  rintro e w1 ⟨rfl, hb⟩
  have HB := Lib.hid hb
  rw [HD.out]
  clear hb
  go_wp2_with fail
  refine (HR.out w1 HB.out).mono ?_
  rintro e w2 ⟨hb2, r, G, hr, rfl, h2, h3, hc⟩
  have HF := Lib.hid (show RkPost w (scS key l) l.length (.returned (.slice (some ⟨G, 0, none⟩) l.length l.length)) w2 from ⟨HB.out.trans (hb2.mono HB.out.size), r, G, hr, rfl, Nat.le_trans HB.out.size h2, h3, hc⟩)
  clear hb2 hr h2 h3 hc
  go_wp2_with fail
  go_ret
  exact HF.out
/-- Two reads of one list are equal. -/
theorem equal_same (l : List Nat) (N : Nat) (hN : l.length = N) (A A' : Option Addr) (c c' : Nat) (w : World) (h : Reads w w.heap.size 1 A N (ivals (ciL l))) (h' : Reads w w.heap.size 1 A' N (ivals (ciL l))) (hb : N ≤ 1000) :
    Calls Tryd.prog 25 #[.slice A N c, .slice A' N c'] w fun e w' => e = .returned (.bool true) ∧ ∃ q, w' = w.drewN q := by
  have HL := Lib.hid (show Reads w w.heap.size 1 A (ciL l).length (ivals (ciL l)) by rw [ciL_len, hN]; exact h)
  have HL' := Lib.hid (show Reads w w.heap.size 1 A' (ciL l).length (ivals (ciL l)) by rw [ciL_len, hN]; exact h')
  have HN := Lib.hid hN
  have hNb : (N : Int) ≤ 1000 := by omega
  clear h h' hN hb
  go_enter Tryd.func25, Tryd.ntmps25
  go_wp2_with fail
  go_loopw [5, 13] (fun _ i wr => ∃ k : Nat, k ≤ N ∧ i = .int .i64 k ∧ ∃ q, wr = w.drewN q) (fun _ i _ => N - (intOf i).toNat)
  case atStart => exact ⟨0, Nat.zero_le _, rfl, 0, rfl⟩
  case round =>
    obtain ⟨k, hk, rfl, q, rfl⟩ := hrel
    by_cases hlt : k < N
    · have hltz : (k : Int) < (N : Int) := by omega
      obtain ⟨x, hx⟩ : ∃ x, l[k]? = some x := ⟨_, List.getElem?_eq_getElem (by have := HN.out; omega)⟩
      obtain ⟨b, o, rfl, -, c0⟩ := HL.out.int (ciL_at hx)
      obtain ⟨b', o', rfl, -, c1⟩ := HL'.out.int (ciL_at hx)
      have c0 : (w.drewN q).cell? ⟨b, o + k, none⟩ = some (.int .i64 (x : Nat)) := c0
      have c1 : (w.drewN q).cell? ⟨b', o' + k, none⟩ = some (.int .i64 (x : Nat)) := c1
      have p0 : (0 : Int) ≤ k := by omega
      clear hx
      generalize hW : w.drewN q = wq at *
      have HW := Lib.hid hW
      clear hW
      go_wp2_with fail
      go_region
      have HW2 := Lib.hid (show wq.drew = w.drewN (q + 1) by rw [← HW.out]; rfl)
      generalize wq.drew = w2 at *
      go_wp2_with fail
      go_roundw
      case rel => first | exact ⟨k + 1, by omega, by go_num, q + 1, HW2.out⟩ | ((repeat apply Exists.intro); exact ⟨⟨k + 1, by omega, by go_num, q + 1, HW2.out⟩, rfl⟩)
      case measure => (simp [intOf] <;> omega)
    · obtain rfl : k = N := by omega
      go_wp2_with fail
      go_ret
      exact ⟨rfl, q, rfl⟩
/-- The row that the program's Ranking leaves, read. -/
theorem rk_reads {w : World} {r : List Nat} {G : Nat} (hG : G < w.heap.size) (h : ∀ j x, r[j]? = some x → w.cell? ⟨G, j, none⟩ = some (.int .i64 (x : Nat))) : Reads w w.heap.size 1 (some ⟨G, 0, none⟩) r.length (ivals (ciL r)) := by
  refine ⟨by simp [ivals, ciL], fun _ => ⟨G, 0, rfl, hG, fun j u hu => ?_⟩⟩
  unfold ivals ciL at hu
  rw [List.getElem?_map, List.getElem?_map] at hu
  cases hx : r[j]? with
  | none => rw [hx] at hu; cases hu
  | some x =>
    rw [hx] at hu
    simp at hu
    rw [Nat.zero_add, h j x hx, hu]

set_option maxHeartbeats 4000000 in
theorem law_ranks (key : ByteArray) (A : Option Addr) (c : Nat) (l : List ByteArray) (w : World) (hX : LaidH w) (hks : key.size ≤ 9223372036854775807) (hl : StrL w w.heap.size A l) (hsz : ∀ t ∈ l, t.size ≤ 9223372036854775807) (hln : l.length ≤ 9223372036854775807) :
    Calls Tryd.prog 7 #[.string key, .slice A l.length c] w fun e w' => e = .returned (.bool true) ∧ Below w.heap.size w w' := by
  have HX := Lib.hid hX
  have HL := Lib.hid hl
  have HZ := Lib.hid hsz
  obtain ⟨N, hN⟩ : ∃ N, l.length = N := ⟨_, rfl⟩
  have HN := Lib.hid hN
  have HNB := Lib.hid (show N ≤ 9223372036854775807 by omega)
  have HSH := Lib.hid (short_any A c l 70 w hl hsz hln)
  rw [hN] at HSH ⊢
  clear hX hl hsz hln hN
  by_cases hk : 200 < key.size
  · have t1 : decide ((200 : Int) < (key.size : Int)) = true := decide_eq_true (by omega)
    clear hks
    go_enter Tryd.func7, Tryd.ntmps7
    go_wp2_with fail
    refine (awake_any w HX.out).mono ?_
    rintro e w1 ⟨rfl, hb⟩
    have HB := Lib.hid hb
    clear hb
    go_wp2_with fail
    go_ret
    exact ⟨rfl, HB.out⟩
  · have t1 : decide ((200 : Int) < (key.size : Int)) = false := decide_eq_false (by omega)
    have HK := Lib.hid (show key.size ≤ 200 by omega)
    clear hks hk
    cases hs : shB 70 l with
    | false =>
      have HS := Lib.hid hs
      clear hs
      go_enter Tryd.func7, Tryd.ntmps7
      go_wp2_with fail
      refine HSH.out.mono ?_
      rintro e wq ⟨rfl, rfl⟩
      rw [HS.out]
      go_wp2_with fail
      refine (awake_any w HX.out).mono ?_
      rintro e w1 ⟨rfl, hb⟩
      have HB := Lib.hid hb
      clear hb
      go_wp2_with fail
      go_ret
      exact ⟨rfl, HB.out⟩
    | true =>
      have HS := Lib.hid hs
      have HO := Lib.hid (sh_ok hs)
      clear hs
      have hNb : N ≤ 70 := by have h := HO.out.1; have := HN.out; omega
      go_enter Tryd.func7, Tryd.ntmps7
      go_wp2_with fail
      refine HSH.out.mono ?_
      rintro e wq ⟨rfl, rfl⟩
      rw [HS.out]
      go_wp2_with fail
      have hr1 := Rendezvous_any key A c l w HL.out (by have := HN.out; omega) HO.out.2 HK.out HX.out
      rw [HN.out] at hr1
      refine hr1.mono ?_
      clear hr1
      rintro e w1 ⟨rfl, hb⟩
      have HB1 := Lib.hid hb
      clear hb
      go_wp2_with fail
      have hr1 := rRendezvous_any key A c l w1 (HL.out.on HB1.out) (by have := HN.out; omega) HO.out.2 HK.out (HX.out.below HB1.out)
      rw [HN.out] at hr1
      refine hr1.mono ?_
      clear hr1
      rintro e w2 ⟨rfl, hb⟩
      have HB2 := Lib.hid (HB1.out.trans (hb.mono HB1.out.size))
      clear hb
      generalize rdB (scS key l) = rb
      generalize rdC (scS key l) = rc
      by_cases hbad : N = 0 ∨ 64 < N
      · have HR1 := Lib.hid (Ranking_nil key A c l (by rw [HN.out]; exact hbad) w2 (HL.out.on HB2.out) (by have := HN.out; omega) HO.out.2 HK.out (HX.out.below HB2.out))
        rw [HN.out] at HR1
        have HR2 := Lib.hid (fun w' (hb : Below w.heap.size w w') => show Calls Tryd.prog 27 #[.string key, .slice A N c] w' fun e w'' => (∃ P k, e = .returned (.slice P 0 k)) ∧ Below w'.heap.size w' w'' from by
          by_cases h64 : 64 < N
          · exact (rRanking_long key A c N h64 w' (by omega)).mono fun _ _ ⟨h1, h2⟩ => ⟨⟨none, 0, h1⟩, h2⟩
          · have hN0 : l.length = 0 := by have := HN.out; omega
            have hl0 : l = [] := List.length_eq_zero_iff.1 hN0
            have h := rRanking_any key A c l [] (by subst hl0; exact ⟨by simp [scS], List.Pairwise.nil⟩) w' (HL.out.on hb) (by omega) HO.out.2 HK.out (HX.out.below hb)
            rw [HN.out] at h
            refine h.mono ?_
            rintro e w'' ⟨hb', P, k, rfl, hr⟩
            exact ⟨⟨P, k, rfl⟩, hb'⟩)
        clear hbad
        go_wp2_with fail
        refine HR1.out.mono ?_
        rintro e w3 ⟨rfl, hb⟩
        have HB3 := Lib.hid (HB2.out.trans (hb.mono HB2.out.size))
        clear hb
        go_wp2_with fail
        refine (HR2.out w3 HB3.out).mono ?_
        rintro e w4 ⟨⟨P, k, rfl⟩, hb⟩
        have HB4 := Lib.hid (HB3.out.trans (hb.mono HB3.out.size))
        clear hb
        go_wp2_with fail
        refine (equal_same [] 0 rfl none P 0 k w4 Reads.none_ ⟨rfl, fun h => absurd h (by omega)⟩ (by omega)).mono ?_
        rintro e wq ⟨rfl, q, rfl⟩
        have HB5 := Lib.hid (show Below w.heap.size w (w4.drewN q) from HB4.out.trans (below_drewN' _ _ _))
        generalize w4.drewN q = w5 at *
        go_wp2_with fail
        refine (awake_any w5 (HX.out.below HB5.out)).mono ?_
        rintro e w6 ⟨rfl, hb⟩
        have HB6 := Lib.hid (HB5.out.trans (hb.mono HB5.out.size))
        clear hb
        go_wp2_with fail
        go_ret
        exact ⟨rfl, HB6.out⟩
      · obtain ⟨n, hn⟩ : ∃ n, N = n + 1 := ⟨N - 1, by omega⟩
        have HR1 := Lib.hid (Ranking_ok key A c l n (by rw [HN.out]; exact hn) (by omega) w2 (HL.out.on HB2.out) HO.out.2 HK.out (HX.out.below HB2.out))
        rw [HN.out] at HR1
        have hN64 : N ≤ 64 := by omega
        have HR2 := Lib.hid (fun r (hr : IsRank (scS key l) r) w' (hb : Below w.heap.size w w') => rRanking_any key A c l r hr w' (HL.out.on hb) (by have := HN.out; omega) HO.out.2 HK.out (HX.out.below hb))
        rw [HN.out] at HR2
        clear hbad hn n
        go_wp2_with fail
        refine HR1.out.mono ?_
        rintro e w3 ⟨hb, r, G, hr, rfl, h2, h3, hc⟩
        have HRL := Lib.hid (show r.length = N by rw [hr.len, scS_len, HN.out])
        have HRK := Lib.hid hr
        have HRD := Lib.hid (rk_reads h3 hc)
        have HB3 := Lib.hid (HB2.out.trans (hb.mono HB2.out.size))
        clear hb hr hc h2 h3
        go_wp2_with fail
        refine (HR2.out r HRK.out w3 HB3.out).mono ?_
        rintro e w4 ⟨hb, P, k, rfl, hrd⟩
        have HB4 := Lib.hid (HB3.out.trans (hb.mono HB3.out.size))
        have HRD4 := Lib.hid ((Reads.below HRD.out hb).more hb.size)
        have HRP := Lib.hid hrd
        rw [HRL.out] at HRD4 HRP ⊢
        clear hb hrd
        go_wp2_with fail
        refine (equal_same r N HRL.out (some ⟨G, 0, none⟩) P N k w4 HRD4.out HRP.out (by omega)).mono ?_
        rintro e wq ⟨rfl, q, rfl⟩
        have HB5 := Lib.hid (show Below w.heap.size w (w4.drewN q) from HB4.out.trans (below_drewN' _ _ _))
        generalize w4.drewN q = w5 at *
        go_wp2_with fail
        refine (awake_any w5 (HX.out.below HB5.out)).mono ?_
        rintro e w6 ⟨rfl, hb⟩
        have HB6 := Lib.hid (HB5.out.trans (hb.mono HB5.out.size))
        clear hb
        go_wp2_with fail
        go_ret
        exact ⟨rfl, HB6.out⟩
end Go.Proofs.YtjjmdgiaohmjkaaDoor
