/- has, the reference's Ranking; the program's Ranking; equal. -/
import Derived.Test.YtjjmdgiaohmjkaaDoorSJ
namespace Go.Proofs.YtjjmdgiaohmjkaaDoor
open Go.RowKit
open Go.Sort (grow)

def ciL (l : List Nat) : List Int := l.map fun (x : Nat) => (x : Int)
def lenV : Value → Nat
  | .slice _ n _ => n
  | _ => 0
theorem ciL_len (l : List Nat) : (ciL l).length = l.length := by simp [ciL]
theorem ciL_at {l : List Nat} {k x : Nat} (h : l[k]? = some x) : (ciL l)[k]? = some (x : Int) := by unfold ciL; rw [List.getElem?_map, h]; rfl
theorem own_ge {w : World} {base : Nat} {e : TypeId} {sz n : Nat} {v : Value} {xs : List Value} (h : w.ownsRow base e sz v n xs) : ∀ q, v.ownBlock = some q → base ≤ q := by
  intro q hq
  rcases h.2 with ⟨rfl, _⟩ | ⟨g, cap, cur, rfl, hb, _⟩
  · cases hq
  · have hq : g = q := Option.some.inj hq
    omega
theorem OwnI.rd {w : World} {base k c : Nat} {P : Option Addr} {l : List Int} (h : OwnI w base (.slice P k c) l) (e : l.length = k) : Reads w w.heap.size 1 P l.length (ivals l) := by
  subst e; exact Reads.of_own h
set_option maxHeartbeats 1000000 in
theorem has_any (A : Option Addr) (c N : Nat) (l : List Nat) (n : Nat) (w : World) (hN : (ciL l).length = N) (hl : Reads w w.heap.size 1 A (ciL l).length (ivals (ciL l))) (hln : N ≤ 1000) :
    Calls Tryd.prog 39 #[.slice A N c, .int .i64 (n : Nat)] w fun e w' => e = .returned (.bool (decide (n ∈ l))) ∧ w = w' := by
  have HL := Lib.hid hl
  have HN := Lib.hid (show l.length = N by rw [← ciL_len]; exact hN)
  have hNb : (N : Int) ≤ 1000 := by omega
  clear hl hN hln
  go_enter Tryd.func39, Tryd.ntmps39
  go_wp2_with fail
  go_loopw [5] (fun i wr => ∃ k : Nat, k ≤ N ∧ i = .int .i64 k ∧ wr = w ∧ n ∉ l.take k) (fun i _ => N - (intOf i).toNat)
  case atStart => exact ⟨0, Nat.zero_le _, rfl, rfl, by simp⟩
  case round =>
    obtain ⟨k, hk, rfl, rfl, hm⟩ := hrel
    have HM := Lib.hid hm
    clear hm
    by_cases hlt : k < N
    · have hltz : (k : Int) < (N : Int) := by omega
      obtain ⟨x, hx⟩ : ∃ x, l[k]? = some x := ⟨_, List.getElem?_eq_getElem (by have := HN.out; omega)⟩
      obtain ⟨b, o, rfl, -, c0⟩ := HL.out.int (ciL_at hx)
      have p0 : (0 : Int) ≤ k := by omega
      by_cases hxn : x = n
      · subst hxn
        have HE := Lib.hid (show true = decide (x ∈ l) from (decide_eq_true (List.mem_of_getElem? hx)).symm)
        clear hx
        go_wp2_with fail
        go_ret
        exact ⟨ret_bool HE.out, rfl⟩
      · have hd : ((x : Int) == (n : Int)) = false := by simp; omega
        have HE := Lib.hid (show n ∉ l.take (k + 1) by
          rw [List.take_add_one, hx, List.mem_append]
          rintro (h | h)
          · exact HM.out h
          · simp at h; exact hxn h.symm)
        clear hx hxn
        go_wp2_with fail
        go_roundw
        case rel => exact ⟨k + 1, by omega, by go_num, trivial, HE.out⟩
        case measure => (simp [intOf] <;> omega)
    · obtain rfl : k = N := by omega
      have HE := Lib.hid (show false = decide (n ∈ l) from (decide_eq_false (by have h := HM.out; rw [← HN.out, List.take_length] at h; exact h)).symm)
      go_wp2_with fail
      go_ret
      exact ⟨ret_bool HE.out, rfl⟩

/-! ### the best one of the rest -/
def nxF (S : List Int) (T : List Nat) (o : Option Nat) (i : Nat) : Option Nat := if i ∈ T then o else match o with
  | none => some i
  | some b => some (bstF S b i)
def nxK (S : List Int) (T : List Nat) (i : Nat) : Option Nat := (List.range i).foldl (nxF S T) none
theorem nxK_succ (S : List Int) (T : List Nat) (i : Nat) : nxK S T (i + 1) = nxF S T (nxK S T i) i := by unfold nxK; rw [List.range_succ, List.foldl_append]; rfl
def bI (o : Option Nat) : Int := match o with
  | none => -1
  | some b => (b : Nat)
/-- What a look through the first i has found. -/
def NxOk (S : List Int) (T : List Nat) (i : Nat) (o : Option Nat) : Prop := match o with
  | none => ∀ x, x < i → x ∈ T
  | some b => b < i ∧ b ∉ T ∧ ∀ x, x < i → x ∉ T → x ≠ b → Bet S b x
theorem nxK_ok (S : List Int) (T : List Nat) : ∀ i, NxOk S T i (nxK S T i)
  | 0 => by unfold nxK; simp [NxOk]
  | i + 1 => by
    have ih := nxK_ok S T i
    rw [nxK_succ]
    generalize nxK S T i = o at *
    unfold nxF
    by_cases hm : i ∈ T
    · rw [if_pos hm]
      cases o with
      | none => exact fun x hx => by by_cases e : x = i; · subst e; exact hm
                                     · exact ih x (by omega)
      | some b => exact ⟨by have := ih.1; omega, ih.2.1, fun x hx hn hne => by
          by_cases e : x = i
          · subst e; exact absurd hm hn
          · exact ih.2.2 x (by omega) hn hne⟩
    · rw [if_neg hm]
      cases o with
      | none => exact ⟨by omega, hm, fun x hx hn hne => absurd (ih x (by omega)) hn⟩
      | some b =>
        obtain ⟨h1, h2, h3⟩ := ih
        simp only []
        unfold bstF
        split
        · rename_i hc
          refine ⟨by omega, hm, fun x hx hn hne => ?_⟩
          by_cases e : x = b
          · subst e; exact .inl hc
          · have := h3 x (by omega) hn e
            unfold Bet at this ⊢; omega
        · rename_i hc
          refine ⟨by omega, h2, fun x hx hn hne => ?_⟩
          by_cases e : x = i
          · subst e; unfold Bet; omega
          · exact h3 x (by omega) hn hne
theorem nxK_at {S : List Int} {r : List Nat} (hr : IsRank S r) {k : Nat} (hk : k < r.length) : ∃ b, nxK S (r.take k) S.length = some b ∧ r[k]? = some b := by
  have h := nxK_ok S (r.take k) S.length
  cases hq : nxK S (r.take k) S.length with
  | some b => rw [hq] at h; exact ⟨b, rfl, hr.next hk h.1 h.2.1 h.2.2⟩
  | none =>
    rw [hq] at h
    obtain ⟨x, hx⟩ : ∃ x, r[k]? = some x := ⟨_, List.getElem?_eq_getElem hk⟩
    have hm := h x (hr.lt (List.mem_of_getElem? hx))
    obtain ⟨i, hi⟩ := List.getElem?_of_mem hm
    rw [List.getElem?_take] at hi
    by_cases c : i < k
    · rw [if_pos c] at hi
      exact ((hr.bet hi hx c).asymm (hr.bet hi hx c)).elim
    · rw [if_neg c] at hi; cases hi
theorem nx_in {S : List Int} {T : List Nat} {i : Nat} {o : Option Nat} (h : nxK S T i = o) (hm : i ∈ T) : nxK S T (i + 1) = o := by rw [nxK_succ, h]; unfold nxF; rw [if_pos hm]
theorem nx_none {S : List Int} {T : List Nat} {i : Nat} (h : nxK S T i = none) (hm : i ∉ T) : nxK S T (i + 1) = some i := by rw [nxK_succ, h]; unfold nxF; rw [if_neg hm]
theorem nx_some {S : List Int} {T : List Nat} {i b : Nat} (h : nxK S T i = some b) (hm : i ∉ T) : nxK S T (i + 1) = some (bstF S b i) := by rw [nxK_succ, h]; unfold nxF; rw [if_neg hm]
theorem take_ci {r : List Nat} {k b : Nat} (h : r[k]? = some b) : ciL (r.take k) ++ [(b : Int)] = ciL (r.take (k + 1)) := by
  rw [List.take_add_one, h]; simp [ciL]
theorem take_ci_len {r : List Nat} {k : Nat} (h : k ≤ r.length) : (ciL (r.take k)).length = k := by rw [ciL_len, List.length_take]; omega

/-! ### the reference's Ranking -/
set_option maxHeartbeats 1000000 in
theorem rRanking_long (key : ByteArray) (A : Option Addr) (c N : Nat) (h : 64 < N) (w : World) (hln : N ≤ 9223372036854775807) :
    Calls Tryd.prog 27 #[.string key, .slice A N c] w fun e w' => e = .returned (.slice none 0 0) ∧ Below w.heap.size w w' := by
  have d1 : decide ((64 : Int) < (N : Int)) = true := decide_eq_true (by omega)
  clear h
  go_enter Tryd.func27, Tryd.ntmps27
  go_wp2_with fail
  go_ret
  exact ⟨rfl, Below.refl _ _⟩
/-- What the reference's Ranking leaves. -/
def RrPost (w : World) (r : List Nat) (e : Ending) (w' : World) : Prop := Below w.heap.size w w' ∧ ∃ P k, e = .returned (.slice P r.length k) ∧ Reads w' w'.heap.size 1 P r.length (ivals (ciL r))
set_option maxHeartbeats 8000000 in
set_option maxRecDepth 8000 in
theorem rRanking_any (key : ByteArray) (A : Option Addr) (c : Nat) (l : List ByteArray) (r : List Nat) (hr : IsRank (scS key l) r) (w : World) (hl : StrL w w.heap.size A l) (hln : l.length ≤ 64) (hsz : ∀ t ∈ l, t.size ≤ 200) (hk : key.size ≤ 200) (hX : LaidH w) :
    Calls Tryd.prog 27 #[.string key, .slice A l.length c] w (RrPost w r) := by
  obtain ⟨i0, ih, iz0, iz1, iz2⟩ := info_parts2 info2_int
  obtain ⟨N, hN⟩ : ∃ q, q = l.length := ⟨_, rfl⟩
  have HL := Lib.hid hl
  have HX := Lib.hid hX
  have HS := Lib.hid hsz
  have HK := Lib.hid hk
  have HR := Lib.hid hr
  have HRL := Lib.hid (show r.length = N by rw [hr.len, scS_len, hN])
  have HSN := Lib.hid (show (scS key l).length = N by rw [scS_len, hN])
  obtain ⟨S, hS⟩ : ∃ S, scS key l = S := ⟨_, rfl⟩
  rw [hS] at HR HSN
  have HSS := Lib.hid hS
  rw [← hN]
  have HN := Lib.hid hN
  have d1 : decide ((64 : Int) < (N : Int)) = false := decide_eq_false (by omega)
  have HM := Lib.hid (show N ≤ 64 by omega)
  clear hl hX hsz hk hr hS hN hln
  go_enter Tryd.func27, Tryd.ntmps27
  go_wp2_with fail
  go_loopw [5, 6, 7] (fun v _ _ wr => ∃ (k : Nat), k ≤ N ∧ OwnI wr w.heap.size v (ciL (r.take k)) ∧ Below w.heap.size w wr) (fun v _ _ _ => N - lenV v)
  case atStart => exact ⟨0, Nat.zero_le _, by simpa [ciL] using OwnI.nil _ _, Below.refl _ _⟩
  case round =>
    obtain ⟨k, hk, hown, hb⟩ := hrel
    have hTl : (ciL (r.take k)).length = k := take_ci_len (by rw [HRL.out]; exact hk)
    obtain ⟨P, cp, rfl⟩ := own_slice hown
    rw [hTl] at hown ⊢
    have HTL := Lib.hid hTl
    have HV := Lib.hid hown
    have HB := Lib.hid hb
    have hNb : N ≤ 64 := HM.out
    clear hTl hown hb
    by_cases hlt : k < N
    · have hltz : (k : Int) < (N : Int) := by omega
      go_wp2_with fail
      rename_i wo_
      go_loopw [6, 7] (fun vb vi wx => ∃ (i : Nat) (o : Option Nat), vi = .int .i64 i ∧ vb = .int .i64 (bI o) ∧ nxK S (r.take k) i = o ∧ i ≤ N ∧ OwnI wx w.heap.size (.slice P k cp) (ciL (r.take k)) ∧ Below w.heap.size w wx) (fun _ vi _ => N - (intOf vi).toNat)
      case atStart => exact ⟨0, none, rfl, rfl, rfl, Nat.zero_le _, HV.out, HB.out⟩
      case round =>
        clear HV HB
        obtain ⟨i, ob, rfl, rfl, hnx, hiN, hown, hb⟩ := hrel
        have HV := Lib.hid hown
        have HB := Lib.hid hb
        have HNX := Lib.hid hnx
        have hzr : w.heap.size ≤ wr.heap.size := hb.size
        clear hown hb hnx
        by_cases hlt2 : i < N
        · have hltz2 : (i : Int) < (N : Int) := by omega
          have pi : (0 : Int) ≤ i := by omega
          obtain ⟨t, ht⟩ : ∃ t, l[i]? = some t := ⟨_, List.getElem?_eq_getElem (by have := HN.out; omega)⟩
          have HT := Lib.hid ht
          clear ht
          go_wp2_with fail
          refine (has_any P cp k (r.take k) i _ HTL.out (OwnI.rd HV.out HTL.out) (by omega)).mono ?_
          rintro e wq ⟨rfl, rfl⟩
          by_cases hm : i ∈ r.take k
          · have HE := Lib.hid (nx_in HNX.out hm)
            rw [decide_eq_true hm]
            clear hm
            go_wp2_with fail
            go_roundw
            case rel => first | exact ⟨i + 1, ob, by go_num, rfl, HE.out, by omega, HV.out, HB.out⟩ | ((repeat apply Exists.intro); exact ⟨⟨i + 1, ob, by go_num, rfl, HE.out, by omega, HV.out, HB.out⟩, rfl⟩)
            case measure => (simp [intOf] <;> omega)
          · rw [decide_eq_false hm]
            have HMM := Lib.hid hm
            clear hm
            cases ob with
            | none =>
              have HE := Lib.hid (nx_none HNX.out HMM.out)
              simp only [bI]
              go_wp2_with fail
              go_region
              have HB2 := Lib.hid (HB.out.drew)
              have HV2 := Lib.hid (own_below HV.out (below_drewN' wr.heap.size wr 1))
              go_wp2_with fail
              go_roundw
              case rel => first | exact ⟨i + 1, some i, by go_num, rfl, HE.out, by omega, HV2.out, HB2.out⟩ | ((repeat apply Exists.intro); exact ⟨⟨i + 1, some i, by go_num, rfl, HE.out, by omega, HV2.out, HB2.out⟩, rfl⟩)
              case measure => (simp [intOf] <;> omega)
            | some b =>
              simp only [bI]
              have hbk := nxK_ok S (r.take k) i
              rw [HNX.out] at hbk
              have hbi := hbk.1
              clear hbk
              obtain ⟨u, hu⟩ : ∃ t, l[b]? = some t := ⟨_, List.getElem?_eq_getElem (by have := HN.out; omega)⟩
              have gi : S.getD i 0 = scI key t := by rw [← HSS.out]; exact scS_get HT.out
              have gq : S.getD b 0 = scI key u := by rw [← HSS.out]; exact scS_get hu
              have SA_ := Lib.hid (Score_at t key wr (HS.out t (List.mem_of_getElem? HT.out)) HK.out (HX.out.below HB.out))
              have SB_ := Lib.hid (Score_at u key wr (HS.out u (List.mem_of_getElem? hu)) HK.out (HX.out.below HB.out))
              obtain ⟨b1, o1, hA, -, c0⟩ := (HL.out.keep HB.out).cell HT.out
              obtain ⟨b', o', hA', -, c1⟩ := (HL.out.keep HB.out).cell hu
              rw [hA] at hA'
              injection hA' with hA'
              injection hA' with e1 e2
              subst e1 e2
              subst hA
              have r0 := fun d os => cell_regrown c0 d os
              have r1 := fun d os => cell_regrown c1 d os
              have bq : (b : Int) < (N : Int) := by omega
              have pq : (0 : Int) ≤ b := by omega
              have dn : decide ((b : Int) < 0) = false := decide_eq_false (by omega)
              have HG := Lib.hid (And.intro gi gq)
              clear hu gi gq
              by_cases hc : scI key u < scI key t
              · have hd : decide (scI key u < scI key t) = true := decide_eq_true hc
                have HE := Lib.hid (show nxK S (r.take k) (i + 1) = some i by rw [nx_some HNX.out HMM.out]; unfold bstF; rw [HG.out.1, HG.out.2, if_pos hc])
                go_wp2_with fail
                refine wp_region_quiet_below (by kernel_rfl) (by kernel_rfl) ?_
                repeat (go_big_quiet_step ((go_at_call 38; first | (with_reducible exact SA_.out _ _) | (with_reducible exact SB_.out _ _))))
                refine wpQuiet_nil ?_
                intro _ hw'
                obtain ⟨⟨dq, osq⟩, hw''⟩ := hw'
                subst hw''
                have hbq := below_regrown wr dq osq
                have HB2 := Lib.hid (HB.out.trans (hbq.mono hzr))
                have HV2 := Lib.hid (own_below HV.out hbq)
                generalize grow (redrawn wr dq) osq = w2 at *
                clear c0 c1 r0 r1 hbq
                go_wp2_with fail
                go_roundw
                case rel => first | exact ⟨i + 1, some i, by go_num, rfl, HE.out, by omega, HV2.out, HB2.out⟩ | ((repeat apply Exists.intro); exact ⟨⟨i + 1, some i, by go_num, rfl, HE.out, by omega, HV2.out, HB2.out⟩, rfl⟩)
                case measure => (simp [intOf] <;> omega)
              · have hd : decide (scI key u < scI key t) = false := decide_eq_false hc
                have HE := Lib.hid (show nxK S (r.take k) (i + 1) = some b by rw [nx_some HNX.out HMM.out]; unfold bstF; rw [HG.out.1, HG.out.2, if_neg hc])
                go_wp2_with fail
                refine wp_region_quiet_below (by kernel_rfl) (by kernel_rfl) ?_
                repeat (go_big_quiet_step ((go_at_call 38; first | (with_reducible exact SA_.out _ _) | (with_reducible exact SB_.out _ _))))
                refine wpQuiet_nil ?_
                intro _ hw'
                obtain ⟨⟨dq, osq⟩, hw''⟩ := hw'
                subst hw''
                have hbq := below_regrown wr dq osq
                have HB2 := Lib.hid (HB.out.trans (hbq.mono hzr))
                have HV2 := Lib.hid (own_below HV.out hbq)
                generalize grow (redrawn wr dq) osq = w2 at *
                clear c0 c1 r0 r1 hbq
                go_wp2_with fail
                go_roundw
                case rel => first | exact ⟨i + 1, some b, by go_num, rfl, HE.out, by omega, HV2.out, HB2.out⟩ | ((repeat apply Exists.intro); exact ⟨⟨i + 1, some b, by go_num, rfl, HE.out, by omega, HV2.out, HB2.out⟩, rfl⟩)
                case measure => (simp [intOf] <;> omega)
        · obtain rfl : i = N := by omega
          obtain ⟨b, hnb, hrb⟩ := nxK_at HR.out (k := k) (by rw [HRL.out]; exact hlt)
          rw [HSN.out, HNX.out] at hnb
          subst hnb
          simp only [bI]
          have HRB := Lib.hid (take_ci hrb)
          clear hrb
          have hle : (ciL (r.take k)).length = k := HTL.out
          go_wp2_with (at_builtin; go_loud (refine wpList_append_own _ rfl (.tmp 44) (.tmp 46) 43 rfl w.heap.size 3 i0 (.int .i64 0) 1 8 Tryd.underlying43 ih iz0 iz1 iz2 rfl (by decide) _ (ciL (r.take k)).length (ivals (ciL (r.take k))) rfl (own_below HV.out (al_new _ _)) ⟨wr.heap.size, 0, none⟩ 1 1 [.int .i64 (b : Nat)] rfl rfl (cells_new_at rfl) (by intro u hu; simp at hu; subst hu; rfl) (by simp only [maxLen]; omega) (by omega) (by simp; omega) ?_); intro v' wn hown1 hgr hiff; clear hiff; have HG := Lib.hid (And.intro hown1 hgr); clear hown1 hgr)
          have hgn : w.heap.size ≤ wn.heap.size := by have := HG.out.2.size; simp at this; omega
          have hlow : Below w.heap.size w wn := ((HB.out).alloc hzr _).grown HG.out.2 (by simp; omega) (fun q hq => own_ge HV.out q hq)
          have hown := OwnI.push HG.out.1
          rw [HRB.out] at hown
          obtain ⟨p', cp', rfl⟩ := own_slice hown
          have HF := Lib.hid (And.intro hown hlow)
          clear hlow hown HG
          have hl1 : (ciL (r.take (k + 1))).length = k + 1 := take_ci_len (by rw [HRL.out]; omega)
          go_wp2_with fail
          go_roundw
          case rel => first | exact ⟨k + 1, by omega, HF.out.1, HF.out.2⟩ | ((repeat apply Exists.intro); exact ⟨⟨k + 1, by omega, HF.out.1, HF.out.2⟩, rfl⟩)
          case measure => simp only [lenV]; omega
    · obtain rfl : k = N := by omega
      go_wp2_with fail
      go_ret
      have hrl := HRL.out
      have hv := HV.out
      rw [List.take_of_length_le (by omega)] at hv
      refine ⟨HB.out, P, cp, by rw [hrl]; rfl, ?_⟩
      have := OwnI.rd hv (by rw [ciL_len]; exact hrl)
      rw [ciL_len] at this
      rw [hrl] at this ⊢
      exact this
end Go.Proofs.YtjjmdgiaohmjkaaDoor
