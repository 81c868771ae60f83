/- slices.symMergeCmpFunc at []int. -/
import Derived.Test.YtjjmdgiaohmjkaaDoorSB
import Derived.Deep.CutBlock
namespace Go.Proofs.YtjjmdgiaohmjkaaDoor
open Go.RowKit Go.Sort

section
variable {α : Type} [Inhabited α] {enc : α → Value} {cf : α → α → Int} {R : α → α → Prop} {w0 w : World} {blk off cap g : Nat} {cb : Array Value} {d0 d : Array α}
/-- What symMerge leaves. -/
def SymPost (enc : α → Value) (R : α → α → Prop) (w0 : World) (blk off a b : Nat) (d : Array α) (e : Ending) (w' : World) : Prop := e = .returned (.tuple #[]) ∧ ∃ d', SW enc w0 blk off d' w' ∧ MergePost R a b d d'
theorem MergePost.same {R : α → α → Prop} {a b : Nat} {d : Array α} (h : Srt R a b d) : MergePost R a b d d := ⟨permIn_refl _ _ _, h⟩
theorem cut_of {a m b mid s e s0 r0 : Nat} (hm : MergePre R (ltOf cf) a m b d) (h0 : s0 ≤ s) (h1 : s ≤ r0) (he : s + e = mid + m) (ha : a ≤ s0) (hr1 : r0 ≤ mid) (hr2 : r0 ≤ m) (hb : mid + m ≤ b + s0)
    (hs0 : s0 = a ∨ s0 + b = mid + m) (hr0 : r0 = m ∨ r0 = mid) (hlo : s = s0 ∨ ltOf cf d[mid + m - 1 - (s - 1)]! d[s - 1]! = false) (hhi : s = r0 ∨ ltOf cf d[mid + m - 1 - s]! d[s]! = true) : CutAt R a m b mid s e d := by
  refine ⟨by omega, by omega, by omega, by omega, by omega, by omega, he, ?_, ?_⟩
  · rcases hlo with h | h
    · rcases hs0 with h' | h'
      · exact .inl (by omega)
      · exact .inr (.inl (by omega))
    · by_cases hsa : s = a
      · exact .inl hsa
      by_cases heb : e = b
      · exact .inr (.inl heb)
      refine .inr (.inr ?_)
      rw [show mid + m - 1 - (s - 1) = e by omega] at h
      exact (hm.cross (s - 1) e (by omega) (by omega) (by omega) (by omega)).2 h
  · rcases hhi with h | h
    · rcases hr0 with h' | h'
      · exact .inl (by omega)
      · exact .inr (.inl (by omega))
    · by_cases hsm : s = m
      · exact .inl hsm
      by_cases hem : e = m
      · exact .inr (.inl hem)
      refine .inr (.inr ?_)
      rw [show mid + m - 1 - s = e - 1 by omega] at h
      exact (hm.cross s (e - 1) (by omega) (by omega) (by omega) (by omega)).1 h
set_option maxHeartbeats 16000000 in
set_option maxRecDepth 100000 in
theorem sym_gen (eg : ∀ args w, (callFunc g args).run Tryd.prog w = .ok (.enter g args) w) (hcmp : CmpLays1 Tryd.prog g cb enc cf blk off d0.size w0) (R1 : Row1 enc w0 blk off d0) (hR : Before R)
    (hs : d0.size = d.size) (S : SW enc w0 blk off d w) (a m b : Nat) (ham : a + 1 < m) (hmb : m + 1 < b) (hb : b ≤ d.size) (hsz : d.size < 4611686018427387904) (hm : MergePre R (ltOf cf) a m b d)
    (ih : ∀ (a' m' b' : Nat) (d' : Array α) (w' : World), b' - a' < b - a → d0.size = d'.size → SW enc w0 blk off d' w' → a' < m' → m' < b' → b' ≤ d'.size → MergePre R (ltOf cf) a' m' b' d' →
      Calls Tryd.prog 77 #[.slice (some ⟨blk, off, none⟩) d'.size cap, .int .i64 a', .int .i64 m', .int .i64 b', .func (.func g) #[] cb] w' (SymPost enc R w0 blk off a' b' d')) :
    Calls Tryd.prog 77 #[.slice (some ⟨blk, off, none⟩) d.size cap, .int .i64 a, .int .i64 m, .int .i64 b, .func (.func g) #[] cb] w (SymPost enc R w0 blk off a b d) := by
  have hcl0 := R1.hO.cells
  simp only [Value.cells] at hcl0
  have hst := R1.hO.store Tryd.prog
  have mixed : Tryd.prog.follows .mixedOrders = true := by kernel_rfl
  have HC := Lib.hid hcmp
  have S0 := Lib.hid S
  have HR := Lib.hid R1
  have HM := Lib.hid hm
  have IH := Lib.hid ih
  have t1 : (((m : Int) - (a : Int)) == 1) = false := by simp; omega
  have q1 : IntKind.i64.wrap ((m : Int) - (a : Int)) = (m : Int) - (a : Int) := by rw [IntKind.wrap_i64]; omega
  have t3 : (((b : Int) - (m : Int)) == 1) = false := by simp; omega
  have q3 : IntKind.i64.wrap ((b : Int) - (m : Int)) = (b : Int) - (m : Int) := by rw [IntKind.wrap_i64]; omega
  obtain ⟨mid, hmid⟩ : ∃ q, q = (a + b) / 2 := ⟨_, rfl⟩
  have emid : (((a : Int) + (b : Int)) / 2) = (mid : Int) := by omega
  have HEM := Lib.hid emid
  have HMD := Lib.hid (show 2 * mid ≤ a + b ∧ a + b ≤ 2 * mid + 1 by omega)
  clear hmid
  clear S R1 hcmp hm ih emid
  go_enter Tryd.func77, Tryd.ntmps77
  go_upto_region 25 with fail
  have emid := HEM.out
  simp only [emid]
  clear emid HEM
  obtain ⟨hmm1, hmm2⟩ := HMD.out
  clear HMD
  have qb : IntKind.i64.wrap ((mid : Int) + (m : Int)) = (mid : Int) + (m : Int) := by rw [IntKind.wrap_i64]; omega
  have qc : IntKind.i64.wrap ((mid : Int) + (m : Int) - (b : Int)) = (mid : Int) + (m : Int) - (b : Int) := by rw [IntKind.wrap_i64]; omega
  go_upto_if 140 with fail
  go_cut [18, 19, 20, 21] from 25 (fun v18 v19 v20 v21 wx => ∃ s0 r0 : Nat, v18 = .int .i64 mid ∧ v19 = .int .i64 ((mid : Int) + (m : Int)) ∧ v20 = .int .i64 s0 ∧ v21 = .int .i64 r0 ∧ wx = w ∧ a ≤ s0 ∧ s0 ≤ r0 ∧ r0 ≤ mid ∧ r0 ≤ m ∧ mid + m ≤ b + s0 ∧ (s0 = a ∨ s0 + b = mid + m) ∧ (r0 = m ∨ r0 = mid))
  case first =>
    as_aux_lemma =>
      clear t1 q1 t3 q3 S0 HC HR HM IH hcl0 hst mixed
      by_cases hmm : mid < m
      · have hmz : (mid : Int) < (m : Int) := by omega
        go_wp2_with fail
        go_meet
        exact ⟨mid + m - b, mid, by first | rfl | go_num | (congr 1; omega), by first | rfl | go_num | (congr 1; omega), by first | rfl | go_num | (congr 1; omega), by first | rfl | go_num | (congr 1; omega), rfl, by omega, by omega, by omega, by omega, by omega, .inr (by omega), .inr rfl⟩
      · have hmz : ¬ (mid : Int) < (m : Int) := by omega
        go_wp2_with fail
        go_meet
        exact ⟨a, m, by first | rfl | go_num | (congr 1; omega), by first | rfl | go_num | (congr 1; omega), rfl, rfl, rfl, by omega, by omega, by omega, by omega, by omega, .inl rfl, .inl rfl⟩
  case rest =>
    as_aux_lemma =>
      obtain ⟨s0, r0, rfl, rfl, rfl, rfl, rfl, k1, k2, k3, k4, k5, k6, k7⟩ := hcut
      clear t1 q1 t3 q3 qb qc
      have HCUT := Lib.hid (fun (s e : Nat) (h0 : s0 ≤ s) (h1 : s ≤ r0) (he : s + e = mid + m) hlo hhi => cut_of (s0 := s0) (r0 := r0) (e := e) HM.out h0 h1 he k1 k3 k4 k5 k6 k7 hlo hhi)
      clear k6 k7
      have qd : IntKind.i64.wrap ((mid : Int) + (m : Int) - 1) = (mid : Int) + (m : Int) - 1 := by rw [IntKind.wrap_i64]; omega
      go_upto_block 8 with fail
      go_cut [20] from 25 (fun v20 wx => ∃ (s e : Nat), v20 = .int .i64 s ∧ s + e = mid + m ∧ SW enc w0 blk off d wx ∧ CutAt R a m b mid s e d)
      case first =>
        as_aux_lemma =>
          go_wp2_with fail
          go_loopw [20, 21, 23] (fun vi vj _ wr => ∃ (i j : Nat), vi = .int .i64 i ∧ vj = .int .i64 j ∧ s0 ≤ i ∧ i ≤ j ∧ j ≤ r0 ∧ SW enc w0 blk off d wr ∧ (i = s0 ∨ ltOf cf d[mid + m - 1 - (i - 1)]! d[i - 1]! = false) ∧ (j = r0 ∨ ltOf cf d[mid + m - 1 - j]! d[j]! = true)) (fun vi vj _ _ => (intOf vj).toNat - (intOf vi).toNat)
          case atStart => exact ⟨s0, r0, by first | rfl | go_num | (congr 1; omega), by first | rfl | go_num | (congr 1; omega), Nat.le_refl _, by omega, Nat.le_refl _, S0.out, .inl rfl, .inl rfl⟩
          case round =>
            clear S0
            obtain ⟨i, j, rfl, rfl, hai, hij, hjb, hS, hlo, hhi⟩ := hrel
            have S := Lib.hid hS
            have HB := Lib.hid (And.intro hlo hhi)
            clear hS hlo hhi
            by_cases hlt : i < j
            · have hltz : (i : Int) < (j : Int) := by omega
              obtain ⟨h, hh⟩ : ∃ q, q = (i + j) / 2 := ⟨_, rfl⟩
              have HEH := Lib.hid (show ((i : Int) + (j : Int)) / 2 = (h : Int) by omega)
              have hih : i ≤ h := by omega
              have hhj : h < j := by omega
              clear hh
              go_upto_region 35 with fail
              have eh := HEH.out
              simp only [eh]
              clear eh HEH
              obtain ⟨pc, hpc⟩ : ∃ q, q = mid + m - 1 - h := ⟨_, rfl⟩
              have hpcb : pc < d.size := by omega
              have rr : IntKind.i64.wrap ((mid : Int) + (m : Int) - 1 - (h : Int)) = (pc : Int) := by rw [IntKind.wrap_i64]; omega
              have rr2 : wrap64 ((mid : Int) + (m : Int) - 1 - (h : Int)) = (pc : Int) := by rw [← IntWalk.i64_left]; exact rr
              have HPC := Lib.hid hpc
              clear hpc
              have b1 : (pc : Int) < (d.size : Int) := by omega
              have bn1 : pc < d.size := by omega
              have b2 : (h : Int) < (d.size : Int) := by omega
              have bn2 : h < d.size := by omega
              obtain ⟨x, hx⟩ : ∃ x, x = d[pc]! := ⟨_, rfl⟩
              obtain ⟨y, hy⟩ : ∃ x, x = d[h]! := ⟨_, rfl⟩
              have l1 := S.out.cl HR.out (by omega) (pc) (by omega)
              have l2 := S.out.cl HR.out (by omega) (h) (by omega)
              rw [← hx] at l1
              rw [← hy] at l2
              have hc := S.out.cmp HC.out (by omega) x y
              cases hlv : ltOf cf d[pc]! d[h]! with
              | true =>
                as_aux_lemma =>
                  have hv :  cf x y < 0 := by rw [hx, hy]; exact of_decide_eq_true hlv
                  have hd : decide (cf x y < 0) = true := decide_eq_true hv
                  clear hx hy
                  go_wp2_with fail
                  go_quiet_grown (first | (go_at_fn g; refine Calls.grown_of (hc _ _)))
                  have S2 := Lib.hid (show SW enc w0 blk off d (grow (wr.drewN nq) osq) from S.out.grown nq osq)
                  clear l1 l2 hc S
                  generalize grow (wr.drewN nq) osq = w2 at S2 ⊢
                  clear nq osq
                  go_wp2_with fail
                  go_roundw
                  case rel => first | exact ⟨i, h, rfl, by first | rfl | go_num | (congr 1; omega), hai, by omega, by omega, S2.out, HB.out.1, .inr (by rw [← HPC.out]; exact hlv)⟩ | ((repeat apply Exists.intro); exact ⟨⟨i, h, rfl, by first | rfl | go_num | (congr 1; omega), hai, by omega, by omega, S2.out, HB.out.1, .inr (by rw [← HPC.out]; exact hlv)⟩, rfl⟩)
                  case measure => simp [intOf]; omega
              | false =>
                as_aux_lemma =>
                  have hv : ¬ cf x y < 0 := by rw [hx, hy]; exact of_decide_eq_false hlv
                  have hd : decide (cf x y < 0) = false := decide_eq_false hv
                  clear hx hy
                  go_wp2_with fail
                  go_quiet_grown (first | (go_at_fn g; refine Calls.grown_of (hc _ _)))
                  have S2 := Lib.hid (show SW enc w0 blk off d (grow (wr.drewN nq) osq) from S.out.grown nq osq)
                  clear l1 l2 hc S
                  generalize grow (wr.drewN nq) osq = w2 at S2 ⊢
                  clear nq osq
                  go_wp2_with fail
                  go_roundw
                  case rel => first | exact ⟨h + 1, j, by first | rfl | go_num | (congr 1; omega), rfl, by omega, by omega, hjb, S2.out, .inr (by rw [Nat.add_sub_cancel, ← HPC.out]; exact hlv), HB.out.2⟩ | ((repeat apply Exists.intro); exact ⟨⟨h + 1, j, by first | rfl | go_num | (congr 1; omega), rfl, by omega, by omega, hjb, S2.out, .inr (by rw [Nat.add_sub_cancel, ← HPC.out]; exact hlv), HB.out.2⟩, rfl⟩)
                  case measure => simp [intOf]; omega
            · obtain rfl : i = j := by omega
              obtain ⟨e, he⟩ : ∃ q, i + q = mid + m := ⟨mid + m - i, by omega⟩
              have hd1 : ¬ (i : Int) < (i : Int) := by omega
              have hfin := HCUT.out i e hai hjb he HB.out.1 HB.out.2
              go_wp2_with fail
              go_meet
              exact ⟨i, e, rfl, he, S.out, hfin⟩
      case rest =>
        as_aux_lemma =>
          clear qd HCUT k1 k2 k3 k4 k5 s0 r0
          obtain ⟨s, e, rfl, he, hS, hct⟩ := hcut
          have S := Lib.hid hS
          have HCT := Lib.hid hct
          have c3 := hct.h3
          have c5 := hct.h5
          have c0 := hct.h0
          have c1 := hct.h1
          have c2 := hct.h2
          have c4 := hct.h4
          clear hS hct S0
          have ee : (mid : Int) + (m : Int) - (s : Int) = (e : Int) := by omega
          have q9 : IntKind.i64.wrap ((mid : Int) + (m : Int) - (s : Int)) = (e : Int) := by rw [IntKind.wrap_i64]; omega
          have hmid1 : a ≤ mid := by omega
          have hmid2 : mid ≤ b := by omega
          go_upto_region 39 with fail
          obtain ⟨wk, hwk⟩ : ∃ q : World, q = wc := ⟨_, rfl⟩
          rw [← hwk]
          go_cut [185] from 25 (fun v wx => v = .bool (decide (s < m) && decide (m < e)) ∧ wx = wk)
          case first =>
            as_aux_lemma =>
              clear hwk
              by_cases g1 : s < m
              · have z1 : (s : Int) < (m : Int) := by omega
                by_cases g2 : m < e
                · have z2 : (m : Int) < (e : Int) := by omega
                  go_wp2_with fail
                  go_meet
                  exact ⟨by rw [decide_eq_true g1, decide_eq_true g2]; rfl, rfl⟩
                · have z2 : ¬ (m : Int) < (e : Int) := by omega
                  go_wp2_with fail
                  go_meet
                  exact ⟨by rw [decide_eq_true g1, decide_eq_false g2]; rfl, rfl⟩
              · have z1 : ¬ (s : Int) < (m : Int) := by omega
                go_wp2_with fail
                go_meet
                exact ⟨by rw [decide_eq_false g1]; rfl, rfl⟩
          obtain ⟨rfl, rfl⟩ := hcut
          rw [hwk]
          clear hwk
          go_upto_if 185 with fail
          go_cut [] from 25 (fun wx => ∃ d1, SW enc w0 blk off d1 wx ∧ Rot a b s m e d d1)
          case first =>
            as_aux_lemma =>
              by_cases g1 : s < m ∧ m < e
              · have z1 : (decide (s < m) && decide (m < e)) = true := by rw [decide_eq_true g1.1, decide_eq_true g1.2]; rfl
                go_wp2_with fail
                try rw [ee]
                refine (rotate_s HR.out hs S.out a b s m e _ (by omega) (by omega) (by omega) (by omega) hb hsz).mono ?_
                rintro er w1 ⟨rfl, d1, hS1, hrt⟩
                go_wp2_with fail
                go_meet
                exact ⟨d1, hS1, hrt⟩
              · have z1 : (decide (s < m) && decide (m < e)) = false := by rw [← Bool.not_eq_true, Bool.and_eq_true, decide_eq_true_eq, decide_eq_true_eq]; exact g1
                go_wp2_with fail
                go_meet
                exact ⟨d, S.out, Rot.none _ _ _ _ _ _ (by omega)⟩
          case rest =>
            as_aux_lemma =>
              obtain ⟨d1, hS1, hrt⟩ := hcut
              have S1 := Lib.hid hS1
              have HRT := Lib.hid hrt
              have hz1 : d1.size = d.size := hrt.perm.1
              clear hS1 hrt S
              go_upto_region 41 with fail
              obtain ⟨wk, hwk⟩ : ∃ q : World, q = wc := ⟨_, rfl⟩
              rw [← hwk]
              go_cut [199] from 25 (fun v wx => v = .bool (decide (a < s) && decide (s < mid)) ∧ wx = wk)
              case first =>
                as_aux_lemma =>
                  clear hwk
                  by_cases g1 : a < s
                  · have z1 : (a : Int) < (s : Int) := by omega
                    by_cases g2 : s < mid
                    · have z2 : (s : Int) < (mid : Int) := by omega
                      go_wp2_with fail
                      go_meet
                      exact ⟨by rw [decide_eq_true g1, decide_eq_true g2]; rfl, rfl⟩
                    · have z2 : ¬ (s : Int) < (mid : Int) := by omega
                      go_wp2_with fail
                      go_meet
                      exact ⟨by rw [decide_eq_true g1, decide_eq_false g2]; rfl, rfl⟩
                  · have z1 : ¬ (a : Int) < (s : Int) := by omega
                    go_wp2_with fail
                    go_meet
                    exact ⟨by rw [decide_eq_false g1]; rfl, rfl⟩
              obtain ⟨rfl, rfl⟩ := hcut
              rw [hwk]
              clear hwk
              go_upto_if 199 with fail
              go_cut [] from 25 (fun wx => ∃ d2, SW enc w0 blk off d2 wx ∧ MergePost R a mid d1 d2)
              case first =>
                as_aux_lemma =>
                  by_cases g1 : a < s ∧ s < mid
                  · have z1 : (decide (a < s) && decide (s < mid)) = true := by rw [decide_eq_true g1.1, decide_eq_true g1.2]; rfl
                    go_wp2_with fail
                    rw [← hz1]
                    refine (IH.out a s mid d1 _ (by omega) (by omega) S1.out (by omega) (by omega) (by omega) (HCT.out.first HM.out HRT.out)).mono ?_
                    rintro er w2 ⟨rfl, d2, hS2, hp2⟩
                    go_wp2_with fail
                    go_meet
                    exact ⟨d2, hS2, hp2⟩
                  · have z1 : (decide (a < s) && decide (s < mid)) = false := by rw [← Bool.not_eq_true, Bool.and_eq_true, decide_eq_true_eq, decide_eq_true_eq]; exact g1
                    have hp2 : MergePost R a mid d1 d1 := .same (by
                      have h := HCT.out.first HM.out HRT.out
                      by_cases h1 : s ≤ a
                      · exact h.whole_right h1
                      · exact h.whole_left (by omega))
                    go_wp2_with fail
                    go_meet
                    exact ⟨d1, S1.out, hp2⟩
              case rest =>
                as_aux_lemma =>
                  obtain ⟨d2, hS2, hp2⟩ := hcut
                  have S2 := Lib.hid hS2
                  have HP2 := Lib.hid hp2
                  have hz2 : d2.size = d.size := hp2.perm.1.trans hz1
                  clear hS2 hp2 S1
                  by_cases g1 : mid < e
                  · have z1 : (mid : Int) < (e : Int) := by omega
                    by_cases g2 : e < b
                    · have z2 : (e : Int) < (b : Int) := by omega
                      go_wp2_with fail
                      rw [← hz2]
                      refine (IH.out mid e b d2 _ (by omega) (by omega) S2.out (by omega) (by omega) (by omega) (HCT.out.second HM.out HRT.out HP2.out.perm)).mono ?_
                      rintro er w3 ⟨rfl, d3, hS3, hp3⟩
                      go_wp2_with fail
                      go_end0
                      exact ⟨rfl, d3, hS3, HCT.out.done hR HM.out hb hmid1 hmid2 HRT.out HP2.out hp3⟩
                    · have z2 : ¬ (e : Int) < (b : Int) := by omega
                      have hp3 : MergePost R mid b d2 d2 := .same ((HCT.out.second HM.out HRT.out HP2.out.perm).whole_left (by omega))
                      have hfin := HCT.out.done hR HM.out hb hmid1 hmid2 HRT.out HP2.out hp3
                      go_wp2_with fail
                      go_end0
                      exact ⟨rfl, d2, S2.out, hfin⟩
                  · have z1 : ¬ (mid : Int) < (e : Int) := by omega
                    have hp3 : MergePost R mid b d2 d2 := .same ((HCT.out.second HM.out HRT.out HP2.out.perm).whole_right (by omega))
                    have hfin := HCT.out.done hR HM.out hb hmid1 hmid2 HRT.out HP2.out hp3
                    go_wp2_with fail
                    go_end0
                    exact ⟨rfl, d2, S2.out, hfin⟩
set_option maxRecDepth 100000 in
theorem sym_any (eg : ∀ args w, (callFunc g args).run Tryd.prog w = .ok (.enter g args) w) (hcmp : CmpLays1 Tryd.prog g cb enc cf blk off d0.size w0) (R1 : Row1 enc w0 blk off d0) (hR : Before R) (hsz : d0.size < 4611686018427387904) :
    ∀ (N a m b : Nat) (d : Array α) (w : World), b - a ≤ N → d0.size = d.size → SW enc w0 blk off d w → a < m → m < b → b ≤ d.size → MergePre R (ltOf cf) a m b d →
      Calls Tryd.prog 77 #[.slice (some ⟨blk, off, none⟩) d.size cap, .int .i64 a, .int .i64 m, .int .i64 b, .func (.func g) #[] cb] w (SymPost enc R w0 blk off a b d)
  | 0, a, m, b, d, w, hN, _, _, h1, h2, _, _ => absurd hN (by omega)
  | N + 1, a, m, b, d, w, hN, hs, S, h1, h2, hb, hm => by
    by_cases e1 : m = a + 1
    · subst e1
      exact sym_left eg hcmp R1 hR hs S a b h2 hb (by omega) hm
    · by_cases e2 : b = m + 1
      · subst e2
        exact sym_right eg hcmp R1 hR hs S a m (by omega) hb (by omega) hm
      · exact sym_gen eg hcmp R1 hR hs S a m b (by omega) (by omega) hb (by omega) hm fun a' m' b' d' w' k1 k2 k3 k4 k5 k6 k7 => sym_any eg hcmp R1 hR hsz N a' m' b' d' w' (by omega) k2 k3 k4 k5 k6 k7
end
end Go.Proofs.YtjjmdgiaohmjkaaDoor
