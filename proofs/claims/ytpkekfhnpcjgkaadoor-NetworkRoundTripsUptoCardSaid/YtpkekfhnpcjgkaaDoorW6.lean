/- The walks of Dead and its reference, and of equal lists. -/
import Derived.Test.YtpkekfhnpcjgkaaDoorW5
namespace Go.Proofs.YtpkekfhnpcjgkaaDoor
open Go.RowKit
open Nw
open Go.Sort (grow)

set_option maxHeartbeats 1000000 in
theorem same_any (p p' : Option Addr) (c c' : Nat) (l : List Int) (B B' : Nat) (w : World) (h : Reads w B 1 p l.length (ivals l)) (h' : Reads w B' 1 p' l.length (ivals l)) (hn : l.length ≤ 1000000) :
    Calls Tryd.prog 53 #[.slice p l.length c, .slice p' l.length c'] w fun e w' => e = .returned (.bool true) ∧ Below w.heap.size w w' := by
  have HG := Lib.hid (fun k (hk : k < l.length) => reads_eq h h' hk)
  clear h h'
  go_enter Tryd.func53, Tryd.ntmps53
  go_wp2_with fail
  go_loopw [5] (fun i wr => ∃ k n : Nat, k ≤ l.length ∧ i = .int .i64 k ∧ wr = w.drewN n) (fun i _ => l.length - (intOf i).toNat)
  case atStart => exact ⟨0, 0, Nat.zero_le _, rfl, rfl⟩
  case round =>
    obtain ⟨k, nq, hk, rfl, rfl⟩ := hrel
    by_cases hlt : k < l.length
    · obtain ⟨b, o, b', o', x, rfl, rfl, p0, q0⟩ := HG.out k hlt
      have hltI : (k : Int) < l.length := by omega
      go_wp2_with fail
      go_quiet (fail)
      go_wp2_with fail
      go_roundw
      case rel => exact ⟨k + 1, _, by omega, by go_num, by first | rfl | rw [World.drewN_drewN]⟩
      case measure => simp [intOf]; omega
    · go_wp2_with fail
      go_ret
      exact ⟨rfl, below_drewN' _ _ _⟩
def deadI (l : List Rule) (n : Nat) : List Int := (deadL l n).map (fun (x : Nat) => (x : Int))
theorem deadI_len (l : List Rule) (n : Nat) : (deadI l n).length ≤ n := by unfold deadI; rw [List.length_map]; exact deadL_len l n
theorem deadI_yes {l : List Rule} {n : Nat} (h : isDead l n = true) : deadI l (n + 1) = deadI l n ++ [(n : Int)] := by
  unfold deadI
  show List.map _ (if isDead l n then _ else _) = _
  rw [if_pos h, List.map_append]; rfl
theorem deadI_no {l : List Rule} {n : Nat} (h : isDead l n = false) : deadI l (n + 1) = deadI l n := by
  unfold deadI
  show List.map _ (if isDead l n then _ else _) = _
  rw [if_neg (by rw [h]; simp)]
/-- No rule before the m-th covers r. -/
def NoC (l : List Rule) (r : Rule) (m : Nat) : Prop := ∀ (j : Nat) (x : Rule), j < m → l[j]? = some x → x.cv r = false
theorem NoC.zero (l : List Rule) (r : Rule) : NoC l r 0 := fun j _ h => by omega
theorem NoC.step {l : List Rule} {r x : Rule} {m : Nat} (h : NoC l r m) (hx : l[m]? = some x) (hm : x.cv r = false) : NoC l r (m + 1) := by
  intro j y hj hy
  by_cases e : j = m
  · subst e; rw [hx] at hy; injection hy with hy; rw [← hy]; exact hm
  · exact h j y (by omega) hy
theorem dead_yes {l : List Rule} {k m : Nat} {r x : Rule} (hr : l[k]? = some r) (hx : l[m]? = some x) (hm : m < k) (hc : x.cv r = true) : isDead l k = true := by
  unfold isDead
  rw [hr]
  simp only [List.any_eq_true]
  exact ⟨x, List.mem_of_getElem? (i := m) (by rw [List.getElem?_take_of_lt hm]; exact hx), hc⟩
theorem dead_no {l : List Rule} {k : Nat} {r : Rule} (hr : l[k]? = some r) (h : NoC l r k) : isDead l k = false := by
  unfold isDead
  rw [hr]
  simp only [List.any_eq_false]
  intro x hx
  obtain ⟨j, hj⟩ := List.getElem?_of_mem hx
  have hjk : j < k := by
    have := (List.getElem?_eq_some_iff.1 hj).1
    rw [List.length_take] at this
    omega
  rw [List.getElem?_take_of_lt hjk] at hj
  rw [h j x hjk hj]; simp
set_option maxHeartbeats 4000000 in
set_option maxRecDepth 100000 in
theorem Dead_any (A : Option Addr) (c : Nat) (l : List Rule) (w : World) (hl : RulesAt w w.heap.size A l) (hn : l.length ≤ 1000) (hcap : l.length ≤ c) :
    Calls Tryd.prog 54 #[.slice A l.length c] w fun e w' => ∃ v, e = .returned v ∧ OwnI w' w.heap.size v (deadI l l.length) ∧ Below w.heap.size w w' := by
  have HL := Lib.hid hl
  clear hl
  obtain ⟨i0, ih, iz0, iz1, iz2⟩ := info_parts info_int
  go_enter Tryd.func54, Tryd.ntmps54
  go_wp2_with fail
  go_loopw [3, 10] (fun v i wr => ∃ k : Nat, k ≤ l.length ∧ i = .int .i64 k ∧ OwnI wr w.heap.size v (deadI l k) ∧ Below w.heap.size w wr) (fun _ i _ => l.length - (intOf i).toNat)
  case atStart => exact ⟨0, Nat.zero_le _, rfl, OwnI.nil _ _, Below.refl _ _⟩
  case round =>
    obtain ⟨k, hk, rfl, hv, hbr⟩ := hrel
    obtain ⟨wo, rfl⟩ : ∃ wo : World, wo = wr := ⟨_, rfl⟩
    obtain ⟨v, rfl⟩ : ∃ v : Value, v = u3 := ⟨_, rfl⟩
    have HR := Lib.hid hbr
    have HV := Lib.hid hv
    have hzr := hbr.size
    have hdl := deadI_len l k
    by_cases hlt : k < l.length
    · obtain ⟨r, hr⟩ : ∃ r, l[k]? = some r := ⟨_, List.getElem?_eq_getElem hlt⟩
      obtain ⟨al, ad, bi, lo, hi'⟩ := r
      obtain ⟨b, o, rfl, hbl, c0, c1, c2, c3, c4⟩ := rule_cells (HL.out.below hbr) hr
      have HRR := Lib.hid hr
      clear hr hbr hv
      go_wp2_with fail
      have bl : Blk ((wo).alloc (.cells #[.bool al, .int .i64 ad, .int .i64 bi, .int .i64 lo, .int .i64 hi'] 42)) (wo.heap.size) 42 #[.bool al, .int .i64 ad, .int .i64 bi, .int .i64 lo, .int .i64 hi'] := Blk.new _ _ _
      have HB2 := Lib.hid (show Below w.heap.size w ((wo).alloc (.cells #[.bool al, .int .i64 ad, .int .i64 bi, .int .i64 lo, .int .i64 hi'] 42)) from (HR.out).alloc (by first | exact Nat.le_refl _ | omega | (simp; done) | (simp; omega)) _)
      have HV2 := Lib.hid (HV.out.on ((Below.refl wo.heap.size wo).alloc (Nat.le_refl _) (.cells #[.bool al, .int .i64 ad, .int .i64 bi, .int .i64 lo, .int .i64 hi'] 42)))
      generalize (wo).alloc (.cells #[.bool al, .int .i64 ad, .int .i64 bi, .int .i64 lo, .int .i64 hi'] 42) = w2 at *
      have hz2 : w.heap.size ≤ w2.heap.size := HB2.out.size
      clear c0 c1 c2 c3 c4
      go_loopw [3, 19] (fun u j wz => ∃ m : Nat, m ≤ k ∧ j = .int .i64 m ∧ u = v ∧ NoC l ⟨al, ad, bi, lo, hi'⟩ m ∧ Below w2.heap.size w2 wz) (fun _ j _ => k - (intOf j).toNat)
      case atStart => exact ⟨0, Nat.zero_le _, rfl, rfl, NoC.zero _ _, Below.refl _ _⟩
      case round =>
        obtain ⟨m, hm, rfl, rfl, hno, hbz⟩ := hrel
        have HZ := Lib.hid (HB2.out.trans (hbz.mono hz2))
        have HVZ := Lib.hid (HV2.out.on hbz)
        have bl := bl.on hbz
        have HBZ := Lib.hid hbz
        have hzz := HZ.out.size
        have hz2z := hbz.size
        by_cases hmk : m < k
        · obtain ⟨x, hx⟩ : ∃ x, l[m]? = some x := ⟨_, List.getElem?_eq_getElem (by omega)⟩
          obtain ⟨al2, ad2, bi2, lo2, hi2⟩ := x
          obtain ⟨b2, o2, e2, -, c0, c1, c2, c3, c4⟩ := rule_cells (HL.out.below HZ.out) hx
          injection e2 with e2
          injection e2 with e3 e4
          subst e3 e4
          cases hcv : (Rule.mk al2 ad2 bi2 lo2 hi2).cv ⟨al, ad, bi, lo, hi'⟩
          · have HN := Lib.hid (hno.step hx hcv)
            have HC := Lib.hid hcv
            clear hno hx hcv hbz
            have q_bl0 : wr.cell? ⟨wo.heap.size, 0, none⟩ = some (.bool al) := bl.cell 0
            have q_bl1 : wr.cell? ⟨wo.heap.size, 1, none⟩ = some (.int .i64 ad) := bl.cell 1
            have q_bl2 : wr.cell? ⟨wo.heap.size, 2, none⟩ = some (.int .i64 bi) := bl.cell 2
            have q_bl3 : wr.cell? ⟨wo.heap.size, 3, none⟩ = some (.int .i64 lo) := bl.cell 3
            have q_bl4 : wr.cell? ⟨wo.heap.size, 4, none⟩ = some (.int .i64 hi') := bl.cell 4
            have l_bl : wo.heap.size < wr.heap.size := bl.lt
            go_wp2_with fail
            refine (Covers_any _ _ _ _ _ _ _ _ _ _ _).mono ?_
            rintro e w4 ⟨rfl, hb⟩
            clear q_bl0 q_bl1 q_bl2 q_bl3 q_bl4 l_bl
            have bl : Blk w4 (wo.heap.size) 42 #[.bool al, .int .i64 ad, .int .i64 bi, .int .i64 lo, .int .i64 hi'] := ((bl).alloc _).on hb
            have bx : Blk w4 (wr.heap.size) 42 #[.bool al2, .int .i64 ad2, .int .i64 bi2, .int .i64 lo2, .int .i64 hi2] := (Blk.new _ _ _).on hb
            have HV4 := Lib.hid (HVZ.out.on (((Below.refl wr.heap.size wr).alloc (Nat.le_refl _) _).trans (hb.mono (by simp))))
            have HB4z := Lib.hid (HBZ.out.trans (((Below.refl wr.heap.size wr).alloc (Nat.le_refl _) _).trans (hb.mono (by simp)) |>.mono hz2z))
            have hbz := hb.size
            have HB4 := Lib.hid (((HZ.out).alloc (by first | exact Nat.le_refl _ | omega | (simp; done) | (simp; omega)) _).trans (hb.mono (by first | exact Nat.le_refl _ | omega | (simp; done) | (simp; omega))))
            have hz4 : w.heap.size ≤ w4.heap.size := HB4.out.size
            clear hb hbz
            rw [HC.out]
            go_wp2_with fail
            go_roundw
            case rel => exact ⟨m + 1, by omega, by go_num, rfl, HN.out, HB4z.out⟩
            case measure => simp [intOf]; omega
          · have HD := Lib.hid (deadI_yes (dead_yes HRR.out hx hmk hcv))
            have HC := Lib.hid hcv
            clear hno hx hcv hbz
            have q_bl0 : wr.cell? ⟨wo.heap.size, 0, none⟩ = some (.bool al) := bl.cell 0
            have q_bl1 : wr.cell? ⟨wo.heap.size, 1, none⟩ = some (.int .i64 ad) := bl.cell 1
            have q_bl2 : wr.cell? ⟨wo.heap.size, 2, none⟩ = some (.int .i64 bi) := bl.cell 2
            have q_bl3 : wr.cell? ⟨wo.heap.size, 3, none⟩ = some (.int .i64 lo) := bl.cell 3
            have q_bl4 : wr.cell? ⟨wo.heap.size, 4, none⟩ = some (.int .i64 hi') := bl.cell 4
            have l_bl : wo.heap.size < wr.heap.size := bl.lt
            go_wp2_with fail
            refine (Covers_any _ _ _ _ _ _ _ _ _ _ _).mono ?_
            rintro e w4 ⟨rfl, hb⟩
            clear q_bl0 q_bl1 q_bl2 q_bl3 q_bl4 l_bl
            have bl : Blk w4 (wo.heap.size) 42 #[.bool al, .int .i64 ad, .int .i64 bi, .int .i64 lo, .int .i64 hi'] := ((bl).alloc _).on hb
            have bx : Blk w4 (wr.heap.size) 42 #[.bool al2, .int .i64 ad2, .int .i64 bi2, .int .i64 lo2, .int .i64 hi2] := (Blk.new _ _ _).on hb
            have HV4 := Lib.hid (HVZ.out.on (((Below.refl wr.heap.size wr).alloc (Nat.le_refl _) _).trans (hb.mono (by simp))))
            have HB4z := Lib.hid (HBZ.out.trans (((Below.refl wr.heap.size wr).alloc (Nat.le_refl _) _).trans (hb.mono (by simp)) |>.mono hz2z))
            have hbz := hb.size
            have HB4 := Lib.hid (((HZ.out).alloc (by first | exact Nat.le_refl _ | omega | (simp; done) | (simp; omega)) _).trans (hb.mono (by first | exact Nat.le_refl _ | omega | (simp; done) | (simp; omega))))
            have hz4 : w.heap.size ≤ w4.heap.size := HB4.out.size
            clear hb hbz
            rw [HC.out]
            go_wp2_with (at_builtin; go_loud (refine wpList_append_own _ rfl (.tmp 26) (.tmp 28) 56 rfl w.heap.size 3 i0 (.int .i64 0) 1 8 Tryd.underlying56 ih iz0 iz1 iz2 rfl (by decide) _ (deadI l k).length (ivals (deadI l k)) rfl (HV4.out.alloc _) ⟨w4.heap.size, 0, none⟩ 1 1 [.int .i64 (k : Int)] rfl rfl (cells_new_at rfl) (by intro u hu; simp at hu; subst hu; rfl) (by simp only [maxLen]; omega) (by omega) (by simp; omega) ?_); intro v' wn hown1 hgr hiff; clear hiff; have HG := Lib.hid (And.intro hown1 hgr); clear hown1 hgr)
            have hlow : Below w.heap.size w wn := ((HB4.out).alloc (by omega) _).grown HG.out.2 (by simp; omega) (fun kk hkk => (HV4.out.lt kk hkk).1)
            have hown := HG.out.1
            have HF := Lib.hid (And.intro (OwnI.push hown) hlow)
            clear hlow hown HG
            go_wp2_with fail
            go_roundw
            case rel => exact ⟨k + 1, by omega, by go_num, by rw [HD.out]; exact HF.out.1, HF.out.2⟩
            case measure => simp [intOf]; omega
        · obtain rfl : m = k := by omega
          have HD := Lib.hid (deadI_no (dead_no HRR.out hno))
          clear hno hbz
          go_wp2_with fail
          go_roundw
          case rel => exact ⟨m + 1, by omega, by go_num, by rw [HD.out]; exact HVZ.out, HZ.out⟩
          case measure => simp [intOf]; omega
    · obtain rfl : k = l.length := by omega
      clear hbr hv
      go_wp2_with fail
      go_ret
      exact ⟨_, rfl, HV.out, HR.out⟩
end Go.Proofs.YtpkekfhnpcjgkaaDoor
