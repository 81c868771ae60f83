/- cron: Between of both sides; equal lists of numbers. -/
import Derived.Test.YtnagnaekcphpiaaDoorCF
namespace Go.Proofs.YtnagnaekcphpiaaDoor
open Go.RowKit
open Go.Sort (grow)

def lenV : Value → Nat
  | .slice _ n _ => n
  | _ => 0
theorem blk_grown {w w' : World} {g : Nat} {t : TypeId} {cs : Array Value} {row : Option Nat} (h : Blk w g t cs) (hg : w.grownBy w' row) (hne : row ≠ some g) : Blk w' g t cs := (hg.block g h.lt (fun e => hne e.symm)).trans h
theorem own_ge {w : World} {base : Nat} {e : TypeId} {sz n : Nat} {v : Value} {xs : List Value} (h : w.ownsRow base e sz v n xs) : ∀ q, v.ownBlock = some q → base ≤ q := by
  intro q hq
  rcases h.2 with ⟨rfl, _⟩ | ⟨g, cap, cur, rfl, hb, _⟩
  · cases hq
  · have hq : g = q := Option.some.inj hq
    omega
/-- What Between returns. -/
def PostB (L : List Int × Int) (w : World) (e : Ending) (w' : World) : Prop := (∃ p k, e = .returned (.tuple #[.slice p L.1.length k, .int .i64 L.2]) ∧ Reads w' w'.heap.size 1 p L.1.length (ivals L.1)) ∧ Below w.heap.size w w'
theorem postB_nil {L : List Int × Int} {n : Int} {w w' : World} (h : L = ([], n)) (hb : Below w.heap.size w w') : PostB L w (.returned (.tuple #[.slice none 0 0, .int .i64 n])) w' := by subst h; exact ⟨⟨none, 0, rfl, Reads.none_⟩, hb⟩
theorem postB_own {L : List Int × Int} {l : List Int} {p : Option Addr} {k base : Nat} {w w' : World} (h : L = (l, 0)) (ho : OwnI w' base (.slice p l.length k) l) (hb : Below w.heap.size w w') : PostB L w (.returned (.tuple #[.slice p l.length k, .int .i64 0])) w' := by
  subst h
  obtain ⟨p', c', e, hr⟩ := ho.reads
  injection e with e1 e2 e3
  subst e1 e3
  exact ⟨⟨p, k, rfl, hr⟩, hb⟩
theorem size_new' (w : World) (o : Obj) : Below w.heap.size w (w.alloc o) := (Below.refl _ _).alloc (Nat.le_refl _) _
theorem fuel_succ {n : Nat} (h : n ≤ 256) : 257 - n = (256 - n) + 1 := by omega
set_option maxHeartbeats 2000000 in
set_option maxRecDepth 20000 in
theorem Between_any (c : Cr) (fr to : Int) (w : World) (hu : U64 c) (hf : -9223372036854775808 ≤ fr ∧ fr ≤ 9223372036854775807) : Calls Tryd.prog 20 #[.agg #[.int .u64 c.mi, .int .u64 c.ho, .int .u64 c.da], .int .i64 fr, .int .i64 to] w (PostB (betS c fr to) w) := by
  obtain ⟨i0, ih, iz0, iz1, iz2⟩ := info_parts info_int
  have HU := Lib.hid hu
  clear hu
  go_enter Tryd.func20, Tryd.ntmps20
  go_wp2_with fail
  refine (Check_any c _ HU.out).mono ?_
  rintro e w11 ⟨rfl, hb⟩
  have bc : Blk w11 (w.heap.size) 25 #[.int .u64 c.mi, .int .u64 c.ho, .int .u64 c.da] := (Blk.new _ _ _).on hb
  have hbz := hb.size
  have HB11 := Lib.hid (((Below.refl w.heap.size w).alloc (by first | exact Nat.le_refl _ | omega | (simp; done) | (simp; omega)) _).trans (hb.mono (by first | exact Nat.le_refl _ | omega | (simp; done) | (simp; omega))))
  have hz11 : w.heap.size ≤ w11.heap.size := HB11.out.size
  clear hb hbz
  cases hok : okC c
  · have HD := Lib.hid (bet_bad (fr := fr) (to := to) hok)
    rw [ckC_no hok]
    clear hok
    go_wp2_with fail
    go_ret2
    exact postB_nil HD.out (HB11.out)
  · rw [ckC_ok hok]
    have HK := Lib.hid hok
    clear hok
    by_cases h0 : fr < 0
    · have t0 : decide (fr < 0) = true := decide_eq_true h0
      have HD := Lib.hid (bet_rng (to := to) HK.out (.inl h0))
      clear h0
      go_wp2_with fail
      go_ret2
      exact postB_nil HD.out (HB11.out)
    · have t0 : decide (fr < 0) = false := decide_eq_false h0
      by_cases h1 : to < fr
      · have t1 : decide (to < fr) = true := decide_eq_true h1
        have HD := Lib.hid (bet_rng HK.out (.inr (.inl h1)))
        clear h1 h0
        go_wp2_with fail
        go_ret2
        exact postB_nil HD.out (HB11.out)
      · have t1 : decide (to < fr) = false := decide_eq_false h1
        by_cases h2 : 1073741824 < to
        · have t2 : decide (1073741824 < to) = true := decide_eq_true h2
          have HD := Lib.hid (bet_rng (fr := fr) HK.out (.inr (.inr h2)))
          clear h1 h0
          go_wp2_with fail
          go_ret2
          exact postB_nil HD.out (HB11.out)
        · have t2 : decide (1073741824 < to) = false := decide_eq_false h2
          have HD := Lib.hid (bet_go (fr := fr) (to := to) HK.out (by omega))
          have ew : IntKind.i64.wrap (fr - 1) = fr - 1 := by rw [IntKind.wrap_i64]; omega
          have hG : w.heap.size < w11.heap.size := bc.lt
          have HBC := Lib.hid bc
          have HB0 := Lib.hid HB11.out
          go_wp2_with fail
          go_loopw [9, 10] (fun v i wr => ∃ (t : Int) (out : List Int), i = .int .i64 t ∧ out.length ≤ 256 ∧ betF c to 257 (fr - 1) [] = betF c to (257 - out.length) t out ∧ (-1 ≤ t ∧ t ≤ 1073741824 ∧ w11.heap.size ≤ wr.heap.size) ∧ OwnI wr w11.heap.size v out ∧ Below w.heap.size w wr ∧ Blk wr w.heap.size 25 #[.int .u64 c.mi, .int .u64 c.ho, .int .u64 c.da]) (fun v _ _ => 257 - lenV v)
          case atStart => exact ⟨fr - 1, [], rfl, by simp, rfl, ⟨by omega, by omega, Nat.le_refl _⟩, OwnI.nil _ _, HB0.out, HBC.out⟩
          case round =>
            obtain ⟨t, out, rfl, hlen, hbt, ht, hv, hbr, bc⟩ := hrel
            obtain ⟨v, rfl⟩ : ∃ v : Value, v = u9 := ⟨_, rfl⟩
            obtain ⟨p, cp, rfl⟩ := own_slice hv
            have HB := Lib.hid hbr
            have HV := Lib.hid hv
            have HT := Lib.hid hbt
            have hzr := hbr.size
            clear hbr hv hbt
            have q_bc0 : wr.cell? ⟨w.heap.size, 0, none⟩ = some (.int .u64 c.mi) := bc.cell 0
            have q_bc1 : wr.cell? ⟨w.heap.size, 1, none⟩ = some (.int .u64 c.ho) := bc.cell 1
            have q_bc2 : wr.cell? ⟨w.heap.size, 2, none⟩ = some (.int .u64 c.da) := bc.cell 2
            go_wp2_with fail
            refine (Next_any c t _ HU.out).mono ?_
            rintro e w21 ⟨rfl, hb⟩
            clear q_bc0 q_bc1 q_bc2
            have bc : Blk w21 (w.heap.size) 25 #[.int .u64 c.mi, .int .u64 c.ho, .int .u64 c.da] := (bc).on hb
            have hbz := hb.size
            have HB21 := Lib.hid ((HB.out).trans (hb.mono (by first | exact Nat.le_refl _ | omega | (simp; done) | (simp; omega))))
            have hz21 : w.heap.size ≤ w21.heap.size := HB21.out.size
            have HV := Lib.hid (HV.out.on hb)
            have hgz : w11.heap.size ≤ w21.heap.size := by omega
            clear hb hbz
            rcases nx_cases c t with ⟨hq, hh⟩ | ⟨-, -, -, ⟨n, hq, g1, g2, -⟩ | ⟨hq, -⟩⟩
            · exfalso
              rcases hh with hh | hh
              · rw [HK.out] at hh; cases hh
              · omega
            · have hn9 : (n : Int) ≤ 1073741824 := by unfold endN at g2; split at g2 <;> omega
              have HQ := Lib.hid hq
              rw [hq]
              unfold tup2
              dsimp only
              clear hq g2
              by_cases h3 : to ≤ (n : Int)
              · have t3 : decide (to ≤ (n : Int)) = true := decide_eq_true h3
                have HE := Lib.hid (show betS c fr to = (out, 0) from by rw [HD.out, HT.out, fuel_succ hlen]; exact betF_end _ (.inr (by rw [HQ.out]; exact h3)))
                go_wp2_with fail
                go_ret2
                exact postB_own HE.out HV.out HB21.out
              · have t3 : decide (to ≤ (n : Int)) = false := decide_eq_false h3
                have hgo : ¬ ((nxS c t).2 ≠ 0 ∨ to ≤ (nxS c t).1) := by rw [HQ.out]; rintro (h | h); exact h rfl; exact h3 h
                by_cases h4 : out.length = 256
                · have t4 : ((out.length : Int) == 256) = true := beq_iff_eq.2 (by omega)
                  have HE := Lib.hid (show betS c fr to = ([], 3) from by rw [HD.out, HT.out, fuel_succ hlen]; exact betF_full _ hgo h4)
                  clear hgo
                  go_wp2_with fail
                  go_ret2
                  exact postB_nil HE.out (HB21.out)
                · have t4 : ((out.length : Int) == 256) = false := beq_eq_false_iff_ne.2 (by omega)
                  have HS := Lib.hid (betF_step (out := out) (256 - out.length) hgo h4)
                  clear hgo
                  go_wp2_with (at_builtin; go_loud (refine wpList_append_own _ rfl (.tmp 48) (.tmp 50) 37 rfl w11.heap.size 3 i0 (.int .i64 0) 1 8 Tryd.underlying37 ih iz0 iz1 iz2 rfl (by decide) _ out.length (ivals out) rfl (own_below HV.out (size_new' _ _)) ⟨w21.heap.size, 0, none⟩ 1 1 [.int .i64 n] rfl rfl (cells_new_at rfl) (by intro u hu; simp at hu; subst hu; rfl) (by simp only [maxLen]; omega) (by omega) (by simp; omega) ?_); intro v' wn hown1 hgr hiff; clear hiff; have HG := Lib.hid (And.intro hown1 hgr); clear hown1 hgr)
                  have hgn : w11.heap.size ≤ wn.heap.size := by have := HG.out.2.size; simp at this; omega
                  have hlow : Below w.heap.size w wn := ((HB21.out).alloc (by omega) _).grown HG.out.2 (by simp; omega) (fun q hq => Nat.le_trans (Nat.le_of_lt hG) (own_ge HV.out q hq))
                  have bc := blk_grown (bc.alloc _) HG.out.2 (fun e => by have := own_ge HV.out _ e; omega)
                  have hown := OwnI.push HG.out.1
                  obtain ⟨p', cp', rfl⟩ := own_slice hown
                  have HF := Lib.hid (And.intro hown hlow)
                  clear hlow hown HG
                  go_wp2_with fail
                  go_roundw
                  case rel => exact ⟨n, out ++ [(n : Int)], rfl, by rw [List.length_append]; simp; omega, by rw [HT.out, fuel_succ hlen, HS.out, HQ.out, List.length_append, show 257 - (out.length + [(n : Int)].length) = 256 - out.length from by simp]; done, ⟨by omega, by omega, hgn⟩, HF.out.1, HF.out.2, bc⟩
                  case measure => simp [lenV]; omega
            · have HE := Lib.hid (show betS c fr to = (out, 0) from by rw [HD.out, HT.out, fuel_succ hlen]; exact betF_end _ (.inl (by rw [hq]; decide)))
              rw [hq]
              unfold tup2
              dsimp only
              clear hq
              go_wp2_with fail
              go_ret2
              exact postB_own HE.out HV.out HB21.out
set_option maxHeartbeats 2000000 in
set_option maxRecDepth 20000 in
theorem rBetween_any (c : Cr) (fr to : Int) (w : World) (hu : U64 c) (hf : -9223372036854775808 ≤ fr ∧ fr ≤ 9223372036854775807) : Calls Tryd.prog 21 #[.agg #[.int .u64 c.mi, .int .u64 c.ho, .int .u64 c.da], .int .i64 fr, .int .i64 to] w (PostB (betS c fr to) w) := by
  obtain ⟨i0, ih, iz0, iz1, iz2⟩ := info_parts info_int
  have HU := Lib.hid hu
  clear hu
  go_enter Tryd.func21, Tryd.ntmps21
  go_wp2_with fail
  refine (rCheck_any c _).mono ?_
  rintro e w11 ⟨rfl, hb⟩
  have bc : Blk w11 (w.heap.size) 25 #[.int .u64 c.mi, .int .u64 c.ho, .int .u64 c.da] := (Blk.new _ _ _).on hb
  have hbz := hb.size
  have HB11 := Lib.hid (((Below.refl w.heap.size w).alloc (by first | exact Nat.le_refl _ | omega | (simp; done) | (simp; omega)) _).trans (hb.mono (by first | exact Nat.le_refl _ | omega | (simp; done) | (simp; omega))))
  have hz11 : w.heap.size ≤ w11.heap.size := HB11.out.size
  clear hb hbz
  cases hok : okC c
  · have HD := Lib.hid (bet_bad (fr := fr) (to := to) hok)
    rw [ckC_no hok]
    clear hok
    go_wp2_with fail
    go_ret2
    exact postB_nil HD.out (HB11.out)
  · rw [ckC_ok hok]
    have HK := Lib.hid hok
    clear hok
    by_cases h0 : fr < 0
    · have t0 : decide (fr < 0) = true := decide_eq_true h0
      have HD := Lib.hid (bet_rng (to := to) HK.out (.inl h0))
      clear h0
      go_wp2_with fail
      go_ret2
      exact postB_nil HD.out (HB11.out)
    · have t0 : decide (fr < 0) = false := decide_eq_false h0
      by_cases h1 : to < fr
      · have t1 : decide (to < fr) = true := decide_eq_true h1
        have HD := Lib.hid (bet_rng HK.out (.inr (.inl h1)))
        clear h1 h0
        go_wp2_with fail
        go_ret2
        exact postB_nil HD.out (HB11.out)
      · have t1 : decide (to < fr) = false := decide_eq_false h1
        by_cases h2 : 1073741824 < to
        · have t2 : decide (1073741824 < to) = true := decide_eq_true h2
          have HD := Lib.hid (bet_rng (fr := fr) HK.out (.inr (.inr h2)))
          clear h1 h0
          go_wp2_with fail
          go_ret2
          exact postB_nil HD.out (HB11.out)
        · have t2 : decide (1073741824 < to) = false := decide_eq_false h2
          have HD := Lib.hid (bet_go (fr := fr) (to := to) HK.out (by omega))
          have ew : IntKind.i64.wrap (fr - 1) = fr - 1 := by rw [IntKind.wrap_i64]; omega
          have hG : w.heap.size < w11.heap.size := bc.lt
          have q_bc0 : w11.cell? ⟨w.heap.size, 0, none⟩ = some (.int .u64 c.mi) := bc.cell 0
          have q_bc1 : w11.cell? ⟨w.heap.size, 1, none⟩ = some (.int .u64 c.ho) := bc.cell 1
          have q_bc2 : w11.cell? ⟨w.heap.size, 2, none⟩ = some (.int .u64 c.da) := bc.cell 2
          go_wp2_with fail
          refine (rNext_any c (fr - 1) _ HU.out).mono ?_
          rintro e w12 ⟨rfl, hb⟩
          clear q_bc0 q_bc1 q_bc2
          have bc : Blk w12 (w.heap.size) 25 #[.int .u64 c.mi, .int .u64 c.ho, .int .u64 c.da] := (bc).on hb
          have hbz := hb.size
          have HB12 := Lib.hid ((HB11.out).trans (hb.mono (by first | exact Nat.le_refl _ | omega | (simp; done) | (simp; omega))))
          have hz12 : w.heap.size ≤ w12.heap.size := HB12.out.size
          have hg0 : w11.heap.size ≤ w12.heap.size := hbz
          clear hb hbz
          obtain ⟨⟨n0, x0⟩, hq0⟩ : ∃ q, nxS c (fr - 1) = q := ⟨_, rfl⟩
          rw [hq0]
          unfold tup2
          dsimp only
          have HBC := Lib.hid bc
          have HB0 := Lib.hid HB12.out
          have HQ0 := Lib.hid hq0
          clear hq0
          go_wp2_with fail
          go_loopw [9, 10, 11] (fun v i x wr => ∃ (nn xx : Int), i = .int .i64 nn ∧ x = .int .i64 xx ∧ ∃ (t : Int) (out : List Int), nxS c t = (nn, xx) ∧ out.length ≤ 256 ∧ betF c to 257 (fr - 1) [] = betF c to (257 - out.length) t out ∧ (-1 ≤ t ∧ t ≤ 1073741824 ∧ w11.heap.size ≤ wr.heap.size) ∧ OwnI wr w11.heap.size v out ∧ Below w.heap.size w wr ∧ Blk wr w.heap.size 25 #[.int .u64 c.mi, .int .u64 c.ho, .int .u64 c.da]) (fun v _ _ _ => 257 - lenV v)
          case atStart => exact ⟨n0, x0, rfl, rfl, fr - 1, [], HQ0.out, by simp, rfl, ⟨by omega, by omega, hg0⟩, OwnI.nil _ _, HB0.out, HBC.out⟩
          case round =>
            obtain ⟨nn, xx, rfl, rfl, t, out, hq, hlen, hbt, ht, hv, hbr, bc⟩ := hrel
            obtain ⟨v, rfl⟩ : ∃ v : Value, v = u9 := ⟨_, rfl⟩
            obtain ⟨p, cp, rfl⟩ := own_slice hv
            have HB := Lib.hid hbr
            have HV := Lib.hid hv
            have HT := Lib.hid hbt
            have HQ := Lib.hid hq
            have hzr := hbr.size
            clear hbr hv hbt hq
            rcases nx_cases c t with ⟨hq, hh⟩ | ⟨-, -, -, ⟨n, hq, g1, g2, -⟩ | ⟨hq, -⟩⟩
            · exfalso
              rcases hh with hh | hh
              · rw [HK.out] at hh; cases hh
              · omega
            · have hn9 : (n : Int) ≤ 1073741824 := by unfold endN at g2; split at g2 <;> omega
              obtain ⟨rfl, rfl⟩ : (n : Int) = nn ∧ (0 : Int) = xx := by rw [HQ.out] at hq; injection hq with e1 e2; exact ⟨e1.symm, e2.symm⟩
              clear hq g2
              by_cases h3 : to ≤ (n : Int)
              · have t3 : decide ((n : Int) < to) = false := decide_eq_false (by omega)
                have HE := Lib.hid (show betS c fr to = (out, 0) from by rw [HD.out, HT.out, fuel_succ hlen]; exact betF_end _ (.inr (by rw [HQ.out]; exact h3)))
                go_wp2_with fail
                go_ret2
                exact postB_own HE.out HV.out HB.out
              · have t3 : decide ((n : Int) < to) = true := decide_eq_true (by omega)
                have hgo : ¬ ((nxS c t).2 ≠ 0 ∨ to ≤ (nxS c t).1) := by rw [HQ.out]; rintro (h | h); exact h rfl; exact h3 h
                by_cases h4 : out.length = 256
                · have t4 : ((out.length : Int) == 256) = true := beq_iff_eq.2 (by omega)
                  have HE := Lib.hid (show betS c fr to = ([], 3) from by rw [HD.out, HT.out, fuel_succ hlen]; exact betF_full _ hgo h4)
                  clear hgo
                  go_wp2_with fail
                  go_ret2
                  exact postB_nil HE.out (HB.out)
                · have t4 : ((out.length : Int) == 256) = false := beq_eq_false_iff_ne.2 (by omega)
                  have HS := Lib.hid (betF_step (out := out) (256 - out.length) hgo h4)
                  clear hgo
                  go_wp2_with (at_builtin; go_loud (refine wpList_append_own _ rfl (.tmp 45) (.tmp 47) 37 rfl w11.heap.size 3 i0 (.int .i64 0) 1 8 Tryd.underlying37 ih iz0 iz1 iz2 rfl (by decide) _ out.length (ivals out) rfl (own_below HV.out (size_new' _ _)) ⟨wr.heap.size, 0, none⟩ 1 1 [.int .i64 n] rfl rfl (cells_new_at rfl) (by intro u hu; simp at hu; subst hu; rfl) (by simp only [maxLen]; omega) (by omega) (by simp; omega) ?_); intro v' wn hown1 hgr hiff; clear hiff; have HG := Lib.hid (And.intro hown1 hgr); clear hown1 hgr; have bcn : Blk wn w.heap.size 25 #[.int .u64 c.mi, .int .u64 c.ho, .int .u64 c.da] := blk_grown (bc.alloc _) HG.out.2 (fun e => by have := own_ge HV.out _ e; omega); have k0 : wn.cell? ⟨w.heap.size, 0, none⟩ = some (.int .u64 c.mi) := bcn.cell 0; have k1 : wn.cell? ⟨w.heap.size, 1, none⟩ = some (.int .u64 c.ho) := bcn.cell 1; have k2 : wn.cell? ⟨w.heap.size, 2, none⟩ = some (.int .u64 c.da) := bcn.cell 2)
                  have hgn : w11.heap.size ≤ wn.heap.size := by have := HG.out.2.size; simp at this; omega
                  have hlow : Below w.heap.size w wn := ((HB.out).alloc (by omega) _).grown HG.out.2 (by simp; omega) (fun q hq => Nat.le_trans (Nat.le_of_lt hG) (own_ge HV.out q hq))
                  have bc := blk_grown (bc.alloc _) HG.out.2 (fun e => by have := own_ge HV.out _ e; omega)
                  have hown := OwnI.push HG.out.1
                  obtain ⟨p', cp', rfl⟩ := own_slice hown
                  have HF := Lib.hid (And.intro hown hlow)
                  clear hlow hown HG
                  have hz20 := HF.out.2.size
                  have q_bc0 : wn.cell? ⟨w.heap.size, 0, none⟩ = some (.int .u64 c.mi) := bc.cell 0
                  have q_bc1 : wn.cell? ⟨w.heap.size, 1, none⟩ = some (.int .u64 c.ho) := bc.cell 1
                  have q_bc2 : wn.cell? ⟨w.heap.size, 2, none⟩ = some (.int .u64 c.da) := bc.cell 2
                  go_wp2_with fail
                  refine (rNext_any c n _ HU.out).mono ?_
                  rintro e w21 ⟨rfl, hb⟩
                  clear q_bc0 q_bc1 q_bc2
                  have bc : Blk w21 (w.heap.size) 25 #[.int .u64 c.mi, .int .u64 c.ho, .int .u64 c.da] := (bc).on hb
                  have hbz := hb.size
                  have HB21 := Lib.hid ((HF.out.2).trans (hb.mono (by first | exact Nat.le_refl _ | omega | (simp; done) | (simp; omega))))
                  have hz21 : w.heap.size ≤ w21.heap.size := HB21.out.size
                  have HV2 := Lib.hid (HF.out.1.on hb)
                  have hgn2 : w11.heap.size ≤ w21.heap.size := by omega
                  clear hb hbz
                  obtain ⟨⟨n2, x2⟩, hq2⟩ : ∃ q, nxS c n = q := ⟨_, rfl⟩
                  rw [hq2]
                  unfold tup2
                  dsimp only
                  have HQ2 := Lib.hid hq2
                  clear hq2
                  go_wp2_with fail
                  go_roundw
                  case rel => exact ⟨n2, x2, rfl, rfl, n, out ++ [(n : Int)], HQ2.out, by rw [List.length_append]; simp; omega, by rw [HT.out, fuel_succ hlen, HS.out, HQ.out, List.length_append, show 257 - (out.length + [(n : Int)].length) = 256 - out.length from by simp]; done, ⟨by omega, by omega, hgn2⟩, HV2.out, HB21.out, bc⟩
                  case measure => simp [lenV]; omega
            · obtain ⟨rfl, rfl⟩ : (0 : Int) = nn ∧ (5 : Int) = xx := by rw [HQ.out] at hq; injection hq with e1 e2; exact ⟨e1.symm, e2.symm⟩
              have HE := Lib.hid (show betS c fr to = (out, 0) from by rw [HD.out, HT.out, fuel_succ hlen]; exact betF_end _ (.inl (by rw [HQ.out]; decide)))
              clear hq
              go_wp2_with fail
              go_ret2
              exact postB_own HE.out HV.out HB.out
end Go.Proofs.YtnagnaekcphpiaaDoor
