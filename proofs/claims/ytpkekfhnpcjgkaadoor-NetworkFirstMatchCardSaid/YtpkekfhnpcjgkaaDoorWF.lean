/- The walk of NetworkFirstMatch. -/
import Derived.Test.YtpkekfhnpcjgkaaDoorWD
namespace Go.Proofs.YtpkekfhnpcjgkaaDoor
open Go.RowKit
open Nw
open Go.Sort (grow)

theorem info_N : (Tryd.prog.info? 42).map (fun i => (i.zero, i.size, i.bytes)) = some (some (.agg #[.bool false, .int .i64 0, .int .i64 0, .int .i64 0, .int .i64 0]), 5, 40) := by kernel_rfl
/-- An owned list of rules. -/
def OwnN (w : World) (base : Nat) (v : Value) (l : List Rule) : Prop := w.ownsRow base 42 5 v l.length (l.flatMap rcells)
theorem OwnN.on {w w' : World} {base : Nat} {v : Value} {l : List Rule} (h : OwnN w base v l) (hb : Below w.heap.size w w') : OwnN w' base v l := own_below h hb
theorem OwnN.reads {w : World} {base : Nat} {v : Value} {l : List Rule} (h : OwnN w base v l) : ∃ p c, v = .slice p l.length c ∧ RulesAt w w.heap.size p l := own_reads h
theorem OwnN.push {w : World} {base : Nat} {v : Value} {l : List Rule} {r : Rule} (h : w.ownsRow base 42 5 v (l.length + 1) (l.flatMap rcells ++ rcells r)) : OwnN w base v (l ++ [r]) := by
  unfold OwnN
  simpa using h
theorem OwnN.empty {w : World} {base g : Nat} (hg : g = w.heap.size) (hb : base ≤ w.heap.size) : OwnN (w.alloc (.cells #[] 42)) base (.slice (some ⟨g, 0, none⟩) 0 0) [] := by
  subst hg
  exact ⟨rfl, .inr ⟨w.heap.size, 0, #[], rfl, hb, heap_alloc_new _ _, by simp [maxLen]⟩⟩
theorem rest_yes {l : List Rule} {m : Nat} (h : isDead l m = true) : restL l (m + 1) = restL l m := by show (if isDead l m then _ else _) = _; rw [h]; rfl
theorem rest_no {l : List Rule} {m : Nat} {r : Rule} (h : isDead l m = false) (hr : l[m]? = some r) : restL l (m + 1) = restL l m ++ [r] := by show (if isDead l m then _ else _ ++ (l[m]?).toList) = _; rw [h, hr]; rfl
theorem deadn_yes {l : List Rule} {m : Nat} (h : isDead l m = true) : (deadL l (m + 1)).length = (deadL l m).length + 1 := by
  have e : deadL l (m + 1) = deadL l m ++ [m] := by show (if isDead l m then _ else _) = _; rw [h]; rfl
  rw [e]; simp
theorem deadn_no {l : List Rule} {m : Nat} (h : isDead l m = false) : (deadL l (m + 1)).length = (deadL l m).length := by
  have e : deadL l (m + 1) = deadL l m := by show (if isDead l m then _ else _) = _; rw [h]; rfl
  rw [e]
theorem deadI_at (l : List Rule) (n k : Nat) : (deadI l n)[k]? = (deadL l n)[k]?.map (fun (x : Nat) => (x : Int)) := by unfold deadI; rw [List.getElem?_map]
theorem deadI_length (l : List Rule) (n : Nat) : (deadI l n).length = (deadL l n).length := by unfold deadI; rw [List.length_map]
theorem run_field_D (W : World) (x : Bool) (y : Int) : (Instr.field 53 (.agg #[.bool x, .int .i64 y]) 0).run Tryd.prog W = .ok (.bool x) W := by
  simp [Instr.field, run_underlying Tryd.underlying53, part, asAgg, Tryd.isAgg4, go_sem]
attribute [go_sem ↓] run_field_D
theorem dec_rng (l : List Rule) (a p : Int) : -1 ≤ (decI l a p).2 ∧ (decI l a p).2 < l.length ∧ ((decI l a p).2 < 0 → (decI l a p).1 = false) := by
  unfold decI
  cases h : l.findIdx? (fun r => r.mt a p) with
  | none => exact ⟨by show (-1 : Int) ≤ -1; omega, by show (-1 : Int) < _; omega, fun _ => rfl⟩
  | some i =>
    have hi := (List.findIdx?_eq_some_iff_getElem.1 h).1
    exact ⟨by show (-1 : Int) ≤ (i : Int); omega, by show (i : Int) < _; omega, fun hh => by have : (i : Int) < 0 := hh; omega⟩
theorem Decide_at (A : Option Addr) (c : Nat) (l : List Rule) (a p : Int) (x : Bool) (y : Int) (W : World) (d : Nat) (os : Array Obj) (hl : RulesAt W W.heap.size A l) (hn : l.length ≤ 1000000) (h : decI l a p = (x, y)) :
    Calls Tryd.prog 51 #[.slice A l.length c, .int .i64 a, .int .i64 p] (grow (redrawn W d) os) fun e w' => e = .returned (.agg #[.bool x, .int .i64 y]) ∧ ∃ p : Regrown, w' = grow (redrawn W p.d) p.os := by
  have hb := below_regrown W d os
  have := Decide_any A c l a p (grow (redrawn W d) os) ((hl.below hb).more hb.size) hn
  rw [h] at this
  exact Calls.regrown_of this
set_option maxHeartbeats 8000000 in
set_option maxRecDepth 100000 in
theorem law_first (A : Option Addr) (c : Nat) (l : List Rule) (a p : Int) (w : World) (hX : LaidS w) (hl : RulesAt w w.heap.size A l) (hcap : l.length ≤ c) :
    Calls Tryd.prog 12 #[.slice A l.length c, .int .i64 a, .int .i64 p] w fun e w' => e = .returned (.bool true) ∧ Below w.heap.size w w' := by
  obtain ⟨i0, ih, iz0, iz1, iz2⟩ := info_parts info_N
  have HX := Lib.hid hX
  have HL := Lib.hid hl
  have HC := Lib.hid hcap
  clear hX hl hcap
  by_cases hn : l.length ≤ 300
  · have hd : decide (300 < (l.length : Int)) = false := decide_eq_false (by omega)
    go_enter Tryd.func12, Tryd.ntmps12
    go_wp2_with fail
    refine (Dead_any A c l _ HL.out (by omega) HC.out).mono ?_
    rintro e w1 ⟨v, rfl, ho, hb⟩
    obtain ⟨p1, c1, rfl, hr1⟩ := ho.reads
    clear ho
    have HR1 := Lib.hid hr1
    have HB1 := Lib.hid hb
    have hz1 : w.heap.size ≤ w1.heap.size := hb.size
    clear hb hr1
    have hdl := deadI_length l l.length
    have hdm := deadL_len l l.length
    generalize hdn : (deadL l l.length).length = dn at *
    have HDN := Lib.hid hdn
    clear hdn
    have HL1 := Lib.hid ((HL.out.below HB1.out).more hz1)
    go_wp2_with fail
    go_loopw [8, 9, 10] (fun v k i wr => ∃ m : Nat, m ≤ l.length ∧ i = .int .i64 m ∧ k = .int .i64 ((deadL l m).length : Nat) ∧ OwnN wr w1.heap.size v (restL l m) ∧ Below w1.heap.size w1 wr) (fun _ _ i _ => l.length - (intOf i).toNat)
    case atStart => exact ⟨0, Nat.zero_le _, rfl, rfl, OwnN.empty rfl (Nat.le_refl _), (Below.refl _ _).alloc (Nat.le_refl _) _⟩
    case round =>
      obtain ⟨m, hm, rfl, rfl, hv, hbr⟩ := hrel
      obtain ⟨wo, rfl⟩ : ∃ wo : World, wo = wr := ⟨_, rfl⟩
      obtain ⟨v, rfl⟩ : ∃ v : Value, v = u8 := ⟨_, rfl⟩
      have HR := Lib.hid hbr
      have HV := Lib.hid hv
      have hzr := hbr.size
      have hrl := restL_len l m
      have hdk := deadL_mono l hm
      rw [HDN.out] at hdk
      clear hbr hv
      by_cases hlt : m < l.length
      · obtain ⟨r, hr⟩ : ∃ r, l[m]? = some r := ⟨_, List.getElem?_eq_getElem hlt⟩
        have hat := deadL_at l hlt
        cases hd : isDead l m
        · have HRN := Lib.hid (rest_no hd hr)
          have HDD := Lib.hid (deadn_no hd)
          obtain ⟨al, ad, bi, lo, hi⟩ := r
          obtain ⟨b, o, e1, -, c0, c1', c2, c3, c4⟩ := rule_cells (HL1.out.below HR.out) hr
          subst e1
          have im : (m : Int) < l.length := by omega
          have i0m : (0 : Int) ≤ m := by omega
          generalize hkk : (deadL l m).length = kk at *
          have HKK := Lib.hid hkk
          clear hkk
          by_cases hk : kk < dn
          · obtain ⟨x, hx⟩ : ∃ x, (deadI l l.length)[kk]? = some x := ⟨_, List.getElem?_eq_getElem (by omega)⟩
            have hxm : (x == (m : Int)) = false := by
              rw [beq_eq_false_iff_ne]
              intro e
              rw [deadI_at] at hx
              cases hy : (deadL l l.length)[kk]? with
              | none => rw [hy] at hx; cases hx
              | some y =>
                rw [hy] at hx
                have h1 : (y : Int) = x := by simpa using hx
                have h2 : y = m := by omega
                rw [h2] at hy
                have := hat.1 hy
                rw [hd] at this; cases this
            obtain ⟨b', o', e1, -, d0⟩ := Reads.int (l := deadI l l.length) (HR1.out.below HR.out) hx
            subst e1
            have hki : (kk : Int) < dn := by omega
            clear hx hat hd hr
            go_wp2_with (at_builtin; go_loud (refine wpList_append_own _ rfl (.tmp 40) (.tmp 45) 51 rfl w1.heap.size 42 i0 (.agg #[.bool false, .int .i64 0, .int .i64 0, .int .i64 0, .int .i64 0]) 5 40 Tryd.underlying51 ih iz0 iz1 iz2 rfl (by decide) _ (restL l m).length ((restL l m).flatMap rcells) rfl (HV.out.alloc _) ⟨wo.heap.size, 0, none⟩ 1 1 [.bool al, .int .i64 ad, .int .i64 bi, .int .i64 lo, .int .i64 hi] rfl rfl (cells_new_at rfl) (by intro u hu; simp at hu; rcases hu with rfl | rfl | rfl | rfl | rfl <;> rfl) (by simp only [maxLen]; omega) (by omega) (by simp; omega) ?_); intro v' wn hown1 hgr hiff; clear hiff; have HG := Lib.hid (And.intro hown1 hgr); clear hown1 hgr)
            have hlow : Below w1.heap.size w1 wn := ((HR.out).alloc (by omega) _).grown HG.out.2 (by simp; omega) (fun q hq => (HV.out.lt q hq).1)
            have hown := HG.out.1
            have HF := Lib.hid (And.intro (OwnN.push (r := ⟨al, ad, bi, lo, hi⟩) hown) hlow)
            clear hlow hown HG
            go_wp2_with fail
            go_roundw
            case rel => exact ⟨m + 1, by omega, by go_num, by rw [HDD.out], by rw [HRN.out]; exact HF.out.1, HF.out.2⟩
            case measure => simp [intOf]; omega
          · clear hat hd hr
            go_wp2_with (at_builtin; go_loud (refine wpList_append_own _ rfl (.tmp 40) (.tmp 45) 51 rfl w1.heap.size 42 i0 (.agg #[.bool false, .int .i64 0, .int .i64 0, .int .i64 0, .int .i64 0]) 5 40 Tryd.underlying51 ih iz0 iz1 iz2 rfl (by decide) _ (restL l m).length ((restL l m).flatMap rcells) rfl (HV.out.alloc _) ⟨wo.heap.size, 0, none⟩ 1 1 [.bool al, .int .i64 ad, .int .i64 bi, .int .i64 lo, .int .i64 hi] rfl rfl (cells_new_at rfl) (by intro u hu; simp at hu; rcases hu with rfl | rfl | rfl | rfl | rfl <;> rfl) (by simp only [maxLen]; omega) (by omega) (by simp; omega) ?_); intro v' wn hown1 hgr hiff; clear hiff; have HG := Lib.hid (And.intro hown1 hgr); clear hown1 hgr)
            have hlow : Below w1.heap.size w1 wn := ((HR.out).alloc (by omega) _).grown HG.out.2 (by simp; omega) (fun q hq => (HV.out.lt q hq).1)
            have hown := HG.out.1
            have HF := Lib.hid (And.intro (OwnN.push (r := ⟨al, ad, bi, lo, hi⟩) hown) hlow)
            clear hlow hown HG
            go_wp2_with fail
            go_roundw
            case rel => exact ⟨m + 1, by omega, by go_num, by rw [HDD.out], by rw [HRN.out]; exact HF.out.1, HF.out.2⟩
            case measure => simp [intOf]; omega
        · have HRN := Lib.hid (rest_yes hd)
          have HDD := Lib.hid (deadn_yes hd)
          have hx := hat.2 hd
          have hk : (deadL l m).length < dn := by
            have := (List.getElem?_eq_some_iff.1 hx).1
            rw [HDN.out] at this
            exact this
          have hx2 : (deadI l l.length)[(deadL l m).length]? = some (m : Int) := by rw [deadI_at, hx]; rfl
          obtain ⟨b', o', e1, -, d0⟩ := Reads.int (l := deadI l l.length) (HR1.out.below HR.out) hx2
          subst e1
          generalize hkk : (deadL l m).length = kk at *
          have HKK := Lib.hid hkk
          have hki : (kk : Int) < dn := by omega
          clear hx hx2 hat hd hr hkk
          go_wp2_with fail
          go_roundw
          case rel => exact ⟨m + 1, by omega, by go_num, by rw [HDD.out]; go_num, by rw [HRN.out]; exact HV.out, HR.out⟩
          case measure => simp [intOf]; omega
      · obtain rfl : m = l.length := by omega
        obtain ⟨p2, c2, rfl, hr2⟩ := HV.out.reads
        have HR2 := Lib.hid hr2
        have HW := Lib.hid (HB1.out.trans (HR.out.mono hz1))
        have hzw : w.heap.size ≤ wo.heap.size := HW.out.size
        have hkd := HDN.out
        obtain ⟨g1, g2, g3⟩ := dec_rng l a p
        have HRE := Lib.hid (dec_rest l a p)
        have HDS := Lib.hid (fun k r hr hm hno => @dec_some l a p k r hr hm hno)
        have HDO := Lib.hid (fun hno => @dec_none l a p hno)
        clear hr2
        go_wp2_with fail
        refine (Decide_any A c l a p _ ((HL.out.below HW.out).more hzw) (by omega)).mono ?_
        rintro e w31 ⟨rfl, hb⟩
        have hbz := hb.size
        have HB31 := Lib.hid ((HW.out).trans (hb.mono (by first | exact Nat.le_refl _ | omega | (simp; done) | (simp; omega))))
        have hz31 : w.heap.size ≤ w31.heap.size := HB31.out.size
        have HB31' := Lib.hid hb
        clear hb hbz
        have HR3 := Lib.hid ((HR2.out.below (show Below wo.heap.size wo w31 from HB31'.out)).more HB31'.out.size)
        generalize hdd : decI l a p = dd at *
        obtain ⟨x, y⟩ := dd
        simp only at g1 g2 g3
        simp only [aggD]
        have HDD := Lib.hid hdd
        clear hdd
        obtain ⟨y2, hy2⟩ : ∃ y2, decI (restL l l.length) a p = (x, y2) := ⟨(decI (restL l l.length) a p).2, Prod.ext HRE.out rfl⟩
        have HY2 := Lib.hid hy2
        clear hy2
        have hrl : (restL l l.length).length ≤ 1000000 := by omega
        by_cases hy : y < 0
        · obtain rfl : x = false := g3 hy
          have dy : decide (y < 0) = true := decide_eq_true hy
          have dy1 : decide (y < -1) = false := decide_eq_false (by omega)
          have dy2 : decide ((l.length : Int) ≤ y) = false := decide_eq_false (by omega)
          go_wp2_with fail
          have bd : Blk ((w31).alloc (.cells #[.bool false, .int .i64 y] 53)) (w31.heap.size) 53 #[.bool false, .int .i64 y] := Blk.new _ _ _
          have HB32 := Lib.hid (show Below w.heap.size w ((w31).alloc (.cells #[.bool false, .int .i64 y] 53)) from (HB31.out).alloc (by first | exact Nat.le_refl _ | omega | (simp; done) | (simp; omega)) _)
          have HR4 := Lib.hid ((HR3.out.below ((Below.refl w31.heap.size w31).alloc (Nat.le_refl _) (.cells #[.bool false, .int .i64 y] 53))).more (show w31.heap.size ≤ (w31.alloc (.cells #[.bool false, .int .i64 y] 53)).heap.size by simp))
          generalize (w31).alloc (.cells #[.bool false, .int .i64 y] 53) = w32 at *
          have hz32 : w.heap.size ≤ w32.heap.size := HB32.out.size
          skip
          have r_bd0 := fun d os => cell_regrown (v := .bool false) (bd.cell 0) d os
          have r_bd1 := fun d os => cell_regrown (v := .int .i64 y) (bd.cell 1) d os
          have HDE := Lib.hid (fun d os => Decide_at p2 c2 (restL l l.length) a p false y2 w32 d os HR4.out hrl HY2.out)
          refine wp_region_quiet_below (by kernel_rfl) (by kernel_rfl) ?_
          repeat (go_big_quiet_step ((go_at_call 51; go_must (exact HDE.out _ _))))
          refine wpQuiet_nil ?_
          intro _ hw'
          obtain ⟨⟨dq, osq⟩, hw''⟩ := hw'
          subst hw''
          have hb := below_regrown w32 dq osq
          have bd : Blk (Go.Sort.grow (redrawn w32 dq) osq) (w31.heap.size) 53 #[.bool false, .int .i64 y] := bd.on hb
          have HB33 := Lib.hid ((HB32.out).trans (hb.mono (by first | exact Nat.le_refl _ | omega | (simp; done) | (simp; omega))))
          clear hb r_bd0 r_bd1
          generalize Go.Sort.grow (redrawn w32 dq) osq = w33 at *
          have hz33 : w.heap.size ≤ w33.heap.size := HB33.out.size
          go_wp2_with fail
          have lbd := bd.lt
          go_loopw [12] (fun i wr => ∃ k : Nat, k ≤ l.length ∧ i = .int .i64 k ∧ NoM l a p k ∧ Below w.heap.size w wr ∧ Blk wr (w31.heap.size) 53 #[.bool false, .int .i64 y]) (fun i _ => l.length - (intOf i).toNat)
          case atStart => exact ⟨0, Nat.zero_le _, rfl, NoM.zero _ _ _, HB33.out, bd⟩
          case round =>
            obtain ⟨k, hk, rfl, hno, hbr, bd⟩ := hrel
            have HQ := Lib.hid hbr
            have hzr := hbr.size
            clear hbr
            by_cases hlt : k < l.length
            · obtain ⟨r, hr⟩ : ∃ r, l[k]? = some r := ⟨_, List.getElem?_eq_getElem hlt⟩
              obtain ⟨al, ad, bi, lo, hi⟩ := r
              obtain ⟨b, o, e1, hbl, c0, c1', c2', c3, c4⟩ := rule_cells ((HL.out.below HQ.out).more hzr) hr
              subst e1
              have ik : (k : Int) < l.length := by omega
              have i0k : (0 : Int) ≤ k := by omega
              cases hm : (Rule.mk al ad bi lo hi).mt a p
              · have HN := Lib.hid (NoM.step hno hr hm)
                have HM := Lib.hid hm
                clear hno hr hm
                go_wp2_with fail
                refine (Matches_any _ _ _ _ _ _ _ _).mono ?_
                rintro e w61 ⟨rfl, hb⟩
                have bd : Blk w61 (w31.heap.size) 53 #[.bool false, .int .i64 y] := (bd).on hb
                have hbz := hb.size
                have HB61 := Lib.hid ((HQ.out).trans (hb.mono (by first | exact Nat.le_refl _ | omega | (simp; done) | (simp; omega))))
                have hz61 : w.heap.size ≤ w61.heap.size := HB61.out.size
                clear hb hbz
                rw [HM.out]
                go_wp2_with fail
                go_roundw
                case rel => exact ⟨k + 1, by omega, by go_num, HN.out, HB61.out, bd⟩
                case measure => simp [intOf]; omega
              · have HE := Lib.hid (HDS.out k _ hr hm (fun j x hj hx => hno j x hj hx))
                have HM := Lib.hid hm
                have hxe : false = al := congrArg Prod.fst HE.out
                have hye : y = (k : Int) := congrArg Prod.snd HE.out
                clear hno hr hm
                exfalso
                omega
            · obtain rfl : k = l.length := by omega
              have HE := Lib.hid (HDO.out (fun j x hx => hno j x (List.getElem?_eq_some_iff.1 hx).1 hx))
              have hye : y = -1 := congrArg Prod.snd HE.out
              clear hno
              subst hye
              have q_bd0 : wr.cell? ⟨w31.heap.size, 0, none⟩ = some (.bool false) := bd.cell 0
              have q_bd1 : wr.cell? ⟨w31.heap.size, 1, none⟩ = some (.int .i64 (-1)) := bd.cell 1
              go_wp2_with fail
              refine (awake_any _ (HX.out.below (HQ.out))).mono ?_
              rintro e w61 ⟨rfl, hb⟩
              clear q_bd0 q_bd1
              have bd : Blk w61 (w31.heap.size) 53 #[.bool false, .int .i64 (-1)] := (bd).on hb
              have hbz := hb.size
              have HB61 := Lib.hid ((HQ.out).trans (hb.mono (by first | exact Nat.le_refl _ | omega | (simp; done) | (simp; omega))))
              have hz61 : w.heap.size ≤ w61.heap.size := HB61.out.size
              clear hb hbz
              go_wp2_with fail
              go_ret
              exact ⟨rfl, HB61.out⟩
        · have dy : decide (y < 0) = false := decide_eq_false hy
          have dy1 : decide (y < -1) = false := decide_eq_false (by omega)
          have dy2 : decide ((l.length : Int) ≤ y) = false := decide_eq_false (by omega)
          go_wp2_with fail
          have bd : Blk ((w31).alloc (.cells #[.bool x, .int .i64 y] 53)) (w31.heap.size) 53 #[.bool x, .int .i64 y] := Blk.new _ _ _
          have HB32 := Lib.hid (show Below w.heap.size w ((w31).alloc (.cells #[.bool x, .int .i64 y] 53)) from (HB31.out).alloc (by first | exact Nat.le_refl _ | omega | (simp; done) | (simp; omega)) _)
          have HR4 := Lib.hid ((HR3.out.below ((Below.refl w31.heap.size w31).alloc (Nat.le_refl _) (.cells #[.bool x, .int .i64 y] 53))).more (show w31.heap.size ≤ (w31.alloc (.cells #[.bool x, .int .i64 y] 53)).heap.size by simp))
          generalize (w31).alloc (.cells #[.bool x, .int .i64 y] 53) = w32 at *
          have hz32 : w.heap.size ≤ w32.heap.size := HB32.out.size
          skip
          have r_bd0 := fun d os => cell_regrown (v := .bool x) (bd.cell 0) d os
          have r_bd1 := fun d os => cell_regrown (v := .int .i64 y) (bd.cell 1) d os
          have HDE := Lib.hid (fun d os => Decide_at p2 c2 (restL l l.length) a p x y2 w32 d os HR4.out hrl HY2.out)
          refine wp_region_quiet_below (by kernel_rfl) (by kernel_rfl) ?_
          repeat (go_big_quiet_step ((go_at_call 51; go_must (exact HDE.out _ _))))
          refine wpQuiet_nil ?_
          intro _ hw'
          obtain ⟨⟨dq, osq⟩, hw''⟩ := hw'
          subst hw''
          have hb := below_regrown w32 dq osq
          have bd : Blk (Go.Sort.grow (redrawn w32 dq) osq) (w31.heap.size) 53 #[.bool x, .int .i64 y] := bd.on hb
          have HB33 := Lib.hid ((HB32.out).trans (hb.mono (by first | exact Nat.le_refl _ | omega | (simp; done) | (simp; omega))))
          clear hb r_bd0 r_bd1
          generalize Go.Sort.grow (redrawn w32 dq) osq = w33 at *
          have hz33 : w.heap.size ≤ w33.heap.size := HB33.out.size
          go_wp2_with fail
          have lbd := bd.lt
          go_loopw [12] (fun i wr => ∃ k : Nat, k ≤ l.length ∧ i = .int .i64 k ∧ NoM l a p k ∧ Below w.heap.size w wr ∧ Blk wr (w31.heap.size) 53 #[.bool x, .int .i64 y]) (fun i _ => l.length - (intOf i).toNat)
          case atStart => exact ⟨0, Nat.zero_le _, rfl, NoM.zero _ _ _, HB33.out, bd⟩
          case round =>
            obtain ⟨k, hk, rfl, hno, hbr, bd⟩ := hrel
            have HQ := Lib.hid hbr
            have hzr := hbr.size
            clear hbr
            by_cases hlt : k < l.length
            · obtain ⟨r, hr⟩ : ∃ r, l[k]? = some r := ⟨_, List.getElem?_eq_getElem hlt⟩
              obtain ⟨al, ad, bi, lo, hi⟩ := r
              obtain ⟨b, o, e1, hbl, c0, c1', c2', c3, c4⟩ := rule_cells ((HL.out.below HQ.out).more hzr) hr
              subst e1
              have ik : (k : Int) < l.length := by omega
              have i0k : (0 : Int) ≤ k := by omega
              cases hm : (Rule.mk al ad bi lo hi).mt a p
              · have HN := Lib.hid (NoM.step hno hr hm)
                have HM := Lib.hid hm
                clear hno hr hm
                go_wp2_with fail
                refine (Matches_any _ _ _ _ _ _ _ _).mono ?_
                rintro e w61 ⟨rfl, hb⟩
                have bd : Blk w61 (w31.heap.size) 53 #[.bool x, .int .i64 y] := (bd).on hb
                have hbz := hb.size
                have HB61 := Lib.hid ((HQ.out).trans (hb.mono (by first | exact Nat.le_refl _ | omega | (simp; done) | (simp; omega))))
                have hz61 : w.heap.size ≤ w61.heap.size := HB61.out.size
                clear hb hbz
                rw [HM.out]
                go_wp2_with fail
                go_roundw
                case rel => exact ⟨k + 1, by omega, by go_num, HN.out, HB61.out, bd⟩
                case measure => simp [intOf]; omega
              · have HE := Lib.hid (HDS.out k _ hr hm (fun j x hj hx => hno j x hj hx))
                have HM := Lib.hid hm
                have hxe : x = al := congrArg Prod.fst HE.out
                have hye : y = (k : Int) := congrArg Prod.snd HE.out
                clear hno hr hm
                subst hxe hye
                go_wp2_with fail
                refine (Matches_any _ _ _ _ _ _ _ _).mono ?_
                rintro e w61 ⟨rfl, hb⟩
                have bd : Blk w61 (w31.heap.size) 53 #[.bool x, .int .i64 (k : Int)] := (bd).on hb
                have hbz := hb.size
                have HB61 := Lib.hid ((HQ.out).trans (hb.mono (by first | exact Nat.le_refl _ | omega | (simp; done) | (simp; omega))))
                have hz61 : w.heap.size ≤ w61.heap.size := HB61.out.size
                have HM0 := Lib.hid hb
                clear hb hbz
                rw [HM.out]
                have c0' := (HM0.out.cell (p := ⟨b, o + k * 5, none⟩) hbl).trans c0
                go_wp2_with fail
                have HAW := Lib.hid (fun d os => awake_at w61 d os (HX.out.below (HB61.out)))
                have rc0 := fun d os => cell_regrown c0' d os
                have r_bd0 := fun d os => cell_regrown (v := .bool x) (bd.cell 0) d os
                have r_bd1 := fun d os => cell_regrown (v := .int .i64 (k : Int)) (bd.cell 1) d os
                refine wp_region_quiet_below (by kernel_rfl) (by kernel_rfl) ?_
                repeat (go_big_quiet_step ((go_at_call 50; go_must (exact HAW.out _ _))))
                refine wpQuiet_nil ?_
                intro _ hw'
                obtain ⟨⟨dq, osq⟩, hw''⟩ := hw'
                subst hw''
                have hb := below_regrown w61 dq osq
                have bd : Blk (Go.Sort.grow (redrawn w61 dq) osq) (w31.heap.size) 53 #[.bool x, .int .i64 (k : Int)] := bd.on hb
                have HB62 := Lib.hid ((HB61.out).trans (hb.mono (by first | exact Nat.le_refl _ | omega | (simp; done) | (simp; omega))))
                clear hb r_bd0 r_bd1
                generalize Go.Sort.grow (redrawn w61 dq) osq = w62 at *
                have hz62 : w.heap.size ≤ w62.heap.size := HB62.out.size
                clear rc0
                go_wp2_with fail
                go_ret
                exact ⟨rfl, HB62.out⟩
            · obtain rfl : k = l.length := by omega
              have HE := Lib.hid (HDO.out (fun j x hx => hno j x (List.getElem?_eq_some_iff.1 hx).1 hx))
              have hye : y = -1 := congrArg Prod.snd HE.out
              clear hno
              exfalso
              omega
  · have hd : decide (300 < (l.length : Int)) = true := decide_eq_true (by omega)
    go_enter Tryd.func12, Tryd.ntmps12
    go_wp2_with fail
    refine (awake_any _ (HX.out.below (Below.refl w.heap.size w))).mono ?_
    rintro e w1 ⟨rfl, hb⟩
    have hbz := hb.size
    have HB1 := Lib.hid ((Below.refl w.heap.size w).trans (hb.mono (by first | exact Nat.le_refl _ | omega | (simp; done) | (simp; omega))))
    have hz1 : w.heap.size ≤ w1.heap.size := HB1.out.size
    clear hb hbz
    go_wp2_with fail
    go_ret
    exact ⟨rfl, HB1.out⟩
end Go.Proofs.YtpkekfhnpcjgkaaDoor
