/- cron: Format of both sides. -/
import Derived.Test.YtnagnaekcphpiaaDoorCK
namespace Go.Proofs.YtnagnaekcphpiaaDoor
open Go.RowKit
open Go.Sort (grow)

theorem join_joinC (c : UInt8) (l : List (List UInt8)) : Lib.join l [c] = joinC c l := by
  induction l with
  | nil => rfl
  | cons x r ih =>
    cases r with
    | nil => rw [Lib.join_one]; rfl
    | cons y r => rw [joinC, ← ih, Lib.join_cons, Lib.join_cons]; simp [Lib.joinTail]
theorem joinC_snoc (c : UInt8) (l : List (List UInt8)) (h : l ≠ []) (x : List UInt8) : joinC c (l ++ [x]) = joinC c l ++ c :: x := by
  induction l with
  | nil => exact absurd rfl h
  | cons y r ih =>
    cases r with
    | nil => rfl
    | cons z r =>
      have := ih (by simp)
      simp only [List.cons_append] at this ⊢
      rw [joinC, this, joinC, List.append_assoc]; rfl
/-- Join of an owned list of strings. -/
theorem Join_own (c : UInt8) (l : List ByteArray) (p : Option Addr) (k base : Nat) (w : World) (ho : OwnS w base (.slice p l.length k) l) (h1 : 0 < l.length) (hl : l.length ≤ 1000) (hs : ∀ x ∈ l, x.size ≤ 1000) :
    Calls Tryd.prog 34 #[.slice p l.length k, .string ⟨#[c]⟩] w fun e w' => e = .returned (.string ⟨(joinC c (l.map (·.data.toList))).toArray⟩) ∧ Below w.heap.size w w' := by
  have h0 : w.ownsRow base 9 1 (.slice p l.length k) l.length (svals l) := ho
  have hr := Reads.of_own h0
  rcases h0.2 with ⟨_, hz⟩ | ⟨g, cap, cur, hv, hb, hg, hcap, _⟩
  · omega
  · injection hv with e1 e2 e3
    subst e1 e3
    obtain ⟨b, o, e, hlt, hc⟩ := hr.2 h1
    injection e with e
    injection e with e4 e5
    subst e4 e5
    have hj : (Lib.join (l.map (·.data.toList)) [c]).length ≤ 140737488355328 := by
      rw [join_joinC]
      have := joinC_ln c 1000 (l.map (·.data.toList)) (fun x hx => by
        obtain ⟨y, hy, rfl⟩ := List.mem_map.1 hx
        rw [size_len]; exact hs y hy)
      rw [List.length_map] at this
      have h9 : (1000 + 1) * l.length ≤ 1001 * 1000 := Nat.mul_le_mul_left _ hl
      omega
    refine (Tryd.strings_Join g 0 k l ⟨#[c]⟩ w (fun j x hx => hc j _ (by unfold svals; rw [List.getElem?_map, hx]; rfl)) hlt (by omega) hcap hj).mono ?_
    rintro e w' ⟨rfl, hb'⟩
    rw [show (⟨#[c]⟩ : ByteArray).data.toList = [c] from rfl, join_joinC]
    exact ⟨rfl, hb'⟩
def numA (n : Nat) : ByteArray := ⟨(numT n).toArray⟩
def fieldB (size set : Nat) : ByteArray := ⟨(fieldW size set).toArray⟩
theorem field_full {size set : Nat} (h : set = 2 ^ size - 1) : fieldB size set = ⟨#[42]⟩ := by unfold fieldB fieldW; rw [if_pos h]
theorem field_nums {size set : Nat} (h : set ≠ 2 ^ size - 1) : fieldB size set = ⟨(joinC 44 (((bitsL size set).map numA).map (·.data.toList))).toArray⟩ := by
  unfold fieldB fieldW
  rw [if_neg h, List.map_map]
  rfl
theorem field_size {size set : Nat} (h : size ≤ 60) : (fieldB size set).size ≤ 180 := by
  unfold fieldB
  rw [ba_size]
  exact field_len h
theorem bits_step {set k : Nat} : (List.range (k + 1)).filter (fun n => set.testBit n) = (List.range k).filter (fun n => set.testBit n) ++ (if set.testBit k = true then [k] else []) := by
  rw [List.range_succ, List.filter_append, List.filter_cons, List.filter_nil]
theorem bits_yes {set k : Nat} (h : set.testBit k = true) : ((List.range (k + 1)).filter (fun n => set.testBit n)).map numA = ((List.range k).filter (fun n => set.testBit n)).map numA ++ [numA k] := by
  rw [bits_step, if_pos h, List.map_append]; rfl
theorem bits_no {set k : Nat} (h : set.testBit k = false) : ((List.range (k + 1)).filter (fun n => set.testBit n)).map numA = ((List.range k).filter (fun n => set.testBit n)).map numA := by
  rw [bits_step, if_neg (by rw [h]; exact Bool.false_ne_true), List.append_nil]
theorem numA_is (n : Nat) : numA n = ⟨(Lib.decDigits n).toArray⟩ := by
  unfold numA numT Lib.itoa
  congr 2
theorem eq_all {x k : Nat} : ((x : Int) == alI k) = decide (x = 2 ^ k - 1) := by
  unfold alI
  by_cases h : x = 2 ^ k - 1
  · rw [decide_eq_true h, h]; exact beq_self_eq_true _
  · rw [decide_eq_false h, beq_eq_false_iff_ne]; omega
def tupF (x : ByteArray × Int) : Value := .tuple #[.string x.1, .int .i64 x.2]
theorem ret_tupF {x : ByteArray × Int} {a : ByteArray} {b : Int} (h : x = (a, b)) : Ending.returned (.tuple #[.string a, .int .i64 b]) = .returned (tupF x) := by subst h; rfl
theorem fmt_bad {c : Cr} (h : okC c = false) : fmtS c = (⟨#[]⟩, 2) := by unfold fmtS; rw [if_neg (by rw [h]; exact Bool.false_ne_true)]
theorem fmt_good {c : Cr} (h : okC c = true) : fmtS c = (⟨(joinC 32 ([fieldB 60 c.mi, fieldB 24 c.ho, fieldB 7 c.da].map (·.data.toList))).toArray⟩, 0) := by unfold fmtS; rw [if_pos h]; rfl
attribute [local go_sem] run_u3_0
attribute [local go_sem] run_u3_1
attribute [local go_sem] run_u3_2
attribute [local go_sem] run_i3_0
attribute [local go_sem] run_i3_1
attribute [local go_sem] run_i3_2
set_option maxHeartbeats 8000000 in
set_option maxRecDepth 20000 in
theorem Format_any (c : Cr) (w : World) (hu : U64 c) : Calls Tryd.prog 12 #[.agg #[.int .u64 c.mi, .int .u64 c.ho, .int .u64 c.da]] w fun e w' => e = .returned (tupF (fmtS c)) ∧ Below w.heap.size w w' := by
  obtain ⟨i0, ih, iz0, iz1, iz2⟩ := info_parts info_str
  have HU := Lib.hid hu
  clear hu
  go_enter Tryd.func12, Tryd.ntmps12
  go_wp2_with fail
  refine (Check_any c _ HU.out).mono ?_
  rintro e w1 ⟨rfl, hb⟩
  have bc : Blk w1 (w.heap.size) 25 #[.int .u64 c.mi, .int .u64 c.ho, .int .u64 c.da] := (Blk.new _ _ _).on hb
  have hbz := hb.size
  have HB1 := Lib.hid (((Below.refl w.heap.size w).alloc (by first | exact Nat.le_refl _ | omega | (simp; done) | (simp; omega)) _).trans (hb.mono (by first | exact Nat.le_refl _ | omega | (simp; done) | (simp; omega))))
  have hz1 : w.heap.size ≤ w1.heap.size := HB1.out.size
  clear hb hbz
  cases hok : okC c
  · have HD := Lib.hid (fmt_bad hok)
    rw [ckC_no hok]
    clear hok
    go_wp2_with fail
    go_ret2
    exact ⟨ret_tupF HD.out, HB1.out⟩
  · rw [ckC_ok hok]
    have HD := Lib.hid (fmt_good hok)
    obtain ⟨⟨a0, a1⟩, ⟨b0, b1⟩, d0, d1⟩ := (okC_iff c).1 hok
    have G0 := Lib.hid (And.intro a0 a1)
    have G1 := Lib.hid (And.intro b0 b1)
    have G2 := Lib.hid (And.intro d0 d1)
    clear hok a0 a1 b0 b1 d0 d1
    have q_bc0 : w1.cell? ⟨w.heap.size, 0, none⟩ = some (.int .u64 c.mi) := bc.cell 0
    have q_bc1 : w1.cell? ⟨w.heap.size, 1, none⟩ = some (.int .u64 c.ho) := bc.cell 1
    have q_bc2 : w1.cell? ⟨w.heap.size, 2, none⟩ = some (.int .u64 c.da) := bc.cell 2
    go_wp2_with fail
    refine (fields_any c _).mono ?_
    rintro e w2 ⟨rfl, hb⟩
    clear q_bc0 q_bc1 q_bc2
    have bc : Blk w2 (w.heap.size) 25 #[.int .u64 c.mi, .int .u64 c.ho, .int .u64 c.da] := (bc).on hb
    have hbz := hb.size
    have HB2 := Lib.hid ((HB1.out).trans (hb.mono (by first | exact Nat.le_refl _ | omega | (simp; done) | (simp; omega))))
    have hz2 : w.heap.size ≤ w2.heap.size := HB2.out.size
    clear hb hbz
    have HB0 := Lib.hid HB2.out
    have hz0 := HB0.out.size
    clear bc
    go_wp2_with fail
    go_loopw [5, 17] (fun v i wr => ((∃ P, i = .int .i64 0 ∧ P = [] ∧ OwnS wr w2.heap.size v P) ∨ (∃ P, i = .int .i64 1 ∧ P = [fieldB 60 c.mi] ∧ OwnS wr w2.heap.size v P) ∨ (∃ P, i = .int .i64 2 ∧ P = [fieldB 60 c.mi, fieldB 24 c.ho] ∧ OwnS wr w2.heap.size v P) ∨ (∃ P, i = .int .i64 3 ∧ P = [fieldB 60 c.mi, fieldB 24 c.ho, fieldB 7 c.da] ∧ OwnS wr w2.heap.size v P)) ∧ Below w2.heap.size w2 wr) (fun _ i _ => 3 - (intOf i).toNat)
    case atStart => exact ⟨.inl ⟨[], rfl, rfl, OwnS.nil _ _⟩, Below.refl _ _⟩
    case round =>
      obtain ⟨hc, hbr⟩ := hrel
      obtain ⟨v, rfl⟩ : ∃ v : Value, v = u5 := ⟨_, rfl⟩
      have HB := Lib.hid hbr
      have hzr : w2.heap.size ≤ wr.heap.size := hbr.size
      clear hbr
      rcases hc with ⟨P, rfl, hP, hv⟩ | ⟨P, rfl, hP, hv⟩ | ⟨P, rfl, hP, hv⟩ | ⟨P, rfl, hP, hv⟩
      · have hPl : P.length ≤ 3 := by rw [hP]; simp
        have HV := Lib.hid hv
        have HP := Lib.hid hP
        clear hv hP
        obtain ⟨p, cp, rfl⟩ := own_slice HV.out
        go_wp2_with fail
        refine (sizes_any _).mono ?_
        rintro e w3 ⟨rfl, hb⟩
        have HB3 := Lib.hid (HB.out.trans (hb.mono hzr))
        have HV3 := Lib.hid (HV.out.on hb)
        have hz3 : wr.heap.size ≤ w3.heap.size := hb.size
        clear hb HV
        go_wp2_with fail
        refine (all60 _).mono ?_
        rintro e wq ⟨rfl, rfl⟩
        by_cases hf : c.mi = 2 ^ 60 - 1
        · have t1 : ((c.mi : Int) == alI 60) = true := by rw [eq_all, decide_eq_true hf]
          have HF := Lib.hid (field_full hf)
          clear hf
          go_wp2_with (at_builtin; go_loud (refine wpList_append_own _ rfl (.tmp 27) (.tmp 28) 43 rfl w2.heap.size 9 i0 (.string ⟨#[]⟩) 1 16 Tryd.underlying43 ih iz0 iz1 iz2 rfl (by decide) _ P.length (svals P) rfl (own_below HV3.out (size_new' _ _)) ⟨w3.heap.size, 0, none⟩ 1 1 [.string ⟨#[42]⟩] rfl rfl (cells_new_at rfl) (by intro u hu; simp at hu; subst hu; rfl) (by simp only [maxLen]; omega) (by omega) (by simp; omega) ?_); intro v' wn hown1 hgr hiff; clear hiff; have HG := Lib.hid (And.intro hown1 hgr); clear hown1 hgr)
          have hlow : Below w2.heap.size w2 wn := (HB3.out.alloc (by omega) _).grown HG.out.2 (by simp; omega) (own_ge HV3.out)
          have hown := OwnS.push HG.out.1
          have HL := Lib.hid (And.intro hown hlow)
          clear hlow hown HG
          go_wp2_with fail
          go_roundw
          case rel => exact ⟨.inr (.inl ⟨_, rfl, by rw [HP.out, HF.out]; rfl, HL.out.1⟩), HL.out.2⟩
          case measure => simp [intOf]
        · have t1 : ((c.mi : Int) == alI 60) = false := by rw [eq_all, decide_eq_false hf]
          have HF := Lib.hid (field_nums (size := 60) hf)
          have HNE := Lib.hid (bits_ne (size := 60) G0.out.2 G0.out.1)
          clear hf
          go_wp2_with fail
          refine (sizes_any _).mono ?_
          rintro e w4 ⟨rfl, hb⟩
          have HB4 := Lib.hid (HB3.out.trans (hb.mono (Nat.le_trans hzr hz3)))
          have HV4 := Lib.hid (HV3.out.on hb)
          have hz4 : w3.heap.size ≤ w4.heap.size := hb.size
          clear hb HV3
          have hux : c.mi < 18446744073709551616 := by have := HU.out; unfold U64 at this; omega
          go_wp2_with fail
          go_loopw [8, 33] (fun v2 i wr => ∃ (k : Nat) (P2 : List ByteArray), k ≤ 60 ∧ i = .int .i64 k ∧ ((List.range k).filter (fun n => c.mi.testBit n)).map numA = P2 ∧ OwnS wr w4.heap.size v2 P2 ∧ Below w4.heap.size w4 wr) (fun _ i _ => 60 - (intOf i).toNat)
          case atStart => exact ⟨0, [], by omega, rfl, rfl, OwnS.nil _ _, Below.refl _ _⟩
          case round =>
            obtain ⟨k, P2, hk, rfl, hP2, hv2, hbr⟩ := hrel
            obtain ⟨v2, rfl⟩ : ∃ v : Value, v = u8 := ⟨_, rfl⟩
            obtain ⟨p2, cp2, rfl⟩ := own_slice hv2
            have HV2 := Lib.hid hv2
            have HP2 := Lib.hid hP2
            have HB5 := Lib.hid hbr
            have hz5 : w4.heap.size ≤ wr.heap.size := hbr.size
            have hP2l : P2.length ≤ 60 := by
              rw [← hP2, List.length_map]
              exact Nat.le_trans (List.length_filter_le _ _) (by rw [List.length_range]; exact hk)
            clear hv2 hP2 hbr
            by_cases hlt : k < 60
            · have hki : (k : Int) < 60 := by omega
              have hk0 : (0 : Int) ≤ k := by omega
              have hk64 : (k : Int) ≤ 64 := by omega
              have e1 := and_one (a := k) hux
              cases hb9 : c.mi.testBit k
              · rw [hb9] at e1
                have HN := Lib.hid (bits_no hb9)
                clear hb9
                go_wp2_with fail
                go_roundw
                case rel => exact ⟨k + 1, P2, by omega, by go_num, by rw [HN.out, HP2.out], HV2.out, HB5.out⟩
                case measure => simp [intOf]; omega
              · rw [hb9] at e1
                have HN := Lib.hid (bits_yes hb9)
                clear hb9
                go_wp2_with fail
                refine (Tryd.strconv_Itoa_small k (by omega) _).mono ?_
                rintro e wq ⟨rfl, hwq⟩
                obtain rfl := hwq.symm
                rw [← numA_is k]
                generalize hx9 : numA k = x9 at *
                have HX := Lib.hid hx9
                clear hx9
                go_wp2_with (at_builtin; go_loud (refine wpList_append_own _ rfl (.tmp 41) (.tmp 44) 43 rfl w4.heap.size 9 i0 (.string ⟨#[]⟩) 1 16 Tryd.underlying43 ih iz0 iz1 iz2 rfl (by decide) _ P2.length (svals P2) rfl (own_below HV2.out (size_new' _ _)) ⟨wr.heap.size, 0, none⟩ 1 1 [.string x9] rfl rfl (cells_new_at rfl) (by intro u hu; simp at hu; subst hu; rfl) (by simp only [maxLen]; omega) (by omega) (by simp; omega) ?_); intro v' wn hown1 hgr hiff; clear hiff; have HG := Lib.hid (And.intro hown1 hgr); clear hown1 hgr)
                have hlow : Below w4.heap.size w4 wn := (HB5.out.alloc (by omega) _).grown HG.out.2 (by simp; omega) (own_ge HV2.out)
                have hown := OwnS.push HG.out.1
                have HL := Lib.hid (And.intro hown hlow)
                clear hlow hown HG
                go_wp2_with fail
                go_roundw
                case rel => exact ⟨k + 1, _, by omega, by go_num, by rw [HN.out, HP2.out], HL.out.1, HL.out.2⟩
                case measure => simp [intOf]; omega
            · have hki : ¬ (k : Int) < 60 := by omega
              obtain rfl : k = 60 := by omega
              have hpos : 0 < P2.length := by
                rw [← HP2.out, List.length_map]
                exact List.length_pos_iff.2 HNE.out
              have hsz : ∀ x ∈ P2, x.size ≤ 1000 := fun x hx => by
                rw [← HP2.out] at hx
                obtain ⟨nn, hn, rfl⟩ := List.mem_map.1 hx
                have := (num_of (size := 60) (set := c.mi) (by omega) hn).2.2
                unfold numA
                rw [ba_size]
                omega
              have HJ := Lib.hid (Join_own 44 P2 p2 cp2 _ wr HV2.out hpos (by omega) hsz)
              clear hsz hpos
              go_wp2_with fail
              refine HJ.out.mono ?_
              rintro e w6 ⟨rfl, hb⟩
              have HB6 := Lib.hid ((HB4.out.trans (HB5.out.mono (by omega))).trans (hb.mono (by omega)))
              have HV6 := Lib.hid ((HV4.out.on HB5.out).on hb)
              have hz6 : wr.heap.size ≤ w6.heap.size := hb.size
              clear hb
              have HX := Lib.hid (show (⟨(joinC 44 (P2.map (·.data.toList))).toArray⟩ : ByteArray) = fieldB 60 c.mi from by rw [HF.out, ← HP2.out]; rfl)
              rw [HX.out]
              generalize hx9 : fieldB 60 c.mi = x9 at *
              have HX9 := Lib.hid hx9
              clear hx9 HX
              go_wp2_with (at_builtin; go_loud (refine wpList_append_own _ rfl (.tmp 47) (.tmp 50) 43 rfl w2.heap.size 9 i0 (.string ⟨#[]⟩) 1 16 Tryd.underlying43 ih iz0 iz1 iz2 rfl (by decide) _ P.length (svals P) rfl (own_below HV6.out (size_new' _ _)) ⟨w6.heap.size, 0, none⟩ 1 1 [.string x9] rfl rfl (cells_new_at rfl) (by intro u hu; simp at hu; subst hu; rfl) (by simp only [maxLen]; omega) (by omega) (by simp; omega) ?_); intro v' wn hown1 hgr hiff; clear hiff; have HG := Lib.hid (And.intro hown1 hgr); clear hown1 hgr)
              have hlow : Below w2.heap.size w2 wn := (HB6.out.alloc (by omega) _).grown HG.out.2 (by simp; omega) (own_ge HV6.out)
              have hown := OwnS.push HG.out.1
              have HL := Lib.hid (And.intro hown hlow)
              clear hlow hown HG
              go_wp2_with fail
              go_roundw
              case rel => exact ⟨.inr (.inl ⟨_, rfl, by rw [HP.out, ← HX9.out]; rfl, HL.out.1⟩), HL.out.2⟩
              case measure => simp [intOf]
      · have hPl : P.length ≤ 3 := by rw [hP]; simp
        have HV := Lib.hid hv
        have HP := Lib.hid hP
        clear hv hP
        obtain ⟨p, cp, rfl⟩ := own_slice HV.out
        go_wp2_with fail
        refine (sizes_any _).mono ?_
        rintro e w3 ⟨rfl, hb⟩
        have HB3 := Lib.hid (HB.out.trans (hb.mono hzr))
        have HV3 := Lib.hid (HV.out.on hb)
        have hz3 : wr.heap.size ≤ w3.heap.size := hb.size
        clear hb HV
        go_wp2_with fail
        refine (all24 _).mono ?_
        rintro e wq ⟨rfl, rfl⟩
        by_cases hf : c.ho = 2 ^ 24 - 1
        · have t1 : ((c.ho : Int) == alI 24) = true := by rw [eq_all, decide_eq_true hf]
          have HF := Lib.hid (field_full hf)
          clear hf
          go_wp2_with (at_builtin; go_loud (refine wpList_append_own _ rfl (.tmp 27) (.tmp 28) 43 rfl w2.heap.size 9 i0 (.string ⟨#[]⟩) 1 16 Tryd.underlying43 ih iz0 iz1 iz2 rfl (by decide) _ P.length (svals P) rfl (own_below HV3.out (size_new' _ _)) ⟨w3.heap.size, 0, none⟩ 1 1 [.string ⟨#[42]⟩] rfl rfl (cells_new_at rfl) (by intro u hu; simp at hu; subst hu; rfl) (by simp only [maxLen]; omega) (by omega) (by simp; omega) ?_); intro v' wn hown1 hgr hiff; clear hiff; have HG := Lib.hid (And.intro hown1 hgr); clear hown1 hgr)
          have hlow : Below w2.heap.size w2 wn := (HB3.out.alloc (by omega) _).grown HG.out.2 (by simp; omega) (own_ge HV3.out)
          have hown := OwnS.push HG.out.1
          have HL := Lib.hid (And.intro hown hlow)
          clear hlow hown HG
          go_wp2_with fail
          go_roundw
          case rel => exact ⟨.inr (.inr (.inl ⟨_, rfl, by rw [HP.out, HF.out]; rfl, HL.out.1⟩)), HL.out.2⟩
          case measure => simp [intOf]
        · have t1 : ((c.ho : Int) == alI 24) = false := by rw [eq_all, decide_eq_false hf]
          have HF := Lib.hid (field_nums (size := 24) hf)
          have HNE := Lib.hid (bits_ne (size := 24) G1.out.2 G1.out.1)
          clear hf
          go_wp2_with fail
          refine (sizes_any _).mono ?_
          rintro e w4 ⟨rfl, hb⟩
          have HB4 := Lib.hid (HB3.out.trans (hb.mono (Nat.le_trans hzr hz3)))
          have HV4 := Lib.hid (HV3.out.on hb)
          have hz4 : w3.heap.size ≤ w4.heap.size := hb.size
          clear hb HV3
          have hux : c.ho < 18446744073709551616 := by have := HU.out; unfold U64 at this; omega
          go_wp2_with fail
          go_loopw [8, 33] (fun v2 i wr => ∃ (k : Nat) (P2 : List ByteArray), k ≤ 24 ∧ i = .int .i64 k ∧ ((List.range k).filter (fun n => c.ho.testBit n)).map numA = P2 ∧ OwnS wr w4.heap.size v2 P2 ∧ Below w4.heap.size w4 wr) (fun _ i _ => 24 - (intOf i).toNat)
          case atStart => exact ⟨0, [], by omega, rfl, rfl, OwnS.nil _ _, Below.refl _ _⟩
          case round =>
            obtain ⟨k, P2, hk, rfl, hP2, hv2, hbr⟩ := hrel
            obtain ⟨v2, rfl⟩ : ∃ v : Value, v = u8 := ⟨_, rfl⟩
            obtain ⟨p2, cp2, rfl⟩ := own_slice hv2
            have HV2 := Lib.hid hv2
            have HP2 := Lib.hid hP2
            have HB5 := Lib.hid hbr
            have hz5 : w4.heap.size ≤ wr.heap.size := hbr.size
            have hP2l : P2.length ≤ 24 := by
              rw [← hP2, List.length_map]
              exact Nat.le_trans (List.length_filter_le _ _) (by rw [List.length_range]; exact hk)
            clear hv2 hP2 hbr
            by_cases hlt : k < 24
            · have hki : (k : Int) < 24 := by omega
              have hk0 : (0 : Int) ≤ k := by omega
              have hk64 : (k : Int) ≤ 64 := by omega
              have e1 := and_one (a := k) hux
              cases hb9 : c.ho.testBit k
              · rw [hb9] at e1
                have HN := Lib.hid (bits_no hb9)
                clear hb9
                go_wp2_with fail
                go_roundw
                case rel => exact ⟨k + 1, P2, by omega, by go_num, by rw [HN.out, HP2.out], HV2.out, HB5.out⟩
                case measure => simp [intOf]; omega
              · rw [hb9] at e1
                have HN := Lib.hid (bits_yes hb9)
                clear hb9
                go_wp2_with fail
                refine (Tryd.strconv_Itoa_small k (by omega) _).mono ?_
                rintro e wq ⟨rfl, hwq⟩
                obtain rfl := hwq.symm
                rw [← numA_is k]
                generalize hx9 : numA k = x9 at *
                have HX := Lib.hid hx9
                clear hx9
                go_wp2_with (at_builtin; go_loud (refine wpList_append_own _ rfl (.tmp 41) (.tmp 44) 43 rfl w4.heap.size 9 i0 (.string ⟨#[]⟩) 1 16 Tryd.underlying43 ih iz0 iz1 iz2 rfl (by decide) _ P2.length (svals P2) rfl (own_below HV2.out (size_new' _ _)) ⟨wr.heap.size, 0, none⟩ 1 1 [.string x9] rfl rfl (cells_new_at rfl) (by intro u hu; simp at hu; subst hu; rfl) (by simp only [maxLen]; omega) (by omega) (by simp; omega) ?_); intro v' wn hown1 hgr hiff; clear hiff; have HG := Lib.hid (And.intro hown1 hgr); clear hown1 hgr)
                have hlow : Below w4.heap.size w4 wn := (HB5.out.alloc (by omega) _).grown HG.out.2 (by simp; omega) (own_ge HV2.out)
                have hown := OwnS.push HG.out.1
                have HL := Lib.hid (And.intro hown hlow)
                clear hlow hown HG
                go_wp2_with fail
                go_roundw
                case rel => exact ⟨k + 1, _, by omega, by go_num, by rw [HN.out, HP2.out], HL.out.1, HL.out.2⟩
                case measure => simp [intOf]; omega
            · have hki : ¬ (k : Int) < 24 := by omega
              obtain rfl : k = 24 := by omega
              have hpos : 0 < P2.length := by
                rw [← HP2.out, List.length_map]
                exact List.length_pos_iff.2 HNE.out
              have hsz : ∀ x ∈ P2, x.size ≤ 1000 := fun x hx => by
                rw [← HP2.out] at hx
                obtain ⟨nn, hn, rfl⟩ := List.mem_map.1 hx
                have := (num_of (size := 24) (set := c.ho) (by omega) hn).2.2
                unfold numA
                rw [ba_size]
                omega
              have HJ := Lib.hid (Join_own 44 P2 p2 cp2 _ wr HV2.out hpos (by omega) hsz)
              clear hsz hpos
              go_wp2_with fail
              refine HJ.out.mono ?_
              rintro e w6 ⟨rfl, hb⟩
              have HB6 := Lib.hid ((HB4.out.trans (HB5.out.mono (by omega))).trans (hb.mono (by omega)))
              have HV6 := Lib.hid ((HV4.out.on HB5.out).on hb)
              have hz6 : wr.heap.size ≤ w6.heap.size := hb.size
              clear hb
              have HX := Lib.hid (show (⟨(joinC 44 (P2.map (·.data.toList))).toArray⟩ : ByteArray) = fieldB 24 c.ho from by rw [HF.out, ← HP2.out]; rfl)
              rw [HX.out]
              generalize hx9 : fieldB 24 c.ho = x9 at *
              have HX9 := Lib.hid hx9
              clear hx9 HX
              go_wp2_with (at_builtin; go_loud (refine wpList_append_own _ rfl (.tmp 47) (.tmp 50) 43 rfl w2.heap.size 9 i0 (.string ⟨#[]⟩) 1 16 Tryd.underlying43 ih iz0 iz1 iz2 rfl (by decide) _ P.length (svals P) rfl (own_below HV6.out (size_new' _ _)) ⟨w6.heap.size, 0, none⟩ 1 1 [.string x9] rfl rfl (cells_new_at rfl) (by intro u hu; simp at hu; subst hu; rfl) (by simp only [maxLen]; omega) (by omega) (by simp; omega) ?_); intro v' wn hown1 hgr hiff; clear hiff; have HG := Lib.hid (And.intro hown1 hgr); clear hown1 hgr)
              have hlow : Below w2.heap.size w2 wn := (HB6.out.alloc (by omega) _).grown HG.out.2 (by simp; omega) (own_ge HV6.out)
              have hown := OwnS.push HG.out.1
              have HL := Lib.hid (And.intro hown hlow)
              clear hlow hown HG
              go_wp2_with fail
              go_roundw
              case rel => exact ⟨.inr (.inr (.inl ⟨_, rfl, by rw [HP.out, ← HX9.out]; rfl, HL.out.1⟩)), HL.out.2⟩
              case measure => simp [intOf]
      · have hPl : P.length ≤ 3 := by rw [hP]; simp
        have HV := Lib.hid hv
        have HP := Lib.hid hP
        clear hv hP
        obtain ⟨p, cp, rfl⟩ := own_slice HV.out
        go_wp2_with fail
        refine (sizes_any _).mono ?_
        rintro e w3 ⟨rfl, hb⟩
        have HB3 := Lib.hid (HB.out.trans (hb.mono hzr))
        have HV3 := Lib.hid (HV.out.on hb)
        have hz3 : wr.heap.size ≤ w3.heap.size := hb.size
        clear hb HV
        go_wp2_with fail
        refine (all7 _).mono ?_
        rintro e wq ⟨rfl, rfl⟩
        by_cases hf : c.da = 2 ^ 7 - 1
        · have t1 : ((c.da : Int) == alI 7) = true := by rw [eq_all, decide_eq_true hf]
          have HF := Lib.hid (field_full hf)
          clear hf
          go_wp2_with (at_builtin; go_loud (refine wpList_append_own _ rfl (.tmp 27) (.tmp 28) 43 rfl w2.heap.size 9 i0 (.string ⟨#[]⟩) 1 16 Tryd.underlying43 ih iz0 iz1 iz2 rfl (by decide) _ P.length (svals P) rfl (own_below HV3.out (size_new' _ _)) ⟨w3.heap.size, 0, none⟩ 1 1 [.string ⟨#[42]⟩] rfl rfl (cells_new_at rfl) (by intro u hu; simp at hu; subst hu; rfl) (by simp only [maxLen]; omega) (by omega) (by simp; omega) ?_); intro v' wn hown1 hgr hiff; clear hiff; have HG := Lib.hid (And.intro hown1 hgr); clear hown1 hgr)
          have hlow : Below w2.heap.size w2 wn := (HB3.out.alloc (by omega) _).grown HG.out.2 (by simp; omega) (own_ge HV3.out)
          have hown := OwnS.push HG.out.1
          have HL := Lib.hid (And.intro hown hlow)
          clear hlow hown HG
          go_wp2_with fail
          go_roundw
          case rel => exact ⟨.inr (.inr (.inr ⟨_, rfl, by rw [HP.out, HF.out]; rfl, HL.out.1⟩)), HL.out.2⟩
          case measure => simp [intOf]
        · have t1 : ((c.da : Int) == alI 7) = false := by rw [eq_all, decide_eq_false hf]
          have HF := Lib.hid (field_nums (size := 7) hf)
          have HNE := Lib.hid (bits_ne (size := 7) G2.out.2 G2.out.1)
          clear hf
          go_wp2_with fail
          refine (sizes_any _).mono ?_
          rintro e w4 ⟨rfl, hb⟩
          have HB4 := Lib.hid (HB3.out.trans (hb.mono (Nat.le_trans hzr hz3)))
          have HV4 := Lib.hid (HV3.out.on hb)
          have hz4 : w3.heap.size ≤ w4.heap.size := hb.size
          clear hb HV3
          have hux : c.da < 18446744073709551616 := by have := HU.out; unfold U64 at this; omega
          go_wp2_with fail
          go_loopw [8, 33] (fun v2 i wr => ∃ (k : Nat) (P2 : List ByteArray), k ≤ 7 ∧ i = .int .i64 k ∧ ((List.range k).filter (fun n => c.da.testBit n)).map numA = P2 ∧ OwnS wr w4.heap.size v2 P2 ∧ Below w4.heap.size w4 wr) (fun _ i _ => 7 - (intOf i).toNat)
          case atStart => exact ⟨0, [], by omega, rfl, rfl, OwnS.nil _ _, Below.refl _ _⟩
          case round =>
            obtain ⟨k, P2, hk, rfl, hP2, hv2, hbr⟩ := hrel
            obtain ⟨v2, rfl⟩ : ∃ v : Value, v = u8 := ⟨_, rfl⟩
            obtain ⟨p2, cp2, rfl⟩ := own_slice hv2
            have HV2 := Lib.hid hv2
            have HP2 := Lib.hid hP2
            have HB5 := Lib.hid hbr
            have hz5 : w4.heap.size ≤ wr.heap.size := hbr.size
            have hP2l : P2.length ≤ 7 := by
              rw [← hP2, List.length_map]
              exact Nat.le_trans (List.length_filter_le _ _) (by rw [List.length_range]; exact hk)
            clear hv2 hP2 hbr
            by_cases hlt : k < 7
            · have hki : (k : Int) < 7 := by omega
              have hk0 : (0 : Int) ≤ k := by omega
              have hk64 : (k : Int) ≤ 64 := by omega
              have e1 := and_one (a := k) hux
              cases hb9 : c.da.testBit k
              · rw [hb9] at e1
                have HN := Lib.hid (bits_no hb9)
                clear hb9
                go_wp2_with fail
                go_roundw
                case rel => exact ⟨k + 1, P2, by omega, by go_num, by rw [HN.out, HP2.out], HV2.out, HB5.out⟩
                case measure => simp [intOf]; omega
              · rw [hb9] at e1
                have HN := Lib.hid (bits_yes hb9)
                clear hb9
                go_wp2_with fail
                refine (Tryd.strconv_Itoa_small k (by omega) _).mono ?_
                rintro e wq ⟨rfl, hwq⟩
                obtain rfl := hwq.symm
                rw [← numA_is k]
                generalize hx9 : numA k = x9 at *
                have HX := Lib.hid hx9
                clear hx9
                go_wp2_with (at_builtin; go_loud (refine wpList_append_own _ rfl (.tmp 41) (.tmp 44) 43 rfl w4.heap.size 9 i0 (.string ⟨#[]⟩) 1 16 Tryd.underlying43 ih iz0 iz1 iz2 rfl (by decide) _ P2.length (svals P2) rfl (own_below HV2.out (size_new' _ _)) ⟨wr.heap.size, 0, none⟩ 1 1 [.string x9] rfl rfl (cells_new_at rfl) (by intro u hu; simp at hu; subst hu; rfl) (by simp only [maxLen]; omega) (by omega) (by simp; omega) ?_); intro v' wn hown1 hgr hiff; clear hiff; have HG := Lib.hid (And.intro hown1 hgr); clear hown1 hgr)
                have hlow : Below w4.heap.size w4 wn := (HB5.out.alloc (by omega) _).grown HG.out.2 (by simp; omega) (own_ge HV2.out)
                have hown := OwnS.push HG.out.1
                have HL := Lib.hid (And.intro hown hlow)
                clear hlow hown HG
                go_wp2_with fail
                go_roundw
                case rel => exact ⟨k + 1, _, by omega, by go_num, by rw [HN.out, HP2.out], HL.out.1, HL.out.2⟩
                case measure => simp [intOf]; omega
            · have hki : ¬ (k : Int) < 7 := by omega
              obtain rfl : k = 7 := by omega
              have hpos : 0 < P2.length := by
                rw [← HP2.out, List.length_map]
                exact List.length_pos_iff.2 HNE.out
              have hsz : ∀ x ∈ P2, x.size ≤ 1000 := fun x hx => by
                rw [← HP2.out] at hx
                obtain ⟨nn, hn, rfl⟩ := List.mem_map.1 hx
                have := (num_of (size := 7) (set := c.da) (by omega) hn).2.2
                unfold numA
                rw [ba_size]
                omega
              have HJ := Lib.hid (Join_own 44 P2 p2 cp2 _ wr HV2.out hpos (by omega) hsz)
              clear hsz hpos
              go_wp2_with fail
              refine HJ.out.mono ?_
              rintro e w6 ⟨rfl, hb⟩
              have HB6 := Lib.hid ((HB4.out.trans (HB5.out.mono (by omega))).trans (hb.mono (by omega)))
              have HV6 := Lib.hid ((HV4.out.on HB5.out).on hb)
              have hz6 : wr.heap.size ≤ w6.heap.size := hb.size
              clear hb
              have HX := Lib.hid (show (⟨(joinC 44 (P2.map (·.data.toList))).toArray⟩ : ByteArray) = fieldB 7 c.da from by rw [HF.out, ← HP2.out]; rfl)
              rw [HX.out]
              generalize hx9 : fieldB 7 c.da = x9 at *
              have HX9 := Lib.hid hx9
              clear hx9 HX
              go_wp2_with (at_builtin; go_loud (refine wpList_append_own _ rfl (.tmp 47) (.tmp 50) 43 rfl w2.heap.size 9 i0 (.string ⟨#[]⟩) 1 16 Tryd.underlying43 ih iz0 iz1 iz2 rfl (by decide) _ P.length (svals P) rfl (own_below HV6.out (size_new' _ _)) ⟨w6.heap.size, 0, none⟩ 1 1 [.string x9] rfl rfl (cells_new_at rfl) (by intro u hu; simp at hu; subst hu; rfl) (by simp only [maxLen]; omega) (by omega) (by simp; omega) ?_); intro v' wn hown1 hgr hiff; clear hiff; have HG := Lib.hid (And.intro hown1 hgr); clear hown1 hgr)
              have hlow : Below w2.heap.size w2 wn := (HB6.out.alloc (by omega) _).grown HG.out.2 (by simp; omega) (own_ge HV6.out)
              have hown := OwnS.push HG.out.1
              have HL := Lib.hid (And.intro hown hlow)
              clear hlow hown HG
              go_wp2_with fail
              go_roundw
              case rel => exact ⟨.inr (.inr (.inr ⟨_, rfl, by rw [HP.out, ← HX9.out]; rfl, HL.out.1⟩)), HL.out.2⟩
              case measure => simp [intOf]
      · obtain ⟨p, cp, rfl⟩ := own_slice hv
        have hpl : P.length = 3 := by rw [hP]; rfl
        have hsz : ∀ x ∈ P, x.size ≤ 1000 := fun x hx => by
          rw [hP] at hx
          simp only [List.mem_cons, List.not_mem_nil, or_false] at hx
          rcases hx with rfl | rfl | rfl
          · have := field_size (size := 60) (set := c.mi) (by omega); omega
          · have := field_size (size := 24) (set := c.ho) (by omega); omega
          · have := field_size (size := 7) (set := c.da) (by omega); omega
        have HJ := Lib.hid (Join_own 32 P p cp _ wr hv (by omega) (by omega) hsz)
        rw [hpl] at HJ ⊢
        have HE := Lib.hid (show fmtS c = (⟨(joinC 32 (P.map (·.data.toList))).toArray⟩, 0) from by rw [HD.out, hP])
        clear hsz hv hP hpl
        generalize (⟨(joinC 32 (P.map (·.data.toList))).toArray⟩ : ByteArray) = x9 at *
        go_wp2_with fail
        refine HJ.out.mono ?_
        rintro e w6 ⟨rfl, hb⟩
        have HB6 := Lib.hid ((HB0.out.trans (HB.out.mono hz0)).trans (hb.mono (by omega)))
        clear hb
        go_wp2_with fail
        go_ret2
        exact ⟨ret_tupF HE.out, HB6.out⟩
def outA (ns : List Nat) : ByteArray := ⟨(joinC 44 (ns.map numT)).toArray⟩
theorem outA_one (k : Nat) : outA [k] = ⟨#[]⟩ ++ numA k := by
  apply ba_ext
  unfold outA numA
  simp [joinC]
theorem outA_snoc {ns : List Nat} (h : ns ≠ []) (k : Nat) : outA (ns ++ [k]) = (outA ns ++ ⟨#[44]⟩) ++ numA k := by
  apply ba_ext
  unfold outA numA
  rw [List.map_append, List.map_cons, List.map_nil, joinC_snoc 44 _ (by simpa using h)]
  simp
theorem outA_size {ns : List Nat} (h : ∀ n ∈ ns, n < 60) (hl : ns.length ≤ 60) : (outA ns).size ≤ 180 := by
  unfold outA
  rw [ba_size]
  have := joinC_ln 44 2 (ns.map numT) fun x hx => by
    obtain ⟨n, hn, rfl⟩ := List.mem_map.1 hx
    exact (small_num ⟨n, h n hn⟩).2.2
  rw [List.length_map] at this
  omega
theorem field_eq {size set : Nat} (h : set < 2 ^ size) : fieldB size set = if (bitsL size set).length = size then ⟨#[42]⟩ else outA (bitsL size set) := by
  unfold fieldB fieldW
  by_cases hf : set = 2 ^ size - 1
  · rw [if_pos hf, if_pos ((bits_full h).2 hf)]
  · rw [if_neg hf, if_neg (fun e => hf ((bits_full h).1 e))]
    rfl
theorem num_size {k : Nat} (h : k < 60) : (numA k).size ≤ 2 := by
  unfold numA
  rw [ba_size]
  exact (small_num ⟨k, h⟩).2.2
set_option maxHeartbeats 4000000 in
set_option maxRecDepth 20000 in
theorem rfield_any (set size : Nat) (hs : size ≤ 60) (h : set < 2 ^ size) (hu : set < 18446744073709551616) (w : World) : Calls Tryd.prog 35 #[.int .u64 set, .int .i64 size] w fun e w' => e = .returned (.string (fieldB size set)) ∧ w = w' := by
  have HD := Lib.hid (field_eq h)
  clear h
  go_enter Tryd.func35, Tryd.ntmps35
  go_wp2_with fail
  go_loopw [5, 6, 7] (fun o n i wr => ∃ (k : Nat) (ns : List Nat), k ≤ size ∧ i = .int .i64 k ∧ (List.range k).filter (fun n => set.testBit n) = ns ∧ o = .string (outA ns) ∧ n = .int .i64 ns.length ∧ w = wr) (fun _ _ i _ => size - (intOf i).toNat)
  case atStart => exact ⟨0, [], Nat.zero_le _, rfl, rfl, rfl, rfl, rfl⟩
  case round =>
    obtain ⟨k, ns, hk, rfl, hns, rfl, rfl, hw⟩ := hrel
    obtain rfl := hw
    have hnl : ns.length ≤ k := by rw [← hns]; exact Nat.le_trans (List.length_filter_le _ _) (by rw [List.length_range]; exact Nat.le_refl _)
    have hnb : ∀ n ∈ ns, n < 60 := fun n hn => by rw [← hns] at hn; have := List.mem_range.1 (List.mem_filter.1 hn).1; omega
    have hos := outA_size hnb (by omega)
    have HNS := Lib.hid hns
    clear hns hnb
    by_cases hlt : k < size
    · have hki : (k : Int) < size := by omega
      have hk0 : (0 : Int) ≤ k := by omega
      have tki : decide (k < size) = true := decide_eq_true hlt
      have hx2 := num_size (k := k) (by omega)
      obtain ⟨b, hb⟩ : ∃ b, set.testBit k = b := ⟨_, rfl⟩
      go_wp2_with fail
      refine (rhas_any set k b hu (by omega) hb _).mono ?_
      rintro e wq ⟨rfl, hwq⟩
      obtain rfl := hwq
      cases b
      · have HN := Lib.hid (show (List.range (k + 1)).filter (fun n => set.testBit n) = ns from by rw [bits_step, if_neg (by rw [hb]; exact Bool.false_ne_true), List.append_nil, HNS.out])
        clear hb
        go_wp2_with fail
        go_roundw
        case rel => exact ⟨k + 1, ns, by omega, by go_num, HN.out, rfl, rfl, by first | rfl | trivial⟩
        case measure => simp [intOf]; omega
      · have HN := Lib.hid (show (List.range (k + 1)).filter (fun n => set.testBit n) = ns ++ [k] from by rw [bits_step, if_pos hb, HNS.out])
        clear hb
        by_cases h0 : ns = []
        · subst h0
          have HO := Lib.hid (outA_one k)
          have hoe : outA [] = ⟨#[]⟩ := rfl
          go_wp2_with fail
          refine (Tryd.strconv_Itoa_small k (by omega) _).mono ?_
          rintro e wq ⟨rfl, hwq⟩
          obtain rfl := hwq.symm
          rw [← numA_is k]
          generalize hx9 : numA k = x9 at *
          have HX := Lib.hid hx9
          clear hx9
          go_wp2_with fail
          go_roundw
          case rel => exact ⟨k + 1, [] ++ [k], by omega, by go_num, HN.out, by rw [List.nil_append, HO.out] <;> rfl, by simp, by first | rfl | trivial⟩
          case measure => simp [intOf]; omega
        · have hpos : 0 < ns.length := List.length_pos_iff.2 h0
          have hp1 : decide ((0 : Int) < ns.length) = true := decide_eq_true (by omega)
          have hp2 : decide (0 < ns.length) = true := decide_eq_true hpos
          have HO := Lib.hid (outA_snoc h0 k)
          clear h0
          generalize ho9 : outA ns = o9 at *
          have HO9 := Lib.hid ho9
          clear ho9
          go_wp2_with fail
          refine (Tryd.strconv_Itoa_small k (by omega) _).mono ?_
          rintro e wq ⟨rfl, hwq⟩
          obtain rfl := hwq.symm
          rw [← numA_is k]
          generalize hx9 : numA k = x9 at *
          have HX := Lib.hid hx9
          clear hx9
          go_wp2_with fail
          go_roundw
          case rel => exact ⟨k + 1, ns ++ [k], by omega, by go_num, HN.out, by rw [HO.out], by rw [List.length_append] <;> go_num, by first | rfl | trivial⟩
          case measure => simp [intOf]; omega
    · obtain rfl : k = size := by omega
      have hki : ¬ (k : Int) < k := by omega
      have tki : decide (k < k) = false := decide_eq_false (by omega)
      have HB := Lib.hid (show bitsL k set = ns from HNS.out)
      by_cases hf : ns.length = k
      · have t1 : ((ns.length : Int) == (k : Int)) = true := beq_iff_eq.2 (by omega)
        have t2 : (ns.length == k) = true := beq_iff_eq.2 hf
        have HE := Lib.hid (show fieldB k set = ⟨#[42]⟩ from by rw [HD.out, HB.out, if_pos hf])
        clear hf
        go_wp2_with fail
        go_ret
        exact ⟨by rw [HE.out]; rfl, rfl⟩
      · have t1 : ((ns.length : Int) == (k : Int)) = false := beq_eq_false_iff_ne.2 (by omega)
        have t2 : (ns.length == k) = false := beq_eq_false_iff_ne.2 hf
        have HE := Lib.hid (show fieldB k set = outA ns from by rw [HD.out, HB.out, if_neg hf])
        clear hf
        go_wp2_with fail
        go_ret
        exact ⟨by rw [HE.out]; rfl, rfl⟩
theorem rfield_at (set size : Nat) (hs : size ≤ 60) (h : set < 2 ^ size) (hu : set < 18446744073709551616) (x : ByteArray) (hx : fieldB size set = x) (W : World) (d : Nat) (os : Array Obj) : Calls Tryd.prog 35 #[.int .u64 set, .int .i64 size] (grow (redrawn W d) os) fun e w' => e = .returned (.string x) ∧ ∃ p : Regrown, w' = grow (redrawn W p.d) p.os := by
  refine Calls.regrown_of ((rfield_any set size hs h hu _).mono ?_)
  rintro e w' ⟨rfl, rfl⟩
  rw [hx]
  exact ⟨rfl, Below.refl _ _⟩
theorem rfield_at0 (c : Cr) (x : ByteArray) (hx : fieldB 60 c.mi = x) (h : c.mi < 2 ^ 60) (W : World) (d : Nat) (os : Array Obj) : Calls Tryd.prog 35 #[.int .u64 c.mi, .int .i64 60] (grow (redrawn W d) os) fun e w' => e = .returned (.string x) ∧ ∃ p : Regrown, w' = grow (redrawn W p.d) p.os := rfield_at c.mi 60 (by omega) h (by omega) x hx W d os
theorem rfield_at1 (c : Cr) (x : ByteArray) (hx : fieldB 24 c.ho = x) (h : c.ho < 2 ^ 24) (W : World) (d : Nat) (os : Array Obj) : Calls Tryd.prog 35 #[.int .u64 c.ho, .int .i64 24] (grow (redrawn W d) os) fun e w' => e = .returned (.string x) ∧ ∃ p : Regrown, w' = grow (redrawn W p.d) p.os := rfield_at c.ho 24 (by omega) h (by omega) x hx W d os
theorem rfield_at2 (c : Cr) (x : ByteArray) (hx : fieldB 7 c.da = x) (h : c.da < 2 ^ 7) (W : World) (d : Nat) (os : Array Obj) : Calls Tryd.prog 35 #[.int .u64 c.da, .int .i64 7] (grow (redrawn W d) os) fun e w' => e = .returned (.string x) ∧ ∃ p : Regrown, w' = grow (redrawn W p.d) p.os := rfield_at c.da 7 (by omega) h (by omega) x hx W d os
theorem fmt_cat {c : Cr} {x y z : ByteArray} (hx : fieldB 60 c.mi = x) (hy : fieldB 24 c.ho = y) (hz : fieldB 7 c.da = z) (h : okC c = true) : fmtS c = ((((x ++ ⟨#[32]⟩) ++ y) ++ ⟨#[32]⟩) ++ z, 0) := by
  rw [fmt_good h, hx, hy, hz]
  congr 1
  apply ba_ext
  simp [joinC]
set_option maxHeartbeats 8000000 in
set_option maxRecDepth 20000 in
theorem rFormat_any (c : Cr) (w : World) : Calls Tryd.prog 13 #[.agg #[.int .u64 c.mi, .int .u64 c.ho, .int .u64 c.da]] w fun e w' => e = .returned (tupF (fmtS c)) ∧ Below w.heap.size w w' := by
  go_enter Tryd.func13, Tryd.ntmps13
  go_wp2_with fail
  refine (rCheck_any c _).mono ?_
  rintro e w1 ⟨rfl, hb⟩
  have bc : Blk w1 (w.heap.size) 25 #[.int .u64 c.mi, .int .u64 c.ho, .int .u64 c.da] := (Blk.new _ _ _).on hb
  have hbz := hb.size
  have HB1 := Lib.hid (((Below.refl w.heap.size w).alloc (by first | exact Nat.le_refl _ | omega | (simp; done) | (simp; omega)) _).trans (hb.mono (by first | exact Nat.le_refl _ | omega | (simp; done) | (simp; omega))))
  have hz1 : w.heap.size ≤ w1.heap.size := HB1.out.size
  clear hb hbz
  cases hok : okC c
  · have HD := Lib.hid (fmt_bad hok)
    rw [ckC_no hok]
    clear hok
    go_wp2_with fail
    go_ret2
    exact ⟨ret_tupF HD.out, HB1.out⟩
  · rw [ckC_ok hok]
    obtain ⟨⟨a0, a1⟩, ⟨b0, b1⟩, d0, d1⟩ := (okC_iff c).1 hok
    have G0 := Lib.hid a1
    have G1 := Lib.hid b1
    have G2 := Lib.hid d1
    obtain ⟨x0, hx0⟩ : ∃ x, fieldB 60 c.mi = x := ⟨_, rfl⟩
    obtain ⟨x1, hx1⟩ : ∃ x, fieldB 24 c.ho = x := ⟨_, rfl⟩
    obtain ⟨x2, hx2⟩ : ∃ x, fieldB 7 c.da = x := ⟨_, rfl⟩
    have hs0 : x0.size ≤ 180 := by rw [← hx0]; exact field_size (by omega)
    have hs1 : x1.size ≤ 180 := by rw [← hx1]; exact field_size (by omega)
    have hs2 : x2.size ≤ 180 := by rw [← hx2]; exact field_size (by omega)
    have HD := Lib.hid (fmt_cat hx0 hx1 hx2 hok)
    have HX0 := Lib.hid hx0
    have HX1 := Lib.hid hx1
    have HX2 := Lib.hid hx2
    clear hok a0 a1 b0 b1 d0 d1 hx0 hx1 hx2
    go_wp2_with fail
    have r_bc0 := fun d os => cell_regrown (v := .int .u64 c.mi) (bc.cell 0) d os
    have r_bc1 := fun d os => cell_regrown (v := .int .u64 c.ho) (bc.cell 1) d os
    have r_bc2 := fun d os => cell_regrown (v := .int .u64 c.da) (bc.cell 2) d os
    refine wp_region_quiet_below (by kernel_rfl) (by kernel_rfl) ?_
    repeat (go_big_quiet_step ((first | (go_at_call 35; with_reducible exact rfield_at0 c x0 HX0.out G0.out _ _ _) | (go_at_call 35; with_reducible exact rfield_at1 c x1 HX1.out G1.out _ _ _) | (go_at_call 35; with_reducible exact rfield_at2 c x2 HX2.out G2.out _ _ _))))
    refine wpQuiet_nil ?_
    intro _ hw'
    obtain ⟨⟨dq, osq⟩, hw''⟩ := hw'
    subst hw''
    have hb := below_regrown w1 dq osq
    have bc : Blk (Go.Sort.grow (redrawn w1 dq) osq) (w.heap.size) 25 #[.int .u64 c.mi, .int .u64 c.ho, .int .u64 c.da] := bc.on hb
    have HB2 := Lib.hid ((HB1.out).trans (hb.mono (by first | exact Nat.le_refl _ | omega | (simp; done) | (simp; omega))))
    clear hb r_bc0 r_bc1 r_bc2
    generalize Go.Sort.grow (redrawn w1 dq) osq = w2 at *
    have hz2 : w.heap.size ≤ w2.heap.size := HB2.out.size
    go_wp2_with fail
    go_ret2
    exact ⟨ret_tupF HD.out, HB2.out⟩
end Go.Proofs.YtnagnaekcphpiaaDoor
