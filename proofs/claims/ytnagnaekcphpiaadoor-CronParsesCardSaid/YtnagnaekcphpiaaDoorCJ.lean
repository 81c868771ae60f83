/- cron: the parts of a field. -/
import Derived.Test.YtnagnaekcphpiaaDoorCI
namespace Go.Proofs.YtnagnaekcphpiaaDoor
open Go.RowKit
open Go.Sort (grow)

theorem strings_split_any (c : UInt8) (s : ByteArray) (m : Int) (w : World) (hs : s.size ≤ 1048576) (hm : w.cell? ⟨0, 0, none⟩ = some (.int .i64 m)) :
    Calls Tryd.prog 23 #[.string s, .string ⟨#[c]⟩] w fun e w' => e = .returned (.slice (some ⟨w.heap.size, 0, none⟩) (pcs c s).length (pcs c s).length) ∧ w' = w.alloc (.cells (svals (pcs c s)).toArray 9) := by
  have hl : Lib.countB s ⟨#[c]⟩ + 1 = (pcs c s).length := by
    rw [← split_pcs]
    exact (Lib.splitB_all ⟨#[c]⟩ (Nat.le_refl _) 0 _ s rfl).symm
  refine (Tryd.strings_Split s ⟨#[c]⟩ m w (by omega) hm (Nat.le_refl _)).mono ?_
  rintro e w' ⟨rfl, rfl⟩
  rw [split_pcs, hl]
  exact ⟨rfl, rfl⟩
theorem ssplit_any (c : UInt8) (s : ByteArray) (m : Int) (w : World) (hs : s.size ≤ 1048576) (hm : w.cell? ⟨0, 0, none⟩ = some (.int .i64 m)) :
    Calls Tryd.prog 23 #[.string s, .string ⟨#[c]⟩] w fun e w' => (∃ A cap, e = .returned (.slice A (pcs c s).length cap) ∧ StrL w' w'.heap.size A (pcs c s)) ∧ Below w.heap.size w w' := by
  refine (strings_split_any c s m w hs hm).mono ?_
  rintro e w' ⟨rfl, rfl⟩
  refine ⟨⟨_, _, rfl, ⟨by simp [svals], fun _ => ⟨_, 0, rfl, by simp, fun j u hu => ?_⟩⟩⟩, size_new' _ _⟩
  have := cells_new_at (w := w) (e := 9) (cs := svals (pcs c s)) rfl j u hu
  rw [Addr.add_lit] at this
  exact this
theorem pcs_len (c : UInt8) (s : ByteArray) : (pcs c s).length ≤ s.size + 1 := by
  unfold pcs cutL
  rw [List.length_map, ← size_len]
  exact cutA_len c _ _
theorem cut_len (l : List UInt8) : (Lib.cut l [45]).1.length ≤ l.length ∧ (Lib.cut l [45]).2.1.length ≤ l.length := by
  rcases byte_cases 45 l with h | ⟨q, r, rfl, hq⟩
  · rw [cut_byte_no h]; exact ⟨Nat.le_refl _, Nat.zero_le _⟩
  · rw [cut_byte_hit r hq]; simp only [List.length_append, List.length_cons]; omega
theorem ba_size (l : List UInt8) : (⟨l.toArray⟩ : ByteArray).size = l.length := by rw [← size_len]
theorem numB_mk (l : List UInt8) : numB ⟨l.toArray⟩ = numS l := rfl
theorem pre_is (w : List UInt8) : Lib.hasPrefix w [42, 47] = decide ([42, 47] <+: w) := by
  unfold Lib.hasPrefix
  rw [Bool.eq_iff_iff, List.isPrefixOf_iff_prefix, decide_eq_true_eq]
/-- The cells of a list of parts. -/
def pcells (p : Pt) : List Value := [.int .i64 p.lo, .int .i64 p.hi, .int .i64 p.st, .bool p.sp]
def pvals (l : List Pt) : List Value := l.flatMap pcells
def PtL (w : World) (B : Nat) (A : Option Addr) (l : List Pt) : Prop := Reads w B 4 A l.length (pvals l)
def OwnP (w : World) (base : Nat) (v : Value) (l : List Pt) : Prop := w.ownsRow base 51 4 v l.length (pvals l)
theorem OwnP.push {w : World} {base : Nat} {v : Value} {l : List Pt} {x : Pt} (h : w.ownsRow base 51 4 v (l.length + 1) (pvals l ++ pcells x)) : OwnP w base v (l ++ [x]) := by
  unfold OwnP pvals
  rw [List.flatMap_append, List.length_append]
  simpa [pvals] using h
theorem PtL.on {w w' : World} {A : Option Addr} {l : List Pt} (h : PtL w w.heap.size A l) (hb : Below w.heap.size w w') : PtL w' w'.heap.size A l := (Reads.below h hb).more hb.size
theorem PtL.elem {w : World} {B : Nat} {A : Option Addr} {l : List Pt} (h : PtL w B A l) {k : Nat} {p : Pt} (hk : l[k]? = some p) :
    ∃ b o, A = some ⟨b, o, none⟩ ∧ b < B ∧ w.cell? ⟨b, o + k * 4, none⟩ = some (.int .i64 p.lo) ∧ w.cell? ⟨b, o + k * 4 + 1, none⟩ = some (.int .i64 p.hi) ∧ w.cell? ⟨b, o + k * 4 + 2, none⟩ = some (.int .i64 p.st) ∧ w.cell? ⟨b, o + k * 4 + 3, none⟩ = some (.bool p.sp) := by
  obtain ⟨b, o, e, hb, hc⟩ := Reads.elem (g := pcells) (sz := 4) (fun _ => rfl) h hk
  exact ⟨b, o, e, hb, hc 0 _ rfl, hc 1 _ rfl, hc 2 _ rfl, hc 3 _ rfl⟩
theorem info_part : (Tryd.prog.info? 51).map (fun i => (i.zero, i.size, i.bytes)) = some (some (.agg #[.int .i64 0, .int .i64 0, .int .i64 0, .bool false]), 4, 32) := by kernel_rfl
def PostP (L : List Pt × Bool) (w : World) (e : Ending) (w' : World) : Prop := (∃ A k, e = .returned (.tuple #[.slice A L.1.length k, .bool L.2]) ∧ PtL w' w'.heap.size A L.1 ∧ ∀ ad, A = some ad → w.heap.size ≤ ad.block) ∧ Below w.heap.size w w'
theorem postP_none {L : List Pt × Bool} {b : Bool} {w w' : World} (h : L = ([], b)) (hb : Below w.heap.size w w') : PostP L w (.returned (.tuple #[.slice none 0 0, .bool b])) w' := by subst h; exact ⟨⟨none, 0, rfl, Reads.none_, fun _ e => by cases e⟩, hb⟩
theorem postP_one {L : List Pt × Bool} {p : Pt} {b : Bool} {w W w' : World} (h : L = ([p], b)) (hw : w' = W.alloc (.cells (pcells p).toArray 51)) (hW : w.heap.size ≤ W.heap.size) (hb : Below w.heap.size w w') : PostP L w (.returned (.tuple #[.slice (some ⟨W.heap.size, 0, none⟩) 1 1, .bool b])) w' := by
  subst h
  subst hw
  refine ⟨⟨_, 1, rfl, ⟨rfl, fun _ => ⟨_, 0, rfl, by simp, fun j u hu => ?_⟩⟩, fun ad e => by have e := Option.some.inj e; rw [← e]; exact hW⟩, hb⟩
  have := cells_new_at (w := W) (e := 51) (cs := pcells p) rfl j u (by simpa [pvals] using hu)
  rw [Addr.add_lit] at this
  exact this
theorem postP_own {L : List Pt × Bool} {l : List Pt} {p : Option Addr} {k base : Nat} {w w' : World} (h : L = (l, true)) (ho : OwnP w' base (.slice p l.length k) l) (hB : w.heap.size ≤ base) (hb : Below w.heap.size w w') : PostP L w (.returned (.tuple #[.slice p l.length k, .bool true])) w' := by
  subst h
  obtain ⟨p', c', e, hr⟩ := own_reads ho
  injection e with e1 e2 e3
  subst e1 e3
  exact ⟨⟨p, k, rfl, hr, fun ad e => Nat.le_trans hB (own_ge ho _ (by rw [e]; rfl))⟩, hb⟩
theorem map_step {l : List ByteArray} {k : Nat} {x : ByteArray} (h : l[k]? = some x) (g : ByteArray → Pt) : (l.take (k + 1)).map g = (l.take k).map g ++ [g x] := by
  rw [List.take_add_one, h, List.map_append]; rfl
theorem all_step' {l : List ByteArray} {k : Nat} {x : ByteArray} (h : l[k]? = some x) (g : ByteArray → Bool) : (l.take (k + 1)).all g = ((l.take k).all g && g x) := by
  rw [List.take_add_one, h, List.all_append]; simp
theorem all_miss {l : List ByteArray} {k : Nat} {x : ByteArray} {g : ByteArray → Bool} (h : l[k]? = some x) (hg : g x = false) : l.all g = false := by
  rw [← Bool.not_eq_true, List.all_eq_true]
  intro hh
  have := hh x (List.mem_of_getElem? h)
  rw [hg] at this
  cases this
/-- The pieces of a field, as texts. -/
theorem parts_pcs {w : ByteArray} (h1 : w.data.toList ≠ [42]) (h2 : ¬ [42, 47] <+: w.data.toList) : partsS w.data.toList = if (pcs 44 w).all (fun x => pieceB x.data.toList) = true then ((pcs 44 w).map fun x => pieceP x.data.toList, true) else ([], false) := by
  unfold partsS
  rw [if_neg h1, if_neg h2, ← pcs_data, List.all_map, List.map_map]
  rfl
theorem num_le (l : List UInt8) : (numS l).1 ≤ 1000000000 := by
  unfold numS
  split
  · exact Nat.zero_le _
  · rename_i h
    split
    · exact Nat.le_refl _
    · rename_i h9
      simp only [Bool.or_eq_true, Bool.not_eq_true', not_or, Bool.not_eq_false] at h
      have := mag_lt l 0 h.2
      have h10 : 10 ^ l.length ≤ 10 ^ 9 := Nat.pow_le_pow_right (by omega) (by omega)
      have h11 : (10 : Nat) ^ 9 = 1000000000 := by decide
      omega
theorem parts_bound {w : List UInt8} {p : Pt} (h : p ∈ (partsS w).1) : (p.lo ≤ 1000000000 ∧ p.hi ≤ 1000000000 ∧ p.st ≤ 1000000000) ∧ (p.sp = false → p.st = 1) := by
  unfold partsS at h
  split at h
  · rw [List.mem_singleton.1 h]; exact ⟨by decide, fun e => by cases e⟩
  · split at h
    · rw [List.mem_singleton.1 h]; exact ⟨⟨Nat.zero_le _, Nat.zero_le _, num_le _⟩, fun e => by cases e⟩
    · split at h
      · obtain ⟨x, _, rfl⟩ := List.mem_map.1 h
        exact ⟨⟨num_le _, num_le _, Nat.le_of_ble_eq_true rfl⟩, fun _ => rfl⟩
      · cases h
theorem star_eq {w : ByteArray} : (w.toList == [42]) = decide (w.data.toList = [42]) := by
  rw [ByteArray.toList_eq, Bool.eq_iff_iff, beq_iff_eq, decide_eq_true_eq]
set_option maxHeartbeats 4000000 in
set_option maxRecDepth 20000 in
theorem parts_any (s : ByteArray) (m : Int) (w : World) (hs : s.size ≤ 1048576) (hm : w.cell? ⟨0, 0, none⟩ = some (.int .i64 m)) : Calls Tryd.prog 24 #[.string s] w (PostP (partsS s.data.toList) w) := by
  obtain ⟨i0, ih, iz0, iz1, iz2⟩ := info_parts info_part
  have HM := Lib.hid hm
  have hw0 := block_lt_of_cell hm
  clear hm
  have hst := star_eq (w := s)
  go_enter Tryd.func24, Tryd.ntmps24
  by_cases h1 : s.data.toList = [42]
  · rw [decide_eq_true h1] at hst
    have HD := Lib.hid (show partsS s.data.toList = ([⟨0, 0, 1, true⟩], true) from by unfold partsS; rw [if_pos h1])
    clear h1
    go_wp2_with fail
    go_ret2
    exact postP_one HD.out rfl (Nat.le_refl _) (size_new' _ _)
  · rw [decide_eq_false h1] at hst
    go_wp2_with fail
    refine (Tryd.strings_CutPrefix s ⟨#[42, 47]⟩ w).mono ?_
    rintro e wq ⟨rfl, hwq⟩
    obtain rfl := hwq.symm
    rw [show (⟨#[42, 47]⟩ : ByteArray).data.toList = [42, 47] from rfl]
    by_cases h2 : [42, 47] <+: s.data.toList
    · rw [show Lib.hasPrefix s.data.toList [42, 47] = true from by rw [pre_is, decide_eq_true h2], show Lib.trimPrefix s.data.toList [42, 47] = s.data.toList.drop 2 from by unfold Lib.trimPrefix; rw [pre_is, decide_eq_true h2]; rfl]
      have HD := Lib.hid (show partsS s.data.toList = ([⟨0, 0, (numS (s.data.toList.drop 2)).1, true⟩], (numS (s.data.toList.drop 2)).2) from by unfold partsS; rw [if_neg h1, if_pos h2])
      clear h1 h2
      go_wp2_with fail
      refine (number_any ⟨(s.data.toList.drop 2).toArray⟩ _ (by rw [ba_size, List.length_drop, size_len]; omega)).mono ?_
      rintro e w1 ⟨rfl, hb⟩
      have HB := Lib.hid hb
      clear hb
      rw [numB_mk]
      obtain ⟨⟨n, o⟩, hq⟩ : ∃ q, numS (s.data.toList.drop 2) = q := ⟨_, rfl⟩
      rw [hq] at HD ⊢
      unfold tupN
      dsimp only at HD ⊢
      clear hq
      go_wp2_with fail
      go_ret2
      exact postP_one HD.out rfl HB.out.size (HB.out.alloc HB.out.size _)
    · rw [show Lib.hasPrefix s.data.toList [42, 47] = false from by rw [pre_is, decide_eq_false h2]]
      have HD := Lib.hid (parts_pcs h1 h2)
      clear h1 h2
      go_wp2_with fail
      refine (ssplit_any 44 s m _ hs HM.out).mono ?_
      rintro e w1 ⟨⟨A, cap, rfl, hl⟩, hb⟩
      have HL := Lib.hid hl
      have HB0 := Lib.hid hb
      have hz1 : w.heap.size ≤ w1.heap.size := hb.size
      have HSZ := Lib.hid (show ∀ x ∈ pcs 44 s, x.size ≤ s.size from fun x hx => pcs_size hx)
      have HLN := Lib.hid (pcs_len 44 s)
      obtain ⟨Q, hQ⟩ : ∃ Q, pcs 44 s = Q := ⟨_, rfl⟩
      rw [hQ] at HD HL HSZ HLN ⊢
      clear hl hb hQ
      go_wp2_with fail
      go_loopw [8, 40] (fun v i wr => ∃ (k : Nat) (L : List Pt), k ≤ Q.length ∧ i = .int .i64 k ∧ (Q.take k).all (fun x => pieceB x.data.toList) = true ∧ (Q.take k).map (fun x => pieceP x.data.toList) = L ∧ OwnP wr w1.heap.size v L ∧ Below w1.heap.size w1 wr) (fun _ i _ => Q.length - (intOf i).toNat)
      case atStart => exact ⟨0, [], Nat.zero_le _, rfl, rfl, rfl, own_nil _ _ _ _, Below.refl _ _⟩
      case round =>
        obtain ⟨k, L, hk, rfl, hall, hL, hv, hbr⟩ := hrel
        obtain ⟨v, rfl⟩ : ∃ v : Value, v = u8 := ⟨_, rfl⟩
        have HA := Lib.hid hall
        have HV := Lib.hid hv
        have HB := Lib.hid hbr
        have hzr : w1.heap.size ≤ wr.heap.size := hbr.size
        obtain ⟨p, cp, rfl⟩ := own_slice hv
        have hln := HLN.out
        have hLl : L.length ≤ 1048577 := by rw [← hL, List.length_map, List.length_take]; omega
        have HLK := Lib.hid hL
        clear hall hv hbr hL
        by_cases hlt : k < Q.length
        · obtain ⟨x, hx⟩ : ∃ x, Q[k]? = some x := ⟨_, List.getElem?_eq_getElem hlt⟩
          obtain ⟨b, o, rfl, -, c0⟩ := (HL.out.on HB.out).cell hx
          have HX := Lib.hid hx
          have hxs : x.size ≤ s.size := HSZ.out x (List.mem_of_getElem? hx)
          have hki : (k : Int) < Q.length := by omega
          have hk0 : (0 : Int) ≤ k := by omega
          clear hx
          go_wp2_with fail
          refine (Tryd.strings_Cut x ⟨#[45]⟩ m _ (by omega) (((HB0.out.trans (HB.out.mono hz1)).cell (p := ⟨0, 0, none⟩) hw0).trans HM.out)).mono ?_
          rintro e wq ⟨rfl, nn, rfl⟩
          rw [show (⟨#[45]⟩ : ByteArray).data.toList = [45] from rfl]
          obtain ⟨⟨a1, b1, f1⟩, hcut⟩ : ∃ q, Lib.cut x.data.toList [45] = q := ⟨_, rfl⟩
          have hcl := cut_len x.data.toList
          rw [hcut, size_len] at hcl
          rw [hcut]
          dsimp only at hcl ⊢
          have HPA := Lib.hid (show pcA x.data.toList = a1 from by unfold pcA; rw [hcut])
          have HPB := Lib.hid (show pcB x.data.toList = if f1 = true then b1 else a1 from by unfold pcB; rw [hcut])
          clear hcut c0
          obtain ⟨hcl1, hcl2⟩ := hcl
          cases f1
          · go_wp2_with fail
            refine (number_any ⟨a1.toArray⟩ _ (by rw [ba_size]; omega)).mono ?_
            rintro e w2 ⟨rfl, hb⟩
            have HB2 := Lib.hid ((HB.out.trans ((below_drewN' wr.heap.size wr nn).mono hzr)).trans (hb.mono hzr))
            have HV2 := Lib.hid (own_below (own_below HV.out (below_drewN' wr.heap.size wr nn)) hb)
            have hz2 : wr.heap.size ≤ w2.heap.size := hb.size
            clear hb
            rw [numB_mk]
            obtain ⟨⟨n1, o1⟩, hq1⟩ : ∃ q, numS a1 = q := ⟨_, rfl⟩
            rw [hq1]
            unfold tupN
            dsimp only
            go_wp2_with fail
            refine (number_any ⟨a1.toArray⟩ _ (by rw [ba_size]; omega)).mono ?_
            rintro e w3 ⟨rfl, hb⟩
            have HB3 := Lib.hid (HB2.out.trans (hb.mono (Nat.le_trans hzr hz2)))
            have HV3 := Lib.hid (own_below HV2.out hb)
            have hz3 : w2.heap.size ≤ w3.heap.size := hb.size
            clear hb HV2 HV
            rw [numB_mk]
            obtain ⟨⟨n2, o2⟩, hq2⟩ : ∃ q, numS a1 = q := ⟨_, rfl⟩
            rw [hq2]
            unfold tupN
            dsimp only
            have HPC := Lib.hid (show pieceB x.data.toList = (o1 && o2) from by unfold pieceB; rw [HPA.out, HPB.out, hq1]; simp only [Bool.false_eq_true, if_false, hq2])
            have HPP := Lib.hid (show pieceP x.data.toList = ⟨n1, n2, 1, false⟩ from by unfold pieceP; rw [HPA.out, HPB.out, hq1]; simp only [Bool.false_eq_true, if_false, hq2])
            clear hq1 hq2 HPA HPB
            cases hoo : (o1 && o2)
            · have HE := Lib.hid (show partsS s.data.toList = ([], false) from by rw [HD.out, if_neg (by rw [all_miss HX.out (HPC.out.trans hoo)]; exact Bool.false_ne_true)])
              clear HPC HPP
              cases o1 <;> cases o2
              all_goals first | (exfalso; revert hoo; decide) | skip
              all_goals clear hoo
              all_goals go_wp2_with fail
              all_goals go_ret2
              all_goals exact postP_none HE.out (HB0.out.trans (HB3.out.mono hz1))
            · obtain ⟨rfl, rfl⟩ : o1 = true ∧ o2 = true := by simpa using hoo
              clear hoo
              have HN := Lib.hid (show (Q.take (k + 1)).all (fun x => pieceB x.data.toList) = true from by rw [all_step' HX.out, HA.out, HPC.out]; rfl)
              have HMS := Lib.hid (map_step HX.out (fun x => pieceP x.data.toList))
              rw [HPP.out] at HMS
              rw [HLK.out] at HMS
              go_wp2_with (at_builtin; go_loud (refine wpList_append_own _ rfl (.tmp 69) (.tmp 73) 45 rfl w1.heap.size 51 i0 (.agg #[.int .i64 0, .int .i64 0, .int .i64 0, .bool false]) 4 32 Tryd.underlying45 ih iz0 iz1 iz2 rfl (by decide) _ L.length (pvals L) rfl (own_below HV3.out (size_new' _ _)) ⟨w3.heap.size, 0, none⟩ 1 1 (pcells ⟨n1, n2, 1, false⟩) rfl rfl (cells_new_at rfl) (by intro u hu; simp [pcells] at hu; rcases hu with rfl | rfl | rfl | rfl <;> rfl) (by simp only [maxLen]; omega) (by omega) (by simp; omega) ?_); intro v' wn hown1 hgr hiff; clear hiff; have HG := Lib.hid (And.intro hown1 hgr); clear hown1 hgr)
              have hlow : Below w1.heap.size w1 wn := by have h := (HB3.out.alloc (by omega) (.cells #[.int .i64 n1, .int .i64 n2, .int .i64 1, .bool false] 51)); exact h.grown HG.out.2 (by simp; omega) (own_ge HV3.out)
              have hown := OwnP.push HG.out.1
              have HF := Lib.hid (And.intro hown hlow)
              clear hlow hown HG
              go_wp2_with fail
              go_roundw
              case rel => exact ⟨k + 1, L ++ [⟨n1, n2, 1, false⟩], by omega, by go_num, HN.out, HMS.out, HF.out.1, HF.out.2⟩
              case measure => simp [intOf]; omega
          · go_wp2_with fail
            refine (number_any ⟨a1.toArray⟩ _ (by rw [ba_size]; omega)).mono ?_
            rintro e w2 ⟨rfl, hb⟩
            have HB2 := Lib.hid ((HB.out.trans ((below_drewN' wr.heap.size wr nn).mono hzr)).trans (hb.mono hzr))
            have HV2 := Lib.hid (own_below (own_below HV.out (below_drewN' wr.heap.size wr nn)) hb)
            have hz2 : wr.heap.size ≤ w2.heap.size := hb.size
            clear hb
            rw [numB_mk]
            obtain ⟨⟨n1, o1⟩, hq1⟩ : ∃ q, numS a1 = q := ⟨_, rfl⟩
            rw [hq1]
            unfold tupN
            dsimp only
            go_wp2_with fail
            refine (number_any ⟨b1.toArray⟩ _ (by rw [ba_size]; omega)).mono ?_
            rintro e w3 ⟨rfl, hb⟩
            have HB3 := Lib.hid (HB2.out.trans (hb.mono (Nat.le_trans hzr hz2)))
            have HV3 := Lib.hid (own_below HV2.out hb)
            have hz3 : w2.heap.size ≤ w3.heap.size := hb.size
            clear hb HV2 HV
            rw [numB_mk]
            obtain ⟨⟨n2, o2⟩, hq2⟩ : ∃ q, numS b1 = q := ⟨_, rfl⟩
            rw [hq2]
            unfold tupN
            dsimp only
            have HPC := Lib.hid (show pieceB x.data.toList = (o1 && o2) from by unfold pieceB; rw [HPA.out, HPB.out, hq1]; simp only [if_true, hq2])
            have HPP := Lib.hid (show pieceP x.data.toList = ⟨n1, n2, 1, false⟩ from by unfold pieceP; rw [HPA.out, HPB.out, hq1]; simp only [if_true, hq2])
            clear hq1 hq2 HPA HPB
            cases hoo : (o1 && o2)
            · have HE := Lib.hid (show partsS s.data.toList = ([], false) from by rw [HD.out, if_neg (by rw [all_miss HX.out (HPC.out.trans hoo)]; exact Bool.false_ne_true)])
              clear HPC HPP
              cases o1 <;> cases o2
              all_goals first | (exfalso; revert hoo; decide) | skip
              all_goals clear hoo
              all_goals go_wp2_with fail
              all_goals go_ret2
              all_goals exact postP_none HE.out (HB0.out.trans (HB3.out.mono hz1))
            · obtain ⟨rfl, rfl⟩ : o1 = true ∧ o2 = true := by simpa using hoo
              clear hoo
              have HN := Lib.hid (show (Q.take (k + 1)).all (fun x => pieceB x.data.toList) = true from by rw [all_step' HX.out, HA.out, HPC.out]; rfl)
              have HMS := Lib.hid (map_step HX.out (fun x => pieceP x.data.toList))
              rw [HPP.out] at HMS
              rw [HLK.out] at HMS
              go_wp2_with (at_builtin; go_loud (refine wpList_append_own _ rfl (.tmp 69) (.tmp 73) 45 rfl w1.heap.size 51 i0 (.agg #[.int .i64 0, .int .i64 0, .int .i64 0, .bool false]) 4 32 Tryd.underlying45 ih iz0 iz1 iz2 rfl (by decide) _ L.length (pvals L) rfl (own_below HV3.out (size_new' _ _)) ⟨w3.heap.size, 0, none⟩ 1 1 (pcells ⟨n1, n2, 1, false⟩) rfl rfl (cells_new_at rfl) (by intro u hu; simp [pcells] at hu; rcases hu with rfl | rfl | rfl | rfl <;> rfl) (by simp only [maxLen]; omega) (by omega) (by simp; omega) ?_); intro v' wn hown1 hgr hiff; clear hiff; have HG := Lib.hid (And.intro hown1 hgr); clear hown1 hgr)
              have hlow : Below w1.heap.size w1 wn := by have h := (HB3.out.alloc (by omega) (.cells #[.int .i64 n1, .int .i64 n2, .int .i64 1, .bool false] 51)); exact h.grown HG.out.2 (by simp; omega) (own_ge HV3.out)
              have hown := OwnP.push HG.out.1
              have HF := Lib.hid (And.intro hown hlow)
              clear hlow hown HG
              go_wp2_with fail
              go_roundw
              case rel => exact ⟨k + 1, L ++ [⟨n1, n2, 1, false⟩], by omega, by go_num, HN.out, HMS.out, HF.out.1, HF.out.2⟩
              case measure => simp [intOf]; omega
        · have hki : ¬ (k : Int) < Q.length := by omega
          obtain rfl : k = Q.length := by omega
          have HE := Lib.hid (show partsS s.data.toList = (L, true) from by rw [HD.out, if_pos (by have := HA.out; rwa [List.take_length] at this), ← HLK.out, List.take_length])
          go_wp2_with fail
          go_ret2
          exact postP_own HE.out HV.out hz1 (HB0.out.trans (HB.out.mono hz1))
end Go.Proofs.YtnagnaekcphpiaaDoor
