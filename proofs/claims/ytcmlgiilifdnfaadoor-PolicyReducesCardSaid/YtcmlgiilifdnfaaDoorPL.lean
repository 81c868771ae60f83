/- The law's own helpers: short, small, texts, same, list. -/
import Derived.Test.YtcmlgiilifdnfaaDoorPK
namespace Go.Proofs.YtcmlgiilifdnfaaDoor
open Go.RowKit
open Go.Sort (grow)

def shB (l : List ByteArray) : Bool := decide (l.length ≤ 12) && l.all fun t => decide (t.size ≤ 100)
def smB (l : List St) : Bool := decide (l.length ≤ 20) && l.all fun s => shB s.ac && shB s.re
theorem shB_sz {l : List ByteArray} (h : shB l = true) : l.length ≤ 12 ∧ ∀ t ∈ l, t.size ≤ 100 := by
  unfold shB at h
  rw [Bool.and_eq_true, decide_eq_true_iff, List.all_eq_true] at h
  exact ⟨h.1, fun t ht => by have := h.2 t ht; rwa [decide_eq_true_iff] at this⟩
theorem shB_Sz {l : List ByteArray} (h : shB l = true) : l.length ≤ 1000000 ∧ Sz l := by
  obtain ⟨h1, h2⟩ := shB_sz h
  exact ⟨by omega, fun t ht => by have := h2 t ht; omega⟩
theorem smB_st {l : List St} (h : smB l = true) : l.length ≤ 20 ∧ ∀ s ∈ l, shB s.ac = true ∧ shB s.re = true := by
  unfold smB at h
  rw [Bool.and_eq_true, decide_eq_true_iff, List.all_eq_true] at h
  exact ⟨h.1, fun t ht => by have := h.2 t ht; rwa [Bool.and_eq_true] at this⟩
theorem smB_SzL {l : List St} (h : smB l = true) : SzL l := by
  obtain ⟨h1, h2⟩ := smB_st h
  exact ⟨by omega, fun s hs => ⟨(shB_Sz (h2 s hs).1).1, (shB_Sz (h2 s hs).2).1, (shB_Sz (h2 s hs).1).2, (shB_Sz (h2 s hs).2).2⟩⟩
theorem sh_1 {l : List ByteArray} (h : ¬ l.length ≤ 12) : false = shB l := by unfold shB; rw [decide_eq_false h]; rfl
theorem sh_2 {l : List ByteArray} {k : Nat} {t : ByteArray} (ht : l[k]? = some t) (h : ¬ t.size ≤ 100) : false = shB l := by
  unfold shB; rw [← all_miss (p := fun t => decide (t.size ≤ 100)) ht (decide_eq_false h)]; simp
theorem sh_3 {l : List ByteArray} (h1 : l.length ≤ 12) (h : l.all (fun t => decide (t.size ≤ 100)) = true) : true = shB l := by unfold shB; rw [h, decide_eq_true h1]; rfl
theorem short_any (A : Option Addr) (c : Nat) (l : List ByteArray) (w : World) (hl : StrL w w.heap.size A l) (hn : l.length ≤ 9223372036854775807) (hs : Sz l) :
    Calls Tryd.prog 26 #[.slice A l.length c] w fun e w' => e = .returned (.bool (shB l)) ∧ w = w' := by
  have HL := Lib.hid hl
  have HS := Lib.hid hs
  clear hl hs
  by_cases h12 : l.length ≤ 12
  · have d1 : decide ((12 : Int) < l.length) = false := decide_eq_false (by omega)
    go_enter Tryd.func26, Tryd.ntmps26
    go_wp2_with fail
    all_goals try (exfalso; omega)
    go_loop [3, 9] (fun _ i => ∃ k : Nat, k ≤ l.length ∧ i = .int .i64 k ∧ (l.take k).all (fun t => decide (t.size ≤ 100)) = true) (fun _ i => l.length - (intOf i).toNat)
    case atStart => exact ⟨0, Nat.zero_le _, rfl, by simp⟩
    case round =>
      obtain ⟨k, hk, rfl, hno⟩ := hrel
      have HN := Lib.hid hno
      clear hno
      by_cases hlt : k < l.length
      · obtain ⟨t, ht⟩ : ∃ t, l[k]? = some t := ⟨_, List.getElem?_eq_getElem hlt⟩
        obtain ⟨b, o, rfl, -, c0⟩ := HL.out.cell ht
        have HT := Lib.hid ht
        clear ht
        by_cases hm : t.size ≤ 100
        · have HM := Lib.hid (show (l.take (k + 1)).all (fun t => decide (t.size ≤ 100)) = true by rw [all_take HT.out, HN.out, decide_eq_true hm]; rfl)
          have d2 : decide ((100 : Int) < t.size) = false := decide_eq_false (by omega)
          go_wp2_with fail
          all_goals try (exfalso; omega)
          go_round
          case rel => exact ⟨k + 1, by omega, by go_num, HM.out⟩
          case measure => simp [intOf]; omega
        · have HM := Lib.hid (sh_2 HT.out hm)
          have d2 : decide ((100 : Int) < t.size) = true := decide_eq_true (by omega)
          clear hm
          go_wp2_with fail
          all_goals try (exfalso; omega)
          go_ret
          exact ⟨ret_bool HM.out, rfl⟩
      · obtain rfl : k = l.length := by omega
        have HM := Lib.hid (sh_3 h12 (by have := HN.out; rw [List.take_length] at this; exact this))
        go_wp2_with fail
        go_ret
        exact ⟨ret_bool HM.out, rfl⟩
  · have d1 : decide ((12 : Int) < l.length) = true := decide_eq_true (by omega)
    have HM := Lib.hid (sh_1 h12)
    clear h12
    go_enter Tryd.func26, Tryd.ntmps26
    go_wp2_with fail
    all_goals try (exfalso; omega)
    go_ret
    exact ⟨ret_bool HM.out, rfl⟩
def SzW (s : St) : Prop := s.ac.length ≤ 9223372036854775807 ∧ s.re.length ≤ 9223372036854775807 ∧ Sz s.ac ∧ Sz s.re
theorem allT_take {l : List St} {p : St → Bool} {k : Nat} {t : St} (ht : l[k]? = some t) : (l.take (k + 1)).all p = ((l.take k).all p && p t) := by
  rw [List.take_add_one, ht]; simp
theorem allT_miss {l : List St} {p : St → Bool} {k : Nat} {t : St} (ht : l[k]? = some t) (h : p t = false) : false = l.all p := by
  symm; rw [List.all_eq_false]; exact ⟨t, List.mem_of_getElem? ht, by simp [h]⟩
theorem sm_1 {l : List St} (h : ¬ l.length ≤ 20) : false = smB l := by unfold smB; rw [decide_eq_false h]; rfl
theorem sm_2 {l : List St} {k : Nat} {t : St} (ht : l[k]? = some t) (h : (shB t.ac && shB t.re) = false) : false = smB l := by
  unfold smB; rw [← allT_miss (p := fun s => shB s.ac && shB s.re) ht h]; simp
theorem sm_3 {l : List St} (h1 : l.length ≤ 20) (h : l.all (fun s => shB s.ac && shB s.re) = true) : true = smB l := by unfold smB; rw [h, decide_eq_true h1]; rfl
theorem small_any (A : Option Addr) (c : Nat) (l : List St) (w : World) (hl : StsAt w w.heap.size A l) (hn : l.length ≤ 9223372036854775807) (hs : ∀ s ∈ l, SzW s) :
    Calls Tryd.prog 9 #[.slice A l.length c] w fun e w' => e = .returned (.bool (smB l)) ∧ w = w' := by
  have HL := Lib.hid hl
  have HS := Lib.hid hs
  clear hl hs
  by_cases h12 : l.length ≤ 20
  · have d1 : decide ((20 : Int) < l.length) = false := decide_eq_false (by omega)
    go_enter Tryd.func9, Tryd.ntmps9
    go_wp2_with fail
    all_goals try (exfalso; omega)
    go_loop [3, 9] (fun _ i => ∃ k : Nat, k ≤ l.length ∧ i = .int .i64 k ∧ (l.take k).all (fun s => shB s.ac && shB s.re) = true) (fun _ i => l.length - (intOf i).toNat)
    case atStart => exact ⟨0, Nat.zero_le _, rfl, by simp⟩
    case round =>
      obtain ⟨k, hk, rfl, hno⟩ := hrel
      have HN := Lib.hid hno
      clear hno
      by_cases hlt : k < l.length
      · obtain ⟨t, ht⟩ : ∃ t, l[k]? = some t := ⟨_, List.getElem?_eq_getElem hlt⟩
        obtain ⟨b, o, P, cp, P2, cp2, rfl, -, c0, c1, c2, h1, h2⟩ := HL.out k t ht
        have HT := Lib.hid ht
        have HV := Lib.hid h1
        have HV2 := Lib.hid h2
        have HZ := Lib.hid (HS.out t (List.mem_of_getElem? ht))
        clear ht h1 h2
        go_wp2_with fail
        refine (short_any P cp t.ac w HV.out HZ.out.1 HZ.out.2.2.1).mono ?_
        rintro e wq ⟨rfl, rfl⟩
        cases h1 : shB t.ac
        · have HM := Lib.hid (sm_2 HT.out (by rw [h1]; rfl))
          clear h1
          go_wp2_with fail
          go_ret
          exact ⟨ret_bool HM.out, rfl⟩
        · have H1 := Lib.hid h1
          clear h1
          go_wp2_with fail
          refine (short_any P2 cp2 t.re w HV2.out HZ.out.2.1 HZ.out.2.2.2).mono ?_
          rintro e wq ⟨rfl, rfl⟩
          cases h2 : shB t.re
          · have HM := Lib.hid (sm_2 HT.out (by rw [h2]; simp))
            clear h2
            go_wp2_with fail
            go_ret
            exact ⟨ret_bool HM.out, rfl⟩
          · have HM := Lib.hid (show (l.take (k + 1)).all (fun s => shB s.ac && shB s.re) = true by rw [allT_take HT.out, HN.out, H1.out, h2]; rfl)
            clear h2
            go_wp2_with fail
            go_round
            case rel => exact ⟨k + 1, by omega, by go_num, HM.out⟩
            case measure => simp [intOf]; omega
      · obtain rfl : k = l.length := by omega
        have HM := Lib.hid (sm_3 h12 (by have := HN.out; rw [List.take_length] at this; exact this))
        go_wp2_with fail
        go_ret
        exact ⟨ret_bool HM.out, rfl⟩
  · have d1 : decide ((20 : Int) < l.length) = true := decide_eq_true (by omega)
    have HM := Lib.hid (sm_1 h12)
    clear h12
    go_enter Tryd.func9, Tryd.ntmps9
    go_wp2_with fail
    all_goals try (exfalso; omega)
    go_ret
    exact ⟨ret_bool HM.out, rfl⟩
/-! ### equal -/
theorem texts_any (A : Option Addr) (c : Nat) (l : List ByteArray) (A2 : Option Addr) (c2 : Nat) (m : List ByteArray) (w : World) (hl : StrL w w.heap.size A l) (hm : StrL w w.heap.size A2 m) (he : l = m) (hn : l.length ≤ 1000000) :
    Calls Tryd.prog 40 #[.slice A l.length c, .slice A2 m.length c2] w fun e w' => e = .returned (.bool true) ∧ ∃ n, w' = w.drewN n := by
  subst he
  have HL := Lib.hid hl
  have HM := Lib.hid hm
  clear hl hm
  go_enter Tryd.func40, Tryd.ntmps40
  go_wp2_with fail
  go_loopw [5, 13] (fun _ i wr => (∃ k : Nat, k ≤ l.length ∧ i = .int .i64 k) ∧ ∃ n, wr = w.drewN n) (fun _ i _ => l.length - (intOf i).toNat)
  case atStart => exact ⟨⟨0, Nat.zero_le _, rfl⟩, 0, rfl⟩
  case round =>
    obtain ⟨⟨k, hk, rfl⟩, n, rfl⟩ := hrel
    by_cases hlt : k < l.length
    · obtain ⟨t, ht⟩ : ∃ t, l[k]? = some t := ⟨_, List.getElem?_eq_getElem hlt⟩
      obtain ⟨b, o, rfl, -, c0⟩ := HL.out.cell ht
      obtain ⟨b2, o2, rfl, -, c1⟩ := HM.out.cell ht
      have HT := Lib.hid ht
      have hki : (k : Int) < l.length := by omega
      have hk0 : (0 : Int) ≤ k := by omega
      clear ht
      go_wp2_with fail
      go_quiet (fail)
      go_wp2_with fail
      go_roundw
      case rel => exact ⟨⟨k + 1, by omega, by go_num⟩, n + nq, rfl⟩
      case measure => simp [intOf]; omega
    · obtain rfl : k = l.length := by omega
      go_wp2_with fail
      go_ret
      exact ⟨rfl, n, rfl⟩
set_option maxHeartbeats 2000000 in
theorem same_any (a b : St) (va vb : Value) (w : World) (hva : StV w w.heap.size va a) (hvb : StV w w.heap.size vb b) (he : a = b) (hz : SzSt a) :
    Calls Tryd.prog 19 #[va, vb] w fun e w' => e = .returned (.bool true) ∧ Below w.heap.size w w' := by
  subst he
  obtain ⟨A, c, A2, c2, rfl, h1, h2⟩ := hva
  obtain ⟨B, d, B2, d2, rfl, h3, h4⟩ := hvb
  have H1 := Lib.hid h1
  have H2 := Lib.hid h2
  have H3 := Lib.hid h3
  have H4 := Lib.hid h4
  have HZ := Lib.hid hz
  have haa : (a.al == a.al) = true := by simp
  clear h1 h2 h3 h4 hz
  go_enter Tryd.func19, Tryd.ntmps19
  go_wp2_with fail
  refine (texts_any A c a.ac B d a.ac _ (H1.out.on (size_new2 w _ _)) (H3.out.on (size_new2 w _ _)) rfl HZ.out.1).mono ?_
  rintro e w1 ⟨rfl, n1, rfl⟩
  have ba := ((Blk.new w 31 #[.bool a.al, .slice A a.ac.length c, .slice A2 a.re.length c2]).alloc (.cells #[.bool a.al, .slice B a.ac.length d, .slice B2 a.re.length d2] 31)).drewN n1
  have bb := (Blk.new1 w (.cells #[.bool a.al, .slice A a.ac.length c, .slice A2 a.re.length c2] 31) 31 #[.bool a.al, .slice B a.ac.length d, .slice B2 a.re.length d2]).drewN n1
  have HB := Lib.hid ((size_new2 w (.cells #[.bool a.al, .slice A a.ac.length c, .slice A2 a.re.length c2] 31) (.cells #[.bool a.al, .slice B a.ac.length d, .slice B2 a.re.length d2] 31)).trans (below_drewN' w.heap.size _ n1))
  generalize (World.drewN ((w.alloc (.cells #[.bool a.al, .slice A a.ac.length c, .slice A2 a.re.length c2] 31)).alloc (.cells #[.bool a.al, .slice B a.ac.length d, .slice B2 a.re.length d2] 31)) n1) = W at *
  have q2 : W.cell? ⟨w.heap.size, 2, none⟩ = some (.slice A2 a.re.length c2) := ba.cell 2
  have r2 : W.cell? ⟨w.heap.size + 1, 2, none⟩ = some (.slice B2 a.re.length d2) := bb.cell 2
  clear ba bb
  go_wp2_with fail
  refine (texts_any A2 c2 a.re B2 d2 a.re _ (H2.out.on HB.out) (H4.out.on HB.out) rfl HZ.out.2.1).mono ?_
  rintro e w1 ⟨rfl, n2, rfl⟩
  go_wp2_with fail
  go_ret
  exact ⟨rfl, HB.out.trans (below_drewN' w.heap.size _ n2)⟩
theorem same_at (a : St) (va vb : Value) (W : World) (d : Nat) (os : Array Obj) (hva : StV W W.heap.size va a) (hvb : StV W W.heap.size vb a) (hz : SzSt a) :
    Calls Tryd.prog 19 #[va, vb] (grow (redrawn W d) os) fun e w' => e = .returned (.bool true) ∧ ∃ p : Regrown, w' = grow (redrawn W p.d) p.os :=
  Calls.regrown_of (same_any a a va vb _ (hva.on (below_regrown W d os)) (hvb.on (below_regrown W d os)) rfl hz)
set_option maxHeartbeats 2000000 in
theorem list_any (A : Option Addr) (c : Nat) (l : List St) (A2 : Option Addr) (c2 : Nat) (m : List St) (w : World) (hl : StsAt w w.heap.size A l) (hm : StsAt w w.heap.size A2 m) (he : l = m) (hz : SzL l) :
    Calls Tryd.prog 22 #[.slice A l.length c, .slice A2 m.length c2] w fun e w' => e = .returned (.bool true) ∧ Below w.heap.size w w' := by
  subst he
  have HL := Lib.hid hl
  have HM := Lib.hid hm
  have HZ := Lib.hid hz
  have hn := hz.1
  clear hl hm hz
  go_enter Tryd.func22, Tryd.ntmps22
  go_wp2_with fail
  go_loopw [5, 13] (fun _ i wr => (∃ k : Nat, k ≤ l.length ∧ i = .int .i64 k) ∧ Below w.heap.size w wr) (fun _ i _ => l.length - (intOf i).toNat)
  case atStart => exact ⟨⟨0, Nat.zero_le _, rfl⟩, Below.refl _ _⟩
  case round =>
    obtain ⟨⟨k, hk, rfl⟩, hbr⟩ := hrel
    have HB := Lib.hid hbr
    have hzr : w.heap.size ≤ wr.heap.size := hbr.size
    clear hbr
    by_cases hlt : k < l.length
    · obtain ⟨t, ht⟩ : ∃ t, l[k]? = some t := ⟨_, List.getElem?_eq_getElem hlt⟩
      obtain ⟨b, o, P, cp, P2, cp2, rfl, -, c0, c1, c2, hv⟩ := (HL.out.keep HB.out).cells ht
      obtain ⟨b', o', P', cp', P2', cp2', rfl, -, c0', c1', c2', hv'⟩ := (HM.out.keep HB.out).cells ht
      have HV := Lib.hid (hv.more hzr)
      have HV' := Lib.hid (hv'.more hzr)
      have HT := Lib.hid (HZ.out.2 t (List.mem_of_getElem? ht))
      have hki : (k : Int) < l.length := by omega
      have hk0 : (0 : Int) ≤ k := by omega
      have r0 := fun d os => cell_regrown c0 d os
      have r1 := fun d os => cell_regrown c1 d os
      have r2 := fun d os => cell_regrown c2 d os
      have r0' := fun d os => cell_regrown c0' d os
      have r1' := fun d os => cell_regrown c1' d os
      have r2' := fun d os => cell_regrown c2' d os
      clear ht hv hv'
      go_wp2_with fail
      refine wp_region_quiet_below (by kernel_rfl) (by kernel_rfl) ?_
      repeat (go_big_quiet_step ((go_at_call 19; go_must (exact same_at t _ _ _ _ _ HV.out HV'.out HT.out))))
      refine wpQuiet_nil ?_
      intro _ hw'
      obtain ⟨⟨dq, osq⟩, hw''⟩ := hw'
      subst hw''
      have hb := below_regrown wr dq osq
      have HB1 := Lib.hid (HB.out.trans (hb.mono hzr))
      clear hb r0 r1 r2 c0 c1 c2 r0' r1' r2' c0' c1' c2'
      go_wp2_with fail
      go_roundw
      case rel => exact ⟨⟨k + 1, by omega, by go_num⟩, HB1.out⟩
      case measure => simp [intOf]; omega
    · obtain rfl : k = l.length := by omega
      go_wp2_with fail
      go_ret
      exact ⟨rfl, HB.out⟩
end Go.Proofs.YtcmlgiilifdnfaaDoor
