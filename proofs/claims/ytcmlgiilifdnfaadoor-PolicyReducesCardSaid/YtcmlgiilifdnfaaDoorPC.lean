/- The walks of Matches and Covers, and of the reference's tests. -/
import Derived.Test.YtcmlgiilifdnfaaDoorPB
namespace Go.Proofs.YtcmlgiilifdnfaaDoor
open Go.RowKit
open Go.Sort (grow)

theorem mW_no {p s : List UInt8} (h : patW p = false) : false = mW p s := by unfold mW; rw [h]; rfl
theorem mW_open {p s : List UInt8} (h : patW p = true) (ho : opn p = true) : (pre p).isPrefixOf s = mW p s := by unfold mW; rw [h, ho]; rfl
theorem mW_eq {p s : List UInt8} (h : patW p = true) (ho : opn p = false) : (p == s) = mW p s := by unfold mW; rw [h, ho]; rfl
theorem str_eq (a b : ByteArray) : (a.toList == b.toList) = (a.data.toList == b.data.toList) := by rw [Lib.toList_data, Lib.toList_data]
set_option maxHeartbeats 1000000 in
theorem Matches_any (p s : ByteArray) (w : World) (hp : p.size ≤ 9223372036854775807) (hs : s.size ≤ 9223372036854775807) :
    Calls Tryd.prog 46 #[.string p, .string s] w fun e w' => e = .returned (.bool (mW p.data.toList s.data.toList)) ∧ Below w.heap.size w w' := by
  have HP := Lib.hid hp
  have HS := Lib.hid hs
  obtain ⟨b, hst⟩ : ∃ b, (p.toList == s.toList) = b := ⟨_, rfl⟩
  have HST := Lib.hid (hst.symm.trans (str_eq p s))
  clear hp hs
  go_enter Tryd.func46, Tryd.ntmps46
  go_wp2_with fail
  refine (Pattern_any p w HP.out).mono ?_
  rintro e w1 ⟨rfl, hb⟩
  have HB := Lib.hid hb
  clear hb
  cases h1 : patW p.data.toList
  · have HD := Lib.hid (mW_no (s := s.data.toList) h1)
    clear h1
    go_wp2_with fail
    go_ret
    exact ⟨ret_bool HD.out, HB.out⟩
  · have H1 := Lib.hid h1
    clear h1
    go_wp2_with fail
    refine (open_any p w1 HP.out).mono ?_
    rintro e wq ⟨rfl, rfl⟩
    cases h2 : opn p.data.toList
    · have HD := Lib.hid (HST.out.trans (mW_eq (s := s.data.toList) H1.out h2))
      clear h2
      go_wp2_with fail
      go_ret
      exact ⟨ret_bool HD.out, HB.out⟩
    · have HD := Lib.hid (mW_open (s := s.data.toList) H1.out h2)
      clear h2
      go_wp2_with fail
      refine (prefix_any p w1 HP.out).mono ?_
      rintro e wq ⟨rfl, rfl⟩
      go_wp2_with fail
      refine (Tryd.strings_HasPrefix s (preS p) w1).mono ?_
      rintro e wq ⟨rfl, hq⟩
      obtain rfl := hq.symm
      go_wp2_with fail
      go_ret
      exact ⟨ret_bool HD.out, HB.out⟩
theorem cW_1 {p q : List UInt8} (h : patW p = false) : false = cW p q := by unfold cW; rw [h]; rfl
theorem cW_2 {p q : List UInt8} (h : patW q = false) : false = cW p q := by unfold cW; rw [h]; simp
theorem cW_3 {p q : List UInt8} (h : opn q = true) (h2 : opn p = false) : false = cW p q := by unfold cW; rw [h, h2]; simp
theorem cW_4 {p q : List UInt8} (h : patW p = true) (h2 : patW q = true) (h3 : opn q = false ∨ opn p = true) : mW p (pre q) = cW p q := by
  unfold cW; rw [h, h2]
  rcases h3 with h3 | h3 <;> rw [h3] <;> simp
set_option maxHeartbeats 1000000 in
theorem Covers_p (p q : ByteArray) (w : World) (hp : p.size ≤ 9223372036854775807) (hq : q.size ≤ 9223372036854775807) :
    Calls Tryd.prog 58 #[.string p, .string q] w fun e w' => e = .returned (.bool (cW p.data.toList q.data.toList)) ∧ Below w.heap.size w w' := by
  have HP := Lib.hid hp
  have HS := Lib.hid hq
  clear hp hq
  go_enter Tryd.func58, Tryd.ntmps58
  go_wp2_with fail
  refine (Pattern_any p w HP.out).mono ?_
  rintro e w1 ⟨rfl, hb⟩
  have HB := Lib.hid hb
  clear hb
  cases h1 : patW p.data.toList
  · have HD := Lib.hid (cW_1 (q := q.data.toList) h1)
    clear h1
    go_wp2_with fail
    go_ret
    exact ⟨ret_bool HD.out, HB.out⟩
  · have H1 := Lib.hid h1
    clear h1
    go_wp2_with fail
    refine (Pattern_any q w1 HS.out).mono ?_
    rintro e w2 ⟨rfl, hb⟩
    have HB2 := Lib.hid (HB.out.trans (hb.mono HB.out.size))
    clear hb
    cases h2 : patW q.data.toList
    · have HD := Lib.hid (cW_2 (p := p.data.toList) h2)
      clear h2
      go_wp2_with fail
      go_ret
      exact ⟨ret_bool HD.out, HB2.out⟩
    · have H2 := Lib.hid h2
      clear h2
      go_wp2_with fail
      refine (open_any q w2 HS.out).mono ?_
      rintro e wq ⟨rfl, rfl⟩
      cases h3 : opn q.data.toList
      · have HD := Lib.hid (cW_4 H1.out H2.out (.inl h3))
        clear h3
        go_wp2_with fail
        refine (prefix_any q w2 HS.out).mono ?_
        rintro e wq ⟨rfl, rfl⟩
        go_wp2_with fail
        refine (Matches_any p (preS q) w2 HP.out (by have := preS_size q; have := HS.out; omega)).mono ?_
        rintro e w3 ⟨rfl, hb⟩
        have HB3 := Lib.hid (HB2.out.trans (hb.mono HB2.out.size))
        clear hb
        rw [preS_data]
        go_wp2_with fail
        go_ret
        exact ⟨ret_bool HD.out, HB3.out⟩
      · have H3 := Lib.hid h3
        clear h3
        go_wp2_with fail
        refine (open_any p w2 HP.out).mono ?_
        rintro e wq ⟨rfl, rfl⟩
        cases h4 : opn p.data.toList
        · have HD := Lib.hid (cW_3 H3.out h4)
          clear h4
          go_wp2_with fail
          go_ret
          exact ⟨ret_bool HD.out, HB2.out⟩
        · have HD := Lib.hid (cW_4 H1.out H2.out (.inr h4))
          clear h4
          go_wp2_with fail
          refine (prefix_any q w2 HS.out).mono ?_
          rintro e wq ⟨rfl, rfl⟩
          go_wp2_with fail
          refine (Matches_any p (preS q) w2 HP.out (by have := preS_size q; have := HS.out; omega)).mono ?_
          rintro e w3 ⟨rfl, hb⟩
          have HB3 := Lib.hid (HB2.out.trans (hb.mono HB2.out.size))
          clear hb
          rw [preS_data]
          go_wp2_with fail
          go_ret
          exact ⟨ret_bool HD.out, HB3.out⟩
/-! ### the reference -/
theorem last_at {s : ByteArray} {k : Nat} (hk : k + 1 = s.size) : s.data.toList.getLast? = some (s[k]'(by omega)) := by
  rw [List.getLast?_eq_getElem?, size_len, show s.size - 1 = k by omega, byte_at s k (by omega)]
theorem opn_at {s : ByteArray} {k : Nat} (hk : k + 1 = s.size) : opn s.data.toList = ((s[k]'(by omega)) == 42) := by unfold opn; rw [last_at hk]; rfl
theorem rpat_no {l : List UInt8} (h : ¬ (1 ≤ l.length ∧ l.length ≤ 64)) : false = rpatW l := by unfold rpatW; rw [decide_eq_false h]; simp
theorem rpat_bad {s : ByteArray} {k : Nat} (hk : k + 1 < s.size) (h : letB ((s[k]'(by omega)).toNat : Int) = false) : false = rpatW s.data.toList := by
  unfold rpatW
  have : allL s.data.toList.dropLast = false := by
    unfold allL
    rw [List.all_eq_false]
    refine ⟨s[k]'(by omega), ?_, by simp [h]⟩
    have h2 : s.data.toList.dropLast[k]? = some (s[k]'(by omega)) := by
      rw [List.dropLast_eq_take, List.getElem?_take_of_lt (by rw [size_len]; omega), byte_at s k (by omega)]
    exact List.mem_of_getElem? h2
  rw [this]; simp
theorem rpat_end {s : ByteArray} {k : Nat} (hk : k + 1 = s.size) (h64 : s.size ≤ 64) (ha : allL (s.data.toList.take k) = true) :
    (letB ((s[k]'(by omega)).toNat : Int) || ((s[k]'(by omega)) == 42)) = rpatW s.data.toList := by
  unfold rpatW
  rw [last_at hk, decide_eq_true (by rw [size_len]; omega), List.dropLast_eq_take, size_len, show s.size - 1 = k by omega, ha]
  rfl
theorem allL_take (s : ByteArray) (k : Nat) (h : k < s.size) (ha : allL (s.data.toList.take k) = true) (hb : letB s[k].toNat = true) : allL (s.data.toList.take (k + 1)) = true := by
  rw [allL_step s k h, ha, hb]; rfl
theorem u8_eq (c : UInt8) : ((c.toNat : Int) == 42) = (c == 42) := by
  rw [Bool.eq_iff_iff, beq_iff_eq, beq_iff_eq]
  constructor
  · intro h; apply UInt8.toNat_inj.1; show c.toNat = 42; omega
  · rintro rfl; rfl
set_option maxHeartbeats 1000000 in
theorem rPattern_any (s : ByteArray) (w : World) (hs : s.size ≤ 9223372036854775807) : Calls Tryd.prog 55 #[.string s] w fun e w' => e = .returned (.bool (patW s.data.toList)) ∧ w = w' := by
  rw [pat_eq]
  by_cases h2 : 1 ≤ s.size ∧ s.size ≤ 64
  · obtain ⟨h3, h4⟩ := h2
    have h5 : decide (64 < (s.size : Int)) = false := decide_eq_false (by omega)
    obtain ⟨n, hn⟩ : ∃ n, n + 1 = s.size := ⟨s.size - 1, by omega⟩
    have hni : (s.size : Int) - 1 = (n : Int) := by omega
    have H4 := Lib.hid h4
    have HN := Lib.hid hn
    go_enter Tryd.func55, Tryd.ntmps55
    go_wp2_with fail
    all_goals try (exfalso; omega)
    go_loop [3] (fun i => ∃ k : Nat, k ≤ n ∧ i = .int .i64 k ∧ allL (s.data.toList.take k) = true) (fun i => n - (intOf i).toNat)
    case atStart => exact ⟨0, Nat.zero_le _, rfl, rfl⟩
    case round =>
      obtain ⟨k, hk, rfl, hall⟩ := hrel
      have HL := Lib.hid hall
      clear hall
      by_cases hp : k < n
      · have hks : k < s.size := by omega
        have HX := Lib.hid (And.intro (fun (h : letB (s[k].toNat : Int) = false) => rpat_bad (s := s) (k := k) (by omega) h) (fun (h : letB (s[k].toNat : Int) = true) => allL_take s k hks HL.out h))
        go_wp2_with fail
        refine (part_any _ _).mono ?_
        rintro e w1 ⟨rfl, rfl⟩
        cases hlb : letB (s[k].toNat : Int)
        · have HD := Lib.hid (HX.out.1 hlb)
          clear hlb
          go_wp2_with fail
          go_ret
          exact ⟨ret_bool HD.out, rfl⟩
        · have HD := Lib.hid (HX.out.2 hlb)
          clear hlb
          go_wp2_with fail
          go_round
          case rel => exact ⟨k + 1, by omega, by go_num, HD.out⟩
          case measure => simp [intOf]; omega
      · obtain rfl : k = n := by omega
        have HE := Lib.hid (rpat_end HN.out H4.out HL.out)
        have hks : k < s.size := by omega
        have hu := u8_eq s[k]
        go_wp2_with fail
        refine (part_any _ _).mono ?_
        rintro e w1 ⟨rfl, rfl⟩
        cases hlb : letB (s[k].toNat : Int)
        · have HD := Lib.hid (show (s[k] == 42) = rpatW s.data.toList by have := HE.out; rw [hlb] at this; simpa using this)
          clear hlb
          go_wp2_with fail
          go_ret
          exact ⟨ret_bool HD.out, rfl⟩
        · have HD := Lib.hid (show true = rpatW s.data.toList by have := HE.out; rw [hlb] at this; simpa using this)
          clear hlb
          go_wp2_with fail
          go_ret
          exact ⟨ret_bool HD.out, rfl⟩
  · have HD := Lib.hid (rpat_no (l := s.data.toList) (by rw [size_len]; exact h2))
    rcases Nat.lt_or_ge s.size 1 with h3 | h3
    · go_enter Tryd.func55, Tryd.ntmps55
      go_wp2_with fail
      all_goals try (exfalso; omega)
      go_ret
      exact ⟨ret_bool HD.out, rfl⟩
    · have h5 : decide (64 < (s.size : Int)) = true := decide_eq_true (by omega)
      clear h2
      go_enter Tryd.func55, Tryd.ntmps55
      go_wp2_with fail
      all_goals try (exfalso; omega)
      go_ret
      exact ⟨ret_bool HD.out, rfl⟩
theorem rOpen_any (s : ByteArray) (w : World) (h1 : 1 ≤ s.size) (hs : s.size ≤ 9223372036854775807) : Calls Tryd.prog 71 #[.string s] w fun e w' => e = .returned (.bool (opn s.data.toList)) ∧ w = w' := by
  obtain ⟨n, hn⟩ : ∃ n, n + 1 = s.size := ⟨s.size - 1, by omega⟩
  have hni : (s.size : Int) - 1 = (n : Int) := by omega
  have hns : n < s.size := by omega
  have HD := Lib.hid (opn_at hn)
  have hu := u8_eq s[n]
  go_enter Tryd.func71, Tryd.ntmps71
  go_wp2_with fail
  go_ret
  exact ⟨ret_bool HD.out.symm, rfl⟩
theorem isPre_eq (p s : List UInt8) : p.isPrefixOf s = (decide (p.length ≤ s.length) && (s.take p.length == p)) := by
  rw [Bool.eq_iff_iff, List.isPrefixOf_iff_prefix, Bool.and_eq_true, decide_eq_true_iff, beq_iff_eq, List.prefix_iff_eq_take]
  constructor
  · intro h; exact ⟨by have := congrArg List.length h; rw [List.length_take] at this; omega, h.symm⟩
  · intro h; exact h.2.symm
theorem beg_no {s p : ByteArray} (h : s.size < p.size) : false = p.data.toList.isPrefixOf s.data.toList := by
  rw [isPre_eq, decide_eq_false (by rw [size_len, size_len]; omega)]; rfl
theorem beg_yes {s p : ByteArray} (h : p.size ≤ s.size) : ((s.extract 0 p.size).toList == p.toList) = p.data.toList.isPrefixOf s.data.toList := by
  rw [isPre_eq, decide_eq_true (by rw [size_len, size_len]; omega), str_eq, ext_take, size_len]; simp
theorem begins_any (s p : ByteArray) (w : World) (_hs : s.size ≤ 9223372036854775807) (_hp : p.size ≤ 9223372036854775807) :
    Calls Tryd.prog 72 #[.string s, .string p] w fun e w' => e = .returned (.bool (p.data.toList.isPrefixOf s.data.toList)) ∧ w = w' := by
  by_cases h : p.size ≤ s.size
  · have hd : decide (p.size ≤ s.size) = true := decide_eq_true h
    obtain ⟨b, hst⟩ : ∃ b, ((s.extract 0 p.size).toList == p.toList) = b := ⟨_, rfl⟩
    have HE := Lib.hid (hst.symm.trans (beg_yes h))
    go_enter Tryd.func72, Tryd.ntmps72
    go_wp2_with fail
    go_ret
    exact ⟨ret_bool HE.out, rfl⟩
  · have hd : decide (p.size ≤ s.size) = false := decide_eq_false h
    have HE := Lib.hid (beg_no (s := s) (p := p) (by omega))
    go_enter Tryd.func72, Tryd.ntmps72
    go_wp2_with fail
    go_ret
    exact ⟨ret_bool HE.out, rfl⟩
theorem ext_pre {s : ByteArray} {n : Nat} (hn : n + 1 = s.size) (ho : opn s.data.toList = true) : (s.extract 0 n).data.toList = pre s.data.toList := by
  rw [ext_take]; unfold pre; rw [ho, if_pos rfl, List.dropLast_eq_take, size_len, show s.size - 1 = n by omega]; simp
theorem beq_swap (a b : List UInt8) : (a == b) = (b == a) := by
  rw [Bool.eq_iff_iff, beq_iff_eq, beq_iff_eq]; exact ⟨fun h => h.symm, fun h => h.symm⟩
set_option maxHeartbeats 1000000 in
theorem rMatches_any (p s : ByteArray) (w : World) (hp : p.size ≤ 9223372036854775807) (hs : s.size ≤ 9223372036854775807) :
    Calls Tryd.prog 60 #[.string p, .string s] w fun e w' => e = .returned (.bool (mW p.data.toList s.data.toList)) ∧ w = w' := by
  have HP := Lib.hid hp
  have HS := Lib.hid hs
  obtain ⟨b, hst⟩ : ∃ b, (s.toList == p.toList) = b := ⟨_, rfl⟩
  have HST := Lib.hid (hst.symm.trans ((str_eq s p).trans (beq_swap _ _)))
  clear hp hs
  go_enter Tryd.func60, Tryd.ntmps60
  go_wp2_with fail
  refine (rPattern_any p w HP.out).mono ?_
  rintro e wq ⟨rfl, rfl⟩
  cases h1 : patW p.data.toList
  · have HD := Lib.hid (mW_no (s := s.data.toList) h1)
    clear h1
    go_wp2_with fail
    go_ret
    exact ⟨ret_bool HD.out, rfl⟩
  · have H1 := Lib.hid h1
    have h1s := (pat_nonempty h1).1
    rw [size_len] at h1s
    have H0 := Lib.hid h1s
    clear h1 h1s
    go_wp2_with fail
    refine (rOpen_any p w H0.out HP.out).mono ?_
    rintro e wq ⟨rfl, rfl⟩
    cases h2 : opn p.data.toList
    · have HD := Lib.hid (HST.out.trans (mW_eq (s := s.data.toList) H1.out h2))
      clear h2
      go_wp2_with fail
      go_ret
      exact ⟨ret_bool HD.out, rfl⟩
    · obtain ⟨n, hn⟩ : ∃ n, n + 1 = p.size := ⟨p.size - 1, by have := H0.out; omega⟩
      have hni : (p.size : Int) - 1 = (n : Int) := by omega
      have hn2 : (n : Int) ≤ p.size := by omega
      have hn3 : (n : Int) ≤ 9223372036854775807 := by have := HP.out; omega
      have HX := Lib.hid (ext_pre hn h2)
      have HD := Lib.hid (mW_open (s := s.data.toList) H1.out h2)
      have hzz : (p.extract 0 n).size ≤ 9223372036854775807 := by have := HP.out; simp; omega
      have HZ := Lib.hid hzz
      clear h2 hzz hn
      go_wp2_with fail
      refine (begins_any s (p.extract 0 n) w HS.out HZ.out).mono ?_
      rintro e wq ⟨rfl, rfl⟩
      rw [HX.out]
      go_wp2_with fail
      go_ret
      exact ⟨ret_bool HD.out, rfl⟩
theorem rcW_1 {p q : List UInt8} (h : patW p = false) : false = cW p q := cW_1 h
theorem rcW_4 {p q : List UInt8} (h : patW p = true) (h2 : patW q = true) (h3 : opn q = false) : mW p q = cW p q := by rw [cW_eq]; unfold rcW; rw [h, h2, h3]; rfl
theorem rcW_5 {p q : List UInt8} (h : patW p = true) (h2 : patW q = true) (h3 : opn q = true) (h4 : opn p = true) : (pre p).isPrefixOf (pre q) = cW p q := by rw [cW_eq]; unfold rcW; rw [h, h2, h3, h4]; rfl
theorem rOpen_g (s : ByteArray) (h1 : 1 ≤ s.size) (hs : s.size ≤ 9223372036854775807) (W : World) : Calls Tryd.prog 71 #[.string s] W fun e w' => e = .returned (.bool (opn s.data.toList)) ∧ w' = W :=
  (rOpen_any s W h1 hs).mono fun _ _ ⟨h, h2⟩ => ⟨h, h2.symm⟩
theorem begins_g (s p : ByteArray) (hs : s.size ≤ 9223372036854775807) (hp : p.size ≤ 9223372036854775807) (W : World) :
    Calls Tryd.prog 72 #[.string s, .string p] W fun e w' => e = .returned (.bool (p.data.toList.isPrefixOf s.data.toList)) ∧ w' = W :=
  (begins_any s p W hs hp).mono fun _ _ ⟨h, h2⟩ => ⟨h, h2.symm⟩
set_option maxHeartbeats 2000000 in
theorem rCovers_p (p q : ByteArray) (w : World) (hp : p.size ≤ 9223372036854775807) (hq : q.size ≤ 9223372036854775807) :
    Calls Tryd.prog 59 #[.string p, .string q] w fun e w' => e = .returned (.bool (cW p.data.toList q.data.toList)) ∧ Below w.heap.size w w' := by
  have HP := Lib.hid hp
  have HS := Lib.hid hq
  clear hp hq
  go_enter Tryd.func59, Tryd.ntmps59
  go_wp2_with fail
  refine (rPattern_any p w HP.out).mono ?_
  rintro e wq ⟨rfl, rfl⟩
  cases h1 : patW p.data.toList
  · have HD := Lib.hid (cW_1 (q := q.data.toList) h1)
    clear h1
    go_wp2_with fail
    go_ret
    exact ⟨ret_bool HD.out, Below.refl _ _⟩
  · have H1 := Lib.hid h1
    have h1s := (pat_nonempty h1).1
    rw [size_len] at h1s
    have HP1 := Lib.hid h1s
    clear h1 h1s
    go_wp2_with fail
    refine (rPattern_any q w HS.out).mono ?_
    rintro e wq ⟨rfl, rfl⟩
    cases h2 : patW q.data.toList
    · have HD := Lib.hid (cW_2 (p := p.data.toList) h2)
      clear h2
      go_wp2_with fail
      go_ret
      exact ⟨ret_bool HD.out, Below.refl _ _⟩
    · have H2 := Lib.hid h2
      have h2s := (pat_nonempty h2).1
      rw [size_len] at h2s
      have HS1 := Lib.hid h2s
      clear h2 h2s
      go_wp2_with fail
      refine (rOpen_any q w HS1.out HS.out).mono ?_
      rintro e wq ⟨rfl, rfl⟩
      cases h3 : opn q.data.toList
      · have HD := Lib.hid (rcW_4 H1.out H2.out h3)
        clear h3
        go_wp2_with fail
        refine (rMatches_any p q w HP.out HS.out).mono ?_
        rintro e wq ⟨rfl, rfl⟩
        go_wp2_with fail
        go_ret
        exact ⟨ret_bool HD.out, Below.refl _ _⟩
      · have H3 := Lib.hid h3
        obtain ⟨n, hn⟩ : ∃ n, n + 1 = q.size := ⟨q.size - 1, by have := HS1.out; omega⟩
        have hni : (q.size : Int) - 1 = (n : Int) := by omega
        have hn2 : (n : Int) ≤ q.size := by omega
        have hn3 : (n : Int) ≤ 9223372036854775807 := by have := HS.out; omega
        have HXQ := Lib.hid (ext_pre hn h3)
        obtain ⟨k, hk⟩ : ∃ n, n + 1 = p.size := ⟨p.size - 1, by have := HP1.out; omega⟩
        have hki : (p.size : Int) - 1 = (k : Int) := by omega
        have hk2 : (k : Int) ≤ p.size := by omega
        have hk3 : (k : Int) ≤ 9223372036854775807 := by have := HP.out; omega
        have HZQ := Lib.hid (show (q.extract 0 n).size ≤ 9223372036854775807 by have := HS.out; simp; omega)
        have HZP := Lib.hid (show (p.extract 0 k).size ≤ 9223372036854775807 by have := HP.out; simp; omega)
        cases h4 : opn p.data.toList
        · have HD := Lib.hid (cW_3 H3.out h4)
          have HO := Lib.hid (fun W => show Calls Tryd.prog 71 #[.string p] W fun e w' => e = .returned (.bool false) ∧ w' = W by have := rOpen_g p HP1.out HP.out W; rw [h4] at this; exact this)
          clear h3 h4 hn hk
          go_wp2_with fail
          go_quiet ((go_at_call 71; exact Calls.quiet_of_same (HO.out _)))
          go_wp2_with fail
          go_ret
          exact ⟨ret_bool HD.out, below_drewN' _ _ _⟩
        · have HD := Lib.hid (rcW_5 H1.out H2.out H3.out h4)
          have HO := Lib.hid (fun W => show Calls Tryd.prog 71 #[.string p] W fun e w' => e = .returned (.bool true) ∧ w' = W by have := rOpen_g p HP1.out HP.out W; rw [h4] at this; exact this)
          have HXP := Lib.hid (ext_pre hk h4)
          have HBG := Lib.hid (fun W => show Calls Tryd.prog 72 #[.string (q.extract 0 n), .string (p.extract 0 k)] W fun e w' => e = .returned (.bool (cW p.data.toList q.data.toList)) ∧ w' = W by
            have := begins_g (q.extract 0 n) (p.extract 0 k) HZQ.out HZP.out W
            rw [HXP.out, HXQ.out, HD.out] at this; exact this)
          clear h3 h4 hn hk
          go_wp2_with fail
          go_quiet ((first | (go_at_call 71; exact Calls.quiet_of_same (HO.out _)) | (go_at_call 72; exact Calls.quiet_of_same (HBG.out _))))
          go_wp2_with fail
          go_ret
          exact ⟨rfl, below_drewN' _ _ _⟩
end Go.Proofs.YtcmlgiilifdnfaaDoor
