/- slices.stableCmpFunc, SortStableFunc at []int. -/
import Derived.Test.YtjjmdgiaohmjkaaDoorSD
namespace Go.Proofs.YtjjmdgiaohmjkaaDoor
open Go.RowKit Go.Sort

section
variable {α : Type} [Inhabited α] {enc : α → Value} {cf : α → α → Int} {R : α → α → Prop} {w0 w : World} {blk off cap g : Nat} {cb : Array Value} {d0 d : Array α}

theorem perm_dvd_add {c a : Nat} (h : c ∣ a) : c ∣ a + c := Nat.dvd_add h (Nat.dvd_refl c)
/-- What a stable sort leaves. -/
def StPost (enc : α → Value) (R : α → α → Prop) (w0 : World) (blk off : Nat) (d : Array α) (e : Ending) (w' : World) : Prop := e = .returned (.tuple #[]) ∧ ∃ d', SW enc w0 blk off d' w' ∧ PermIn 0 d.size d d' ∧ Srt R 0 d.size d'
set_option maxHeartbeats 16000000 in
set_option maxRecDepth 100000 in
theorem stable_s (eg : ∀ args w, (callFunc g args).run Tryd.prog w = .ok (.enter g args) w) (hcmp : CmpLays1 Tryd.prog g cb enc cf blk off d0.size w0) (R1 : Row1 enc w0 blk off d0) (hR : Before R) (hs : d0.size = d.size) (S : SW enc w0 blk off d w) (hsz : d.size < 1099511627776) (hcr : ∀ i j, i < j → j < d.size → Crs R (ltOf cf) d[i]! d[j]!) :
    Calls Tryd.prog 67 #[.slice (some ⟨blk, off, none⟩) d.size cap, .int .i64 d.size, .func (.func g) #[] cb] w (StPost enc R w0 blk off d) := by
  have HC := Lib.hid hcmp
  have S0 := Lib.hid S
  have HR := Lib.hid R1
  have HCR := Lib.hid hcr
  clear S R1 hcmp hcr
  go_enter Tryd.func67, Tryd.ntmps67
  go_upto_block 0 with fail
  obtain ⟨n, hn⟩ : ∃ q, q = d.size := ⟨_, rfl⟩
  rw [← hn] at hs hsz HCR ⊢
  have HN := Lib.hid hn
  clear hn
  go_cut [7] from 10 (fun v7 wx => ∃ (a : Nat) (dk : Array α), v7 = .int .i64 a ∧ a ≤ n ∧ n ≤ a + 20 ∧ 20 ∣ a ∧ dk.size = n ∧ SW enc w0 blk off dk wx ∧ PermIn 0 n d dk ∧ Blocks R (ltOf cf) 20 1 a n dk)
  case first =>
    as_aux_lemma =>
      go_wp2_with fail
      go_loopw [7, 8] (fun vi vj wr => ∃ (a : Nat) (dk : Array α), vi = .int .i64 a ∧ vj = .int .i64 (a + 20 : Nat) ∧ a ≤ n ∧ 20 ∣ a ∧ dk.size = n ∧ SW enc w0 blk off dk wr ∧ PermIn 0 n d dk ∧ Blocks R (ltOf cf) 20 1 a n dk) (fun vi _ _ => n - (intOf vi).toNat)
      case atStart => exact ⟨0, d, (by first | rfl | go_num | (congr 1; omega)), (by first | rfl | go_num | (congr 1; omega)), Nat.zero_le _, Nat.dvd_zero _, HN.out.symm, S0.out, permIn_refl _ _ _, Blocks.start HCR.out⟩
      case round =>
        clear S0
        obtain ⟨a, dk, rfl, rfl, han, hdv, hsk, hS, hP, hB⟩ := hrel
        have S := Lib.hid hS
        have HP := Lib.hid hP
        have HB := Lib.hid hB
        clear hS hP hB
        by_cases hlt : a + 20 ≤ n
        · have hltz : (a : Int) + 20 ≤ (n : Int) := by omega
          have r1 : IntKind.i64.wrap ((a : Int) + 20 + 20) = (a : Int) + 20 + 20 := by rw [IntKind.wrap_i64]; omega
          go_wp2_with fail
          rw [show ((a : Int) + 20) = ((a + 20 : Nat) : Int) by omega, ← hsk]
          refine (ins_s (cap := cap) eg HC.out HR.out (by omega) S.out a (a + 20) (by omega) (by omega) (by omega)).mono ?_
          rintro er w1 ⟨rfl, hS1⟩
          have hins := HB.out.ins hR hdv (Nat.le_add_right a 20) (.inl rfl) hlt (by omega)
          have hP2 := permIn_trans _ _ _ _ _ HP.out hins.2.2
          go_wp2_with fail
          go_roundw
          case rel => first | exact ⟨a + 20, Go.Sort.insertionSort (ltOf cf) dk a (a + 20), (by first | rfl | go_num | (congr 1; omega)), (by first | rfl | go_num | (congr 1; omega)), hlt, perm_dvd_add hdv, hins.2.1.trans hsk, hS1, hP2, hins.1⟩ | ((repeat apply Exists.intro); exact ⟨⟨a + 20, Go.Sort.insertionSort (ltOf cf) dk a (a + 20), (by first | rfl | go_num | (congr 1; omega)), (by first | rfl | go_num | (congr 1; omega)), hlt, perm_dvd_add hdv, hins.2.1.trans hsk, hS1, hP2, hins.1⟩, rfl⟩)
          case measure => (simp [intOf] <;> omega)
        · have hltz : ¬ (a : Int) + 20 ≤ (n : Int) := by omega
          go_wp2_with fail
          go_meet
          exact ⟨a, dk, rfl, han, by omega, hdv, hsk, S.out, HP.out, HB.out⟩
  case rest =>
    obtain ⟨a, dk, rfl, han, hna, hdv, hsk, hS, hP, hB⟩ := hcut
    clear S0 HCR
    have hS' := Lib.hid hS
    have HP := Lib.hid hP
    have HB := Lib.hid hB
    clear hS hP hB
    go_upto_region 6 with fail
    go_wp2_with fail
    rw [← hsk]
    refine (ins_s (cap := cap) eg HC.out HR.out (by omega) hS'.out a dk.size (by omega) (by omega) (by omega)).mono ?_
    rw [hsk]
    rintro er w1 ⟨rfl, hS1⟩
    have hins := HB.out.ins hR hdv han (.inr ⟨rfl, hna⟩) (Nat.le_refl _) (by omega)
    have S1 := Lib.hid hS1
    have HB1 := Lib.hid hins.1
    have HP1 := Lib.hid (permIn_trans _ _ _ _ _ HP.out hins.2.2)
    have hs1 : (Go.Sort.insertionSort (ltOf cf) dk a n).size = n := hins.2.1.trans hsk
    obtain ⟨d1, hd1⟩ : ∃ q, q = Go.Sort.insertionSort (ltOf cf) dk a n := ⟨_, rfl⟩
    rw [← hd1] at S1 HB1 HP1 hs1
    clear hS' HP HB hins hS1 hd1 hsk hdv han hna
    go_wp2_with fail
    go_loopw [6, 7, 8, 9] (fun vb _ _ _ wr => ∃ (c b' : Nat) (dk : Array α), vb = .int .i64 c ∧ 0 < c ∧ c ≤ 20 + n + n ∧ dk.size = n ∧ SW enc w0 blk off dk wr ∧ PermIn 0 n d dk ∧ Blocks R (ltOf cf) c b' n n dk) (fun vb _ _ _ _ => n - (intOf vb).toNat)
    case atStart => exact ⟨20, 1, d1, rfl, by omega, by omega, hs1, S1.out, HP1.out, HB1.out⟩
    case round =>
      clear S1 HP1 HB1 hs1 d1
      obtain ⟨c, b', dk, rfl, hc0, hcn, hsk, hS, hP, hB⟩ := hrel
      have S := Lib.hid hS
      have HP := Lib.hid hP
      have HB := Lib.hid hB
      clear hS hP hB
      by_cases hlt : c < n
      · have hltz : (c : Int) < (n : Int) := by omega
        have r1 : IntKind.i64.wrap (2 * (c : Int)) = 2 * (c : Int) := by rw [IntKind.wrap_i64]; omega
        have r2 : IntKind.i64.wrap ((c : Int) * 2) = (c : Int) * 2 := by rw [IntKind.wrap_i64]; omega
        have HB2 := Lib.hid HB.out.next
        clear HB
        go_upto_block 4 with fail
        go_cut [7] from 28 to 62 (fun v7 wx => ∃ (a : Nat) (dk : Array α), v7 = .int .i64 a ∧ a ≤ n ∧ n < a + 2 * c ∧ (c + c) ∣ a ∧ dk.size = n ∧ SW enc w0 blk off dk wx ∧ PermIn 0 n d dk ∧ Blocks R (ltOf cf) (c + c) c a n dk)
        case first =>
          as_aux_lemma =>
            go_wp2_with fail
            go_loopw [7, 8] (fun vi vj wr => ∃ (a : Nat) (dk : Array α), vi = .int .i64 a ∧ vj = .int .i64 (a + 2 * c : Nat) ∧ a ≤ n ∧ (c + c) ∣ a ∧ dk.size = n ∧ SW enc w0 blk off dk wr ∧ PermIn 0 n d dk ∧ Blocks R (ltOf cf) (c + c) c a n dk) (fun vi _ _ => n - (intOf vi).toNat)
            case atStart => exact ⟨0, dk, (by first | rfl | go_num | (congr 1; omega)), (by first | rfl | go_num | (congr 1; omega)), Nat.zero_le _, Nat.dvd_zero _, hsk, S.out, HP.out, HB2.out⟩
            case round =>
              clear S HP HB2 hsk dk
              obtain ⟨a, dk, rfl, rfl, han, hdv, hsk, hS, hP, hB⟩ := hrel
              have S := Lib.hid hS
              have HP := Lib.hid hP
              have HB := Lib.hid hB
              clear hS hP hB
              have hdc : c ∣ a := Nat.dvd_trans ⟨2, by omega⟩ hdv
              by_cases hlt2 : a + 2 * c ≤ n
              · have hltz2 : (a : Int) + 2 * (c : Int) ≤ (n : Int) := by omega
                have r3 : IntKind.i64.wrap ((a : Int) + (c : Int)) = (a : Int) + (c : Int) := by rw [IntKind.wrap_i64]; omega
                have r4 : IntKind.i64.wrap ((a : Int) + 2 * (c : Int) + 2 * (c : Int)) = (a : Int) + 2 * (c : Int) + 2 * (c : Int) := by rw [IntKind.wrap_i64]; omega
                go_wp2_with fail
                rw [show ((a : Int) + 2 * (c : Int)) = ((a + 2 * c : Nat) : Int) by omega, show ((a : Int) + (c : Int)) = ((a + c : Nat) : Int) by omega, ← hsk]
                refine (sym_any (cap := cap) (R := R) eg HC.out HR.out hR (by omega) n a (a + c) (a + 2 * c) dk _ (by omega) (by omega) S.out (by omega) (by omega) (by omega) (HB.out.pre hdc (by omega) (by omega) hlt2)).mono ?_
                rw [hsk]
                rintro er w1 ⟨rfl, d2, hS2, hM⟩
                have hP2 := permIn_trans _ _ _ _ _ HP.out (permIn_mono _ _ _ _ _ _ (Nat.zero_le _) hlt2 (by omega) hM.perm)
                have hB2 := HB.out.step hdv (by omega) (.inl (show a + 2 * c = a + (c + c) by omega)) hlt2 (by omega) hM
                have hs2 : d2.size = n := hM.perm.1.trans hsk
                go_wp2_with fail
                go_roundw
                case rel => first | exact ⟨a + 2 * c, d2, (by first | rfl | go_num | (congr 1; omega)), (by first | rfl | go_num | (congr 1; omega)), hlt2, by rw [show a + 2 * c = a + (c + c) by omega]; exact perm_dvd_add hdv, hs2, hS2, hP2, hB2⟩ | ((repeat apply Exists.intro); exact ⟨⟨a + 2 * c, d2, (by first | rfl | go_num | (congr 1; omega)), (by first | rfl | go_num | (congr 1; omega)), hlt2, by rw [show a + 2 * c = a + (c + c) by omega]; exact perm_dvd_add hdv, hs2, hS2, hP2, hB2⟩, rfl⟩)
                case measure => (simp [intOf] <;> omega)
              · have hltz2 : ¬ (a : Int) + 2 * (c : Int) ≤ (n : Int) := by omega
                go_wp2_with fail
                go_meet
                exact ⟨a, dk, rfl, han, by omega, hdv, hsk, S.out, HP.out, HB.out⟩
        case rest =>
          as_aux_lemma =>
            clear S HP HB2 hsk dk
            obtain ⟨a, dk, rfl, han, hna, hdv, hsk, hS, hP, hB⟩ := hcut
            have S := Lib.hid hS
            have HP := Lib.hid hP
            have HB := Lib.hid hB
            clear hS hP hB
            have hdc : c ∣ a := Nat.dvd_trans ⟨2, by omega⟩ hdv
            have r3 : IntKind.i64.wrap ((a : Int) + (c : Int)) = (a : Int) + (c : Int) := by rw [IntKind.wrap_i64]; omega
            by_cases hlt2 : a + c < n
            · have hltz2 : (a : Int) + (c : Int) < (n : Int) := by omega
              go_wp2_with fail
              rw [show ((a : Int) + (c : Int)) = ((a + c : Nat) : Int) by omega, ← hsk]
              refine (sym_any (cap := cap) (R := R) eg HC.out HR.out hR (by omega) n a (a + c) dk.size dk _ (by omega) (by omega) S.out (by omega) (by omega) (by omega) (by rw [hsk]; exact HB.out.pre hdc (by omega) (by omega) (Nat.le_refl _))).mono ?_
              rw [hsk]
              rintro er w1 ⟨rfl, d2, hS2, hM⟩
              have hP2 := permIn_trans _ _ _ _ _ HP.out (permIn_mono _ _ _ _ _ _ (Nat.zero_le _) (Nat.le_refl _) (by omega) hM.perm)
              have hB2 := HB.out.step hdv han (.inr ⟨rfl, show n ≤ a + (c + c) by omega⟩) (Nat.le_refl _) (by omega) hM
              have hs2 : d2.size = n := hM.perm.1.trans hsk
              go_wp2_with fail
              go_roundw
              case rel => first | exact ⟨c + c, c, d2, (by first | rfl | go_num | (congr 1; omega)), by omega, by omega, hs2, hS2, hP2, hB2⟩ | ((repeat apply Exists.intro); exact ⟨⟨c + c, c, d2, (by first | rfl | go_num | (congr 1; omega)), by omega, by omega, hs2, hS2, hP2, hB2⟩, rfl⟩)
              case measure => (simp [intOf] <;> omega)
            · have hltz2 : ¬ (a : Int) + (c : Int) < (n : Int) := by omega
              have hB2 := HB.out.last hdv hdc (by omega) (by omega)
              go_wp2_with fail
              go_roundw
              case rel => first | exact ⟨c + c, c, dk, (by first | rfl | go_num | (congr 1; omega)), by omega, by omega, hsk, S.out, HP.out, hB2⟩ | ((repeat apply Exists.intro); exact ⟨⟨c + c, c, dk, (by first | rfl | go_num | (congr 1; omega)), by omega, by omega, hsk, S.out, HP.out, hB2⟩, rfl⟩)
              case measure => (simp [intOf] <;> omega)
      · have hltz : ¬ (c : Int) < (n : Int) := by omega
        go_wp2_with fail
        go_end0
        refine ⟨rfl, dk, S.out, ?_⟩
        rw [← HN.out]
        exact ⟨HP.out, HB.out.all (by omega)⟩
set_option maxHeartbeats 4000000 in
theorem sortStable_s (eg : ∀ args w, (callFunc g args).run Tryd.prog w = .ok (.enter g args) w) (hcmp : CmpLays1 Tryd.prog g cb enc cf blk off d0.size w0) (R1 : Row1 enc w0 blk off d0) (hR : Before R) (hs : d0.size = d.size) (S : SW enc w0 blk off d w) (hsz : d.size < 1099511627776) (hcr : ∀ i j, i < j → j < d.size → Crs R (ltOf cf) d[i]! d[j]!) :
    Calls Tryd.prog 49 #[.slice (some ⟨blk, off, none⟩) d.size cap, .func (.func g) #[] cb] w (StPost enc R w0 blk off d) := by
  go_enter Tryd.func49, Tryd.ntmps49
  go_wp2_with fail
  refine (stable_s (cap := cap) (cf := cf) eg hcmp R1 hR hs S hsz hcr).mono ?_
  rintro er w1 ⟨rfl, hp⟩
  go_wp2_with fail
  go_end0
  exact ⟨rfl, hp⟩
end
end Go.Proofs.YtjjmdgiaohmjkaaDoor
