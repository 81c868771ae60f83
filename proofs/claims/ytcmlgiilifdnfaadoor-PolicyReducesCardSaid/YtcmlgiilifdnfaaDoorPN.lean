/- The reference's split. -/
import Derived.Test.YtcmlgiilifdnfaaDoorPM
namespace Go.Proofs.YtcmlgiilifdnfaaDoor
open Go.RowKit
open Go.Sort (grow)

theorem ext_snoc {s : ByteArray} {n k : Nat} (hn : n ≤ k) (hk : k < s.size) : s.extract n k ++ s.extract k (k + 1) = s.extract n (k + 1) := by
  apply ba_ext
  rw [ByteArray.data_append, Array.toList_append, ext_take, ext_take, ext_take]
  have h1 : (s.data.toList.take (k + 1)).drop k = [s[k]] := by
    have hl : (s.data.toList.take k).length = k := by rw [List.length_take, size_len]; omega
    rw [take_snoc s k hk]
    rw [List.drop_append_of_le_length (by omega), List.drop_of_length_le (by omega)]; rfl
  rw [h1, take_snoc s k hk, List.drop_append_of_le_length (by rw [List.length_take, size_len]; omega)]
theorem ext_none (s : ByteArray) (k : Nat) : s.extract k k = ⟨#[]⟩ := by
  apply ba_ext
  rw [ext_take, List.drop_of_length_le (by rw [List.length_take]; omega)]
set_option maxHeartbeats 2000000 in
set_option maxRecDepth 20000 in
theorem split_own (c : UInt8) (s : ByteArray) (w : World) (hs : s.size ≤ 1048576) :
    Calls Tryd.prog 35 #[.string s, .int .u8 (c.toNat : Int)] w fun e w' => ∃ v, e = .returned v ∧ OwnS w' w.heap.size v (pcs c s) ∧ Below w.heap.size w w' := by
  obtain ⟨i0, ih, iz0, iz1, iz2⟩ := info_parts info_str
  go_enter Tryd.func35, Tryd.ntmps35
  go_wp2_with fail
  go_loopw [5, 6, 7] (fun v f i wr => ∃ (k n : Nat) (P : List ByteArray), i = .int .i64 k ∧ f = .string (s.extract n k) ∧ CutRel c s k n P ∧ OwnS wr w.heap.size v P ∧ Below w.heap.size w wr) (fun _ _ i _ => s.size - (intOf i).toNat)
  case atStart => exact ⟨0, 0, [], rfl, by rw [ext_none], CutRel.start c s, OwnS.nil _ _, Below.refl _ _⟩
  case round =>
    obtain ⟨k, n, P, rfl, rfl, hrel', hv, hbr⟩ := hrel
    obtain ⟨v, rfl⟩ : ∃ v : Value, v = u5 := ⟨_, rfl⟩
    have HR := Lib.hid hbr
    have HV := Lib.hid hv
    have hzr := hbr.size
    have HC := Lib.hid hrel'
    obtain ⟨hnk, hks, hpl, -⟩ := hrel'
    clear hbr hv
    have hes : (s.extract n k).size ≤ 1048576 := by rw [ByteArray.size_extract]; omega
    by_cases hlt : k < s.size
    · by_cases he : s[k] = c
      · have hbe : ((s[k].toNat : Int) == (c.toNat : Int)) = true := beq_iff_eq.2 (by rw [he])
        have HN := Lib.hid (HC.out.hit hlt he)
        clear he
        generalize hpp : s.extract n k = pp at *
        go_wp2_with (at_builtin; go_loud (refine wpList_append_own _ rfl (.tmp 19) (.tmp 21) 29 rfl w.heap.size 9 i0 (.string ⟨#[]⟩) 1 16 Tryd.underlying29 ih iz0 iz1 iz2 rfl (by decide) _ P.length (svals P) rfl (HV.out.alloc _) ⟨wr.heap.size, 0, none⟩ 1 1 [.string pp] rfl rfl (cells_new_at rfl) (by intro u hu; simp at hu; subst hu; rfl) (by simp only [maxLen]; omega) (by omega) (by simp; omega) ?_); intro v' wn hown1 hgr hiff; clear hiff; have HG := Lib.hid (And.intro hown1 hgr); clear hown1 hgr)
        have hlow : Below w.heap.size w wn := ((HR.out).alloc (by omega) _).grown HG.out.2 (by simp; omega) (fun q hq => (HV.out.lt q hq).1)
        have hown := HG.out.1
        have HF := Lib.hid (And.intro (OwnS.push hown) hlow)
        clear hlow hown HG
        go_wp2_with fail
        go_roundw
        case rel => exact ⟨k + 1, k + 1, P ++ [pp], by go_num, by rw [ext_none], HN.out, HF.out.1, HF.out.2⟩
        case measure => simp [intOf]; omega
      · have hbe : ((s[k].toNat : Int) == (c.toNat : Int)) = false := beq_eq_false_iff_ne.2 (fun e => he (UInt8.toNat_inj.1 (by omega)))
        have HN := Lib.hid (HC.out.miss hlt he)
        have HE := Lib.hid (ext_snoc hnk hlt)
        clear he
        go_wp2_with fail
        go_roundw
        case rel => exact ⟨k + 1, n, P, by go_num, by rw [← HE.out], HN.out, HV.out, HR.out⟩
        case measure => simp [intOf]; omega
    · obtain rfl : k = s.size := by omega
      have HN := Lib.hid HC.out.done
      generalize hpp : s.extract n s.size = pp at *
      go_wp2_with (at_builtin; go_loud (refine wpList_append_own _ rfl (.tmp 30) (.tmp 32) 29 rfl w.heap.size 9 i0 (.string ⟨#[]⟩) 1 16 Tryd.underlying29 ih iz0 iz1 iz2 rfl (by decide) _ P.length (svals P) rfl (HV.out.alloc _) ⟨wr.heap.size, 0, none⟩ 1 1 [.string pp] rfl rfl (cells_new_at rfl) (by intro u hu; simp at hu; subst hu; rfl) (by simp only [maxLen]; omega) (by omega) (by simp; omega) ?_); intro v' wn hown1 hgr hiff; clear hiff; have HG := Lib.hid (And.intro hown1 hgr); clear hown1 hgr)
      have hlow : Below w.heap.size w wn := ((HR.out).alloc (by omega) _).grown HG.out.2 (by simp; omega) (fun q hq => (HV.out.lt q hq).1)
      have hown := HG.out.1
      have HF := Lib.hid (And.intro (OwnS.push hown) hlow)
      clear hlow hown HG
      go_wp2_with fail
      go_ret
      exact ⟨_, rfl, by rw [← HN.out]; exact HF.out.1, HF.out.2⟩
/-- A split string: the slice that comes back. -/
def SplitAt (f : Nat) (args : ByteArray → Array Value) (c : UInt8) : Prop := ∀ (s : ByteArray) (w : World), s.size ≤ 1048576 → Calls Tryd.prog f (args s) w fun e w' =>
  (∃ A cap, e = .returned (.slice A (pcs c s).length cap) ∧ StrL w' w'.heap.size A (pcs c s) ∧ (pcs c s).length ≤ cap) ∧ Below w.heap.size w w'
theorem split_any (c : UInt8) (s : ByteArray) (w : World) (hs : s.size ≤ 1048576) :
    Calls Tryd.prog 35 #[.string s, .int .u8 (c.toNat : Int)] w fun e w' => (∃ A cap, e = .returned (.slice A (pcs c s).length cap) ∧ StrL w' w'.heap.size A (pcs c s)) ∧ Below w.heap.size w w' := by
  refine (split_own c s w hs).mono ?_
  rintro e w' ⟨v, rfl, ho, hb⟩
  obtain ⟨p, cap, rfl, h⟩ := own_reads ho
  exact ⟨⟨p, cap, rfl, h⟩, hb⟩
theorem strings_split_any (c : UInt8) (s : ByteArray) (m : Int) (w : World) (hs : s.size ≤ 1048576) (hm : w.cell? ⟨0, 0, none⟩ = some (.int .i64 m)) :
    Calls Tryd.prog 34 #[.string s, .string ⟨#[c]⟩] w fun e w' => e = .returned (.slice (some ⟨w.heap.size, 0, none⟩) (pcs c s).length (pcs c s).length) ∧ w' = w.alloc (.cells (svals (pcs c s)).toArray 9) := by
  have hl : Lib.countB s ⟨#[c]⟩ + 1 = (pcs c s).length := by
    rw [← split_pcs]
    exact (Lib.splitB_all ⟨#[c]⟩ (Nat.le_refl _) 0 _ s rfl).symm
  refine (Tryd.strings_Split s ⟨#[c]⟩ m w (by omega) hm (Nat.le_refl _)).mono ?_
  rintro e w' ⟨rfl, rfl⟩
  rw [split_pcs, hl]
  exact ⟨rfl, rfl⟩
end Go.Proofs.YtcmlgiilifdnfaaDoor
