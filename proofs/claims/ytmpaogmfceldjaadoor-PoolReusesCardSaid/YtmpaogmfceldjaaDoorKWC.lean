/- The program's Expire; New of both sides. -/
import Derived.Test.YtmpaogmfceldjaaDoorKWB
import Derived.Carry
namespace Go.Proofs.YtmpaogmfceldjaaDoor
open Go.RowKit
open Go.Sort (grow)

def ExpPost (s : PS) (now : Int) (w : World) (B p m : Nat) (A : Option Addr) (e : Ending) (w' : World) : Prop := ∃ v, e = .returned v ∧ OwnS w' w.heap.size v (expS s now).2 ∧ PoolTo w B p m A (expS s now).1 w'
set_option maxHeartbeats 4000000 in
set_option maxRecDepth 20000 in
theorem Expire_any {w : World} {B p m c : Nat} {A : Option Addr} {s : PS} (hP : PoolAt w B p m A c s) (hok : s.ok) (now : Int) :
    Calls Tryd.prog 16 #[.pointer (some ⟨p, 0, none⟩), .int .i64 now] w (ExpPost s now w B p m A) := by
  have HY : rdy s now = 0 → expS s now = expG s now := fun h => by unfold expS; rw [if_pos h]
  have HN : rdy s now ≠ 0 → expS s now = (s, []) := fun h => by unfold expS; rw [if_neg h]
  have HGG := Lib.hid (And.intro HY HN)
  have hb1 : Below w.heap.size w (((w.alloc (.cells #[.pointer (some ⟨p, 0, none⟩)] 25)).alloc (.cells #[.int .i64 now] 3)).alloc (.cells #[.slice none 0 0] 33)) := (((Below.refl _ _).alloc (Nat.le_refl _) _).alloc (by simp) _).alloc (by simp; omega) _
  have bp : Blk (((w.alloc (.cells #[.pointer (some ⟨p, 0, none⟩)] 25)).alloc (.cells #[.int .i64 now] 3)).alloc (.cells #[.slice none 0 0] 33)) w.heap.size 25 #[.pointer (some ⟨p, 0, none⟩)] := ((Blk.new w 25 _).alloc _).alloc _
  have bn : Blk (((w.alloc (.cells #[.pointer (some ⟨p, 0, none⟩)] 25)).alloc (.cells #[.int .i64 now] 3)).alloc (.cells #[.slice none 0 0] 33)) (w.heap.size + 1) 3 #[.int .i64 now] := (Blk.new1 w _ _ _).alloc _
  have bo : Blk (((w.alloc (.cells #[.pointer (some ⟨p, 0, none⟩)] 25)).alloc (.cells #[.int .i64 now] 3)).alloc (.cells #[.slice none 0 0] 33)) (w.heap.size + 2) 33 #[.slice none 0 0] := Blk.new2 w _ _ _ _
  have hP1 := hP.below hb1
  have hcl : rdy s now = 0 → Calls Tryd.prog 44 #[.pointer (some ⟨w.heap.size, 0, none⟩), .pointer (some ⟨w.heap.size + 1, 0, none⟩), .pointer (some ⟨w.heap.size + 2, 0, none⟩)] (((w.alloc (.cells #[.pointer (some ⟨p, 0, none⟩)] 25)).alloc (.cells #[.int .i64 now] 3)).alloc (.cells #[.slice none 0 0] 33)) (ExpIn s now w B p m A (w.heap.size + 2)) := fun hr => by
    have ht := rdy_now hr
    exact expf_any hP hb1 hok now ⟨ht.1, ht.2.1⟩ bp bn bo (by omega) (by omega)
  have HCL := Lib.hid (call_to (w0 := w) hP1 hok.mx.1 now 44 enters_exp #[.pointer (some ⟨w.heap.size, 0, none⟩), .pointer (some ⟨w.heap.size + 1, 0, none⟩), .pointer (some ⟨w.heap.size + 2, 0, none⟩)] ((expG s now).1, 0) (ExpX w (w.heap.size + 2) (expG s now).2) (fun _ => rfl) (fun h => absurd rfl h) hcl (fun w' n ⟨v, h1, h2⟩ => by
    have hpl := hP.blk.lt
    refine ⟨v, by rw [World.cell?_setCell_other _ _ _ _ (fun e => by have := congrArg Addr.block e; simp at this; omega)]; exact h1, ?_⟩
    exact ((Chg.refl (fun i => i = p) w').setCell (p := ⟨p, 5, none⟩) (fun _ => rfl) _).own h2 (fun i hi e => by have := (own_lt h2 hi).1; omega)))
  have HB1 := Lib.hid hb1
  have HP := Lib.hid hP
  have HC := Lib.hid bo
  clear HY HN hb1 hP1 hP hok hcl bp bn bo
  go_enter Tryd.func16, Tryd.ntmps16
  go_wp2_with fail
  refine HCL.out.mono ?_
  rintro e W (⟨hr, rfl, rfl⟩ | ⟨hr, rfl, hT, v, hx, hv⟩)
  · have HD := Lib.hid (HGG.out.2 hr)
    clear hr
    have s1 : (((w.alloc (.cells #[.pointer (some ⟨p, 0, none⟩)] 25)).alloc (.cells #[.int .i64 now] 3)).alloc (.cells #[.slice none 0 0] 33)).cell? ⟨w.heap.size + 2, 0, none⟩ = some (.slice none 0 0) := HC.out.cell 0
    have HT := Lib.hid (PoolTo.stay HP.out HB1.out)
    generalize rdy s now = rr at *
    generalize ((w.alloc (.cells #[.pointer (some ⟨p, 0, none⟩)] 25)).alloc (.cells #[.int .i64 now] 3)).alloc (.cells #[.slice none 0 0] 33) = W at *
    go_wp2_with fail
    go_ret
    exact ⟨_, rfl, by rw [HD.out]; exact OwnS.nil _ _, by rw [HD.out]; exact HT.out⟩
  · have HD := Lib.hid (HGG.out.1 hr)
    have HT := Lib.hid hT
    have HV := Lib.hid hv
    clear hr hT hv
    go_wp2_with fail
    go_ret
    exact ⟨_, rfl, by rw [HD.out]; exact HV.out, by rw [HD.out]; exact HT.out⟩
def NewPost (w : World) (nm : ByteArray) (pp : PP) (e : Ending) (w' : World) : Prop :=
  (newE nm pp ≠ 0 ∧ e = .returned (.tuple #[.pointer none, .int .i64 (newE nm pp)]) ∧ Below w.heap.size w w') ∨
  (newE nm pp = 0 ∧ ∃ p m, e = .returned (.tuple #[.pointer (some ⟨p, 0, none⟩), .int .i64 0]) ∧ PoolAt w' w.heap.size p m none 0 ⟨nm, pp, 0, 0, []⟩ ∧ Below w.heap.size w w')
def rNewPost (w : World) (nm : ByteArray) (pp : PP) (e : Ending) (w' : World) : Prop :=
  (newE nm pp ≠ 0 ∧ e = .returned (.tuple #[.pointer none, .int .i64 (newE nm pp)]) ∧ Below w.heap.size w w') ∨
  (newE nm pp = 0 ∧ ∃ p, e = .returned (.tuple #[.pointer (some ⟨p, 0, none⟩), .int .i64 0]) ∧ RPoolAt w' w.heap.size p none 0 ⟨nm, pp, 0, 0, []⟩ ∧ Below w.heap.size w w')
theorem new_1 {nm : ByteArray} {pp : PP} (h : idL nm = false) : newE nm pp = 4 := by unfold newE; rw [h]; rfl
theorem new_2 {nm : ByteArray} {pp : PP} (h : idL nm = true) (h2 : badP pp = true) : newE nm pp = 2 := by unfold newE; rw [h, if_pos rfl, if_pos h2]
theorem new_3 {nm : ByteArray} {pp : PP} (h : idL nm = true) (h2 : badP pp = false) : newE nm pp = 0 := by unfold newE; rw [h, if_pos rfl, h2]; rfl
theorem bad_no {a b c d : Int} (h : badP ⟨a, b, c, d⟩ = false) : 1 ≤ a ∧ a ≤ 32 ∧ 1 ≤ b ∧ b ≤ 1073741824 ∧ 1 ≤ c ∧ c ≤ 1073741824 ∧ inB d 0 1073741824 = true := by
  simp only [badP, Bool.or_eq_false_iff, decide_eq_false_iff_not, Bool.not_eq_false'] at h
  obtain ⟨⟨⟨⟨⟨⟨h1, h2⟩, h3⟩, h4⟩, h5⟩, h6⟩, h7⟩ := h
  exact ⟨by omega, by omega, by omega, by omega, by omega, by omega, h7⟩
theorem bad_yes {a b c d : Int} (h : badP ⟨a, b, c, d⟩ = true) : (a < 1 ∨ 32 < a ∨ b < 1 ∨ 1073741824 < b ∨ c < 1 ∨ 1073741824 < c) ∨ ((1 ≤ a ∧ a ≤ 32 ∧ 1 ≤ b ∧ b ≤ 1073741824 ∧ 1 ≤ c ∧ c ≤ 1073741824) ∧ inB d 0 1073741824 = false) := by
  simp only [badP, Bool.or_eq_true, decide_eq_true_eq, Bool.not_eq_true'] at h
  by_cases h' : a < 1 ∨ 32 < a ∨ b < 1 ∨ 1073741824 < b ∨ c < 1 ∨ 1073741824 < c
  · exact .inl h'
  · refine .inr ⟨by omega, ?_⟩
    rcases h with h | h
    · omega
    · exact h
set_option maxHeartbeats 4000000 in
set_option maxRecDepth 20000 in
theorem New_any (nm : ByteArray) (a b c d : Int) (w : World) (hs : nm.size ≤ 9223372036854775807) :
    Calls Tryd.prog 7 #[.string nm, .agg #[.int .i64 a, .int .i64 b, .int .i64 c, .int .i64 d]] w (NewPost w nm ⟨a, b, c, d⟩) := by
  have hn0 := Nat.le_refl w.heap.size
  have hmm := @run_makeMap Tryd.prog
  cases hid : idL nm
  · have HD := Lib.hid (new_1 (pp := ⟨a, b, c, d⟩) hid)
    have HI := Lib.hid hid
    clear hid
    go_enter Tryd.func7, Tryd.ntmps7
    go_wp2_with fail
    refine (ID_any nm _ hs).mono ?_
    rintro e w1 ⟨rfl, hb1⟩
    rw [HI.out]
    have HB1 := Lib.hid (((Below.refl w.heap.size w).alloc (Nat.le_refl _) (.cells #[.int .i64 a, .int .i64 b, .int .i64 c, .int .i64 d] 23)).trans (hb1.mono (by simp)))
    clear hb1
    go_wp2_with fail
    go_ret2
    exact .inl ⟨by rw [HD.out]; decide, by rw [HD.out]; rfl, HB1.out⟩
  · cases hbad : badP ⟨a, b, c, d⟩
    · have HD := Lib.hid (new_3 hid hbad)
      obtain ⟨h1, h2, h3, h4, h5, h6, h7⟩ := bad_no hbad
      clear hbad
      have HI := Lib.hid hid
      clear hid
      go_enter Tryd.func7, Tryd.ntmps7
      go_wp2_with fail
      refine (ID_any nm _ hs).mono ?_
      rintro e w1 ⟨rfl, hb1⟩
      rw [HI.out]
      have bx : Blk w1 w.heap.size 23 #[.int .i64 a, .int .i64 b, .int .i64 c, .int .i64 d] := (Blk.new w 23 _).on hb1
      have HB1 := Lib.hid (((Below.refl w.heap.size w).alloc (Nat.le_refl _) (.cells #[.int .i64 a, .int .i64 b, .int .i64 c, .int .i64 d] 23)).trans (hb1.mono (by simp)))
      have hz1 := HB1.out.size
      clear hb1
      have q0 : w1.cell? ⟨w.heap.size, 0, none⟩ = some (.int .i64 a) := bx.cell 0
      have q1 : w1.cell? ⟨w.heap.size, 1, none⟩ = some (.int .i64 b) := bx.cell 1
      have q2 : w1.cell? ⟨w.heap.size, 2, none⟩ = some (.int .i64 c) := bx.cell 2
      have q3 : w1.cell? ⟨w.heap.size, 3, none⟩ = some (.int .i64 d) := bx.cell 3
      go_wp2_with fail
      all_goals try (exfalso; omega)
      refine (instant_any _ _).mono ?_
      rintro e wq ⟨rfl, rfl⟩
      rw [h7]
      go_wp2_with fail
      have HM := Lib.hid (MapAt.new w1)
      have HP := Lib.hid (show PoolAt ((w1.alloc (.map #[] 0)).alloc (.cells #[.string nm, .int .i64 a, .int .i64 b, .int .i64 c, .int .i64 d, .int .i64 0, .int .i64 0, .slice none 0 0, .map (some w1.heap.size)] 51)) w.heap.size (w1.heap.size + 1) w1.heap.size none 0 ⟨nm, ⟨a, b, c, d⟩, 0, 0, []⟩ from ⟨Blk.new1 w1 _ _ _, own_nil _ _ _ _, HM.out.chg (S := fun _ => False) ((Chg.refl _ _).alloc _) (fun h => h), by omega, by omega⟩)
      go_ret2
      exact .inr ⟨HD.out, _, _, rfl, HP.out, ((HB1.out).alloc hz1 _).alloc (by simp; omega) _⟩
    · have HD := Lib.hid (new_2 hid hbad)
      have hb := bad_yes hbad
      clear hbad
      by_cases c0 : a < 1
      · clear hb
        have HI := Lib.hid hid
        clear hid
        go_enter Tryd.func7, Tryd.ntmps7
        go_wp2_with fail
        refine (ID_any nm _ hs).mono ?_
        rintro e w1 ⟨rfl, hb1⟩
        rw [HI.out]
        have bx : Blk w1 w.heap.size 23 #[.int .i64 a, .int .i64 b, .int .i64 c, .int .i64 d] := (Blk.new w 23 _).on hb1
        have HB1 := Lib.hid (((Below.refl w.heap.size w).alloc (Nat.le_refl _) (.cells #[.int .i64 a, .int .i64 b, .int .i64 c, .int .i64 d] 23)).trans (hb1.mono (by simp)))
        have hz1 := HB1.out.size
        clear hb1
        have q0 : w1.cell? ⟨w.heap.size, 0, none⟩ = some (.int .i64 a) := bx.cell 0
        have q1 : w1.cell? ⟨w.heap.size, 1, none⟩ = some (.int .i64 b) := bx.cell 1
        have q2 : w1.cell? ⟨w.heap.size, 2, none⟩ = some (.int .i64 c) := bx.cell 2
        have q3 : w1.cell? ⟨w.heap.size, 3, none⟩ = some (.int .i64 d) := bx.cell 3
        go_wp2_with fail
        all_goals try (exfalso; omega)
        go_ret2
        exact .inl ⟨by rw [HD.out]; decide, by rw [HD.out]; rfl, HB1.out⟩
      · skip
        by_cases c1 : 32 < a
        · clear hb
          have HI := Lib.hid hid
          clear hid
          go_enter Tryd.func7, Tryd.ntmps7
          go_wp2_with fail
          refine (ID_any nm _ hs).mono ?_
          rintro e w1 ⟨rfl, hb1⟩
          rw [HI.out]
          have bx : Blk w1 w.heap.size 23 #[.int .i64 a, .int .i64 b, .int .i64 c, .int .i64 d] := (Blk.new w 23 _).on hb1
          have HB1 := Lib.hid (((Below.refl w.heap.size w).alloc (Nat.le_refl _) (.cells #[.int .i64 a, .int .i64 b, .int .i64 c, .int .i64 d] 23)).trans (hb1.mono (by simp)))
          have hz1 := HB1.out.size
          clear hb1
          have q0 : w1.cell? ⟨w.heap.size, 0, none⟩ = some (.int .i64 a) := bx.cell 0
          have q1 : w1.cell? ⟨w.heap.size, 1, none⟩ = some (.int .i64 b) := bx.cell 1
          have q2 : w1.cell? ⟨w.heap.size, 2, none⟩ = some (.int .i64 c) := bx.cell 2
          have q3 : w1.cell? ⟨w.heap.size, 3, none⟩ = some (.int .i64 d) := bx.cell 3
          go_wp2_with fail
          all_goals try (exfalso; omega)
          go_ret2
          exact .inl ⟨by rw [HD.out]; decide, by rw [HD.out]; rfl, HB1.out⟩
        · skip
          by_cases c2 : b < 1
          · clear hb
            have HI := Lib.hid hid
            clear hid
            go_enter Tryd.func7, Tryd.ntmps7
            go_wp2_with fail
            refine (ID_any nm _ hs).mono ?_
            rintro e w1 ⟨rfl, hb1⟩
            rw [HI.out]
            have bx : Blk w1 w.heap.size 23 #[.int .i64 a, .int .i64 b, .int .i64 c, .int .i64 d] := (Blk.new w 23 _).on hb1
            have HB1 := Lib.hid (((Below.refl w.heap.size w).alloc (Nat.le_refl _) (.cells #[.int .i64 a, .int .i64 b, .int .i64 c, .int .i64 d] 23)).trans (hb1.mono (by simp)))
            have hz1 := HB1.out.size
            clear hb1
            have q0 : w1.cell? ⟨w.heap.size, 0, none⟩ = some (.int .i64 a) := bx.cell 0
            have q1 : w1.cell? ⟨w.heap.size, 1, none⟩ = some (.int .i64 b) := bx.cell 1
            have q2 : w1.cell? ⟨w.heap.size, 2, none⟩ = some (.int .i64 c) := bx.cell 2
            have q3 : w1.cell? ⟨w.heap.size, 3, none⟩ = some (.int .i64 d) := bx.cell 3
            go_wp2_with fail
            all_goals try (exfalso; omega)
            go_ret2
            exact .inl ⟨by rw [HD.out]; decide, by rw [HD.out]; rfl, HB1.out⟩
          · skip
            by_cases c3 : 1073741824 < b
            · clear hb
              have HI := Lib.hid hid
              clear hid
              go_enter Tryd.func7, Tryd.ntmps7
              go_wp2_with fail
              refine (ID_any nm _ hs).mono ?_
              rintro e w1 ⟨rfl, hb1⟩
              rw [HI.out]
              have bx : Blk w1 w.heap.size 23 #[.int .i64 a, .int .i64 b, .int .i64 c, .int .i64 d] := (Blk.new w 23 _).on hb1
              have HB1 := Lib.hid (((Below.refl w.heap.size w).alloc (Nat.le_refl _) (.cells #[.int .i64 a, .int .i64 b, .int .i64 c, .int .i64 d] 23)).trans (hb1.mono (by simp)))
              have hz1 := HB1.out.size
              clear hb1
              have q0 : w1.cell? ⟨w.heap.size, 0, none⟩ = some (.int .i64 a) := bx.cell 0
              have q1 : w1.cell? ⟨w.heap.size, 1, none⟩ = some (.int .i64 b) := bx.cell 1
              have q2 : w1.cell? ⟨w.heap.size, 2, none⟩ = some (.int .i64 c) := bx.cell 2
              have q3 : w1.cell? ⟨w.heap.size, 3, none⟩ = some (.int .i64 d) := bx.cell 3
              go_wp2_with fail
              all_goals try (exfalso; omega)
              go_ret2
              exact .inl ⟨by rw [HD.out]; decide, by rw [HD.out]; rfl, HB1.out⟩
            · skip
              by_cases c4 : c < 1
              · clear hb
                have HI := Lib.hid hid
                clear hid
                go_enter Tryd.func7, Tryd.ntmps7
                go_wp2_with fail
                refine (ID_any nm _ hs).mono ?_
                rintro e w1 ⟨rfl, hb1⟩
                rw [HI.out]
                have bx : Blk w1 w.heap.size 23 #[.int .i64 a, .int .i64 b, .int .i64 c, .int .i64 d] := (Blk.new w 23 _).on hb1
                have HB1 := Lib.hid (((Below.refl w.heap.size w).alloc (Nat.le_refl _) (.cells #[.int .i64 a, .int .i64 b, .int .i64 c, .int .i64 d] 23)).trans (hb1.mono (by simp)))
                have hz1 := HB1.out.size
                clear hb1
                have q0 : w1.cell? ⟨w.heap.size, 0, none⟩ = some (.int .i64 a) := bx.cell 0
                have q1 : w1.cell? ⟨w.heap.size, 1, none⟩ = some (.int .i64 b) := bx.cell 1
                have q2 : w1.cell? ⟨w.heap.size, 2, none⟩ = some (.int .i64 c) := bx.cell 2
                have q3 : w1.cell? ⟨w.heap.size, 3, none⟩ = some (.int .i64 d) := bx.cell 3
                go_wp2_with fail
                all_goals try (exfalso; omega)
                go_ret2
                exact .inl ⟨by rw [HD.out]; decide, by rw [HD.out]; rfl, HB1.out⟩
              · skip
                by_cases c5 : 1073741824 < c
                · clear hb
                  have HI := Lib.hid hid
                  clear hid
                  go_enter Tryd.func7, Tryd.ntmps7
                  go_wp2_with fail
                  refine (ID_any nm _ hs).mono ?_
                  rintro e w1 ⟨rfl, hb1⟩
                  rw [HI.out]
                  have bx : Blk w1 w.heap.size 23 #[.int .i64 a, .int .i64 b, .int .i64 c, .int .i64 d] := (Blk.new w 23 _).on hb1
                  have HB1 := Lib.hid (((Below.refl w.heap.size w).alloc (Nat.le_refl _) (.cells #[.int .i64 a, .int .i64 b, .int .i64 c, .int .i64 d] 23)).trans (hb1.mono (by simp)))
                  have hz1 := HB1.out.size
                  clear hb1
                  have q0 : w1.cell? ⟨w.heap.size, 0, none⟩ = some (.int .i64 a) := bx.cell 0
                  have q1 : w1.cell? ⟨w.heap.size, 1, none⟩ = some (.int .i64 b) := bx.cell 1
                  have q2 : w1.cell? ⟨w.heap.size, 2, none⟩ = some (.int .i64 c) := bx.cell 2
                  have q3 : w1.cell? ⟨w.heap.size, 3, none⟩ = some (.int .i64 d) := bx.cell 3
                  go_wp2_with fail
                  all_goals try (exfalso; omega)
                  go_ret2
                  exact .inl ⟨by rw [HD.out]; decide, by rw [HD.out]; rfl, HB1.out⟩
                · skip
                  have h7 : inB d 0 1073741824 = false := by
                    rcases hb with hb | hb
                    · exfalso; omega
                    · exact hb.2
                  clear hb
                  have HI := Lib.hid hid
                  clear hid
                  go_enter Tryd.func7, Tryd.ntmps7
                  go_wp2_with fail
                  refine (ID_any nm _ hs).mono ?_
                  rintro e w1 ⟨rfl, hb1⟩
                  rw [HI.out]
                  have bx : Blk w1 w.heap.size 23 #[.int .i64 a, .int .i64 b, .int .i64 c, .int .i64 d] := (Blk.new w 23 _).on hb1
                  have HB1 := Lib.hid (((Below.refl w.heap.size w).alloc (Nat.le_refl _) (.cells #[.int .i64 a, .int .i64 b, .int .i64 c, .int .i64 d] 23)).trans (hb1.mono (by simp)))
                  have hz1 := HB1.out.size
                  clear hb1
                  have q0 : w1.cell? ⟨w.heap.size, 0, none⟩ = some (.int .i64 a) := bx.cell 0
                  have q1 : w1.cell? ⟨w.heap.size, 1, none⟩ = some (.int .i64 b) := bx.cell 1
                  have q2 : w1.cell? ⟨w.heap.size, 2, none⟩ = some (.int .i64 c) := bx.cell 2
                  have q3 : w1.cell? ⟨w.heap.size, 3, none⟩ = some (.int .i64 d) := bx.cell 3
                  go_wp2_with fail
                  all_goals try (exfalso; omega)
                  refine (instant_any _ _).mono ?_
                  rintro e wq ⟨rfl, rfl⟩
                  rw [h7]
                  go_wp2_with fail
                  all_goals try (exfalso; omega)
                  go_ret2
                  exact .inl ⟨by rw [HD.out]; decide, by rw [HD.out]; rfl, HB1.out⟩
set_option maxHeartbeats 4000000 in
set_option maxRecDepth 20000 in
theorem rNew_any (nm : ByteArray) (a b c d : Int) (w : World) (hs : nm.size ≤ 9223372036854775807) :
    Calls Tryd.prog 8 #[.string nm, .agg #[.int .i64 a, .int .i64 b, .int .i64 c, .int .i64 d]] w (rNewPost w nm ⟨a, b, c, d⟩) := by
  have hn0 := Nat.le_refl w.heap.size
  have hmm := @run_makeMap Tryd.prog
  cases hid : idL nm
  · have HD := Lib.hid (new_1 (pp := ⟨a, b, c, d⟩) hid)
    have HI := Lib.hid hid
    clear hid
    go_enter Tryd.func8, Tryd.ntmps8
    go_wp2_with fail
    refine (rID_any nm _ hs).mono ?_
    rintro e w1 ⟨rfl, hb1⟩
    rw [HI.out]
    have HB1 := Lib.hid (((Below.refl w.heap.size w).alloc (Nat.le_refl _) (.cells #[.int .i64 a, .int .i64 b, .int .i64 c, .int .i64 d] 23)).trans (hb1.mono (by simp)))
    clear hb1
    go_wp2_with fail
    go_ret2
    exact .inl ⟨by rw [HD.out]; decide, by rw [HD.out]; rfl, HB1.out⟩
  · cases hbad : badP ⟨a, b, c, d⟩
    · have HD := Lib.hid (new_3 hid hbad)
      obtain ⟨h1, h2, h3, h4, h5, h6, h7⟩ := bad_no hbad
      have t1 : inB b 0 1073741824 = true := inB_yes ⟨by omega, h4⟩
      have t2 : inB c 0 1073741824 = true := inB_yes ⟨by omega, h6⟩
      clear hbad
      have HI := Lib.hid hid
      clear hid
      go_enter Tryd.func8, Tryd.ntmps8
      go_wp2_with fail
      refine (rID_any nm _ hs).mono ?_
      rintro e w1 ⟨rfl, hb1⟩
      rw [HI.out]
      have bx : Blk w1 w.heap.size 23 #[.int .i64 a, .int .i64 b, .int .i64 c, .int .i64 d] := (Blk.new w 23 _).on hb1
      have HB1 := Lib.hid (((Below.refl w.heap.size w).alloc (Nat.le_refl _) (.cells #[.int .i64 a, .int .i64 b, .int .i64 c, .int .i64 d] 23)).trans (hb1.mono (by simp)))
      have hz1 := HB1.out.size
      clear hb1
      have q0 : w1.cell? ⟨w.heap.size, 0, none⟩ = some (.int .i64 a) := bx.cell 0
      have q1 : w1.cell? ⟨w.heap.size, 1, none⟩ = some (.int .i64 b) := bx.cell 1
      have q2 : w1.cell? ⟨w.heap.size, 2, none⟩ = some (.int .i64 c) := bx.cell 2
      have q3 : w1.cell? ⟨w.heap.size, 3, none⟩ = some (.int .i64 d) := bx.cell 3
      go_wp2_with fail
      all_goals try (exfalso; omega)
      refine (time_any _ _).mono ?_
      rintro e wq ⟨rfl, rfl⟩
      rw [t1]
      go_wp2_with fail
      all_goals try (exfalso; omega)
      refine (time_any _ _).mono ?_
      rintro e wq ⟨rfl, rfl⟩
      rw [t2]
      go_wp2_with fail
      refine (time_any _ _).mono ?_
      rintro e wq ⟨rfl, rfl⟩
      rw [h7]
      go_wp2_with fail
      have HP := Lib.hid (show RPoolAt (w1.alloc (.cells #[.string nm, .int .i64 a, .int .i64 b, .int .i64 c, .int .i64 d, .slice none 0 0, .int .i64 0, .int .i64 0] 61)) w.heap.size w1.heap.size none 0 ⟨nm, ⟨a, b, c, d⟩, 0, 0, []⟩ from ⟨Blk.new w1 _ _, own_nil _ _ _ _, by omega⟩)
      go_ret2
      exact .inr ⟨HD.out, _, rfl, HP.out, (HB1.out).alloc hz1 _⟩
    · have HD := Lib.hid (new_2 hid hbad)
      have hb := bad_yes hbad
      clear hbad
      by_cases c0 : a < 1
      · clear hb
        have HI := Lib.hid hid
        clear hid
        go_enter Tryd.func8, Tryd.ntmps8
        go_wp2_with fail
        refine (rID_any nm _ hs).mono ?_
        rintro e w1 ⟨rfl, hb1⟩
        rw [HI.out]
        have bx : Blk w1 w.heap.size 23 #[.int .i64 a, .int .i64 b, .int .i64 c, .int .i64 d] := (Blk.new w 23 _).on hb1
        have HB1 := Lib.hid (((Below.refl w.heap.size w).alloc (Nat.le_refl _) (.cells #[.int .i64 a, .int .i64 b, .int .i64 c, .int .i64 d] 23)).trans (hb1.mono (by simp)))
        have hz1 := HB1.out.size
        clear hb1
        have q0 : w1.cell? ⟨w.heap.size, 0, none⟩ = some (.int .i64 a) := bx.cell 0
        have q1 : w1.cell? ⟨w.heap.size, 1, none⟩ = some (.int .i64 b) := bx.cell 1
        have q2 : w1.cell? ⟨w.heap.size, 2, none⟩ = some (.int .i64 c) := bx.cell 2
        have q3 : w1.cell? ⟨w.heap.size, 3, none⟩ = some (.int .i64 d) := bx.cell 3
        go_wp2_with fail
        all_goals try (exfalso; omega)
        go_ret2
        exact .inl ⟨by rw [HD.out]; decide, by rw [HD.out]; rfl, HB1.out⟩
      · skip
        by_cases c1 : 32 < a
        · clear hb
          have HI := Lib.hid hid
          clear hid
          go_enter Tryd.func8, Tryd.ntmps8
          go_wp2_with fail
          refine (rID_any nm _ hs).mono ?_
          rintro e w1 ⟨rfl, hb1⟩
          rw [HI.out]
          have bx : Blk w1 w.heap.size 23 #[.int .i64 a, .int .i64 b, .int .i64 c, .int .i64 d] := (Blk.new w 23 _).on hb1
          have HB1 := Lib.hid (((Below.refl w.heap.size w).alloc (Nat.le_refl _) (.cells #[.int .i64 a, .int .i64 b, .int .i64 c, .int .i64 d] 23)).trans (hb1.mono (by simp)))
          have hz1 := HB1.out.size
          clear hb1
          have q0 : w1.cell? ⟨w.heap.size, 0, none⟩ = some (.int .i64 a) := bx.cell 0
          have q1 : w1.cell? ⟨w.heap.size, 1, none⟩ = some (.int .i64 b) := bx.cell 1
          have q2 : w1.cell? ⟨w.heap.size, 2, none⟩ = some (.int .i64 c) := bx.cell 2
          have q3 : w1.cell? ⟨w.heap.size, 3, none⟩ = some (.int .i64 d) := bx.cell 3
          go_wp2_with fail
          all_goals try (exfalso; omega)
          go_ret2
          exact .inl ⟨by rw [HD.out]; decide, by rw [HD.out]; rfl, HB1.out⟩
        · skip
          by_cases c2 : b < 1
          · clear hb
            have HI := Lib.hid hid
            clear hid
            go_enter Tryd.func8, Tryd.ntmps8
            go_wp2_with fail
            refine (rID_any nm _ hs).mono ?_
            rintro e w1 ⟨rfl, hb1⟩
            rw [HI.out]
            have bx : Blk w1 w.heap.size 23 #[.int .i64 a, .int .i64 b, .int .i64 c, .int .i64 d] := (Blk.new w 23 _).on hb1
            have HB1 := Lib.hid (((Below.refl w.heap.size w).alloc (Nat.le_refl _) (.cells #[.int .i64 a, .int .i64 b, .int .i64 c, .int .i64 d] 23)).trans (hb1.mono (by simp)))
            have hz1 := HB1.out.size
            clear hb1
            have q0 : w1.cell? ⟨w.heap.size, 0, none⟩ = some (.int .i64 a) := bx.cell 0
            have q1 : w1.cell? ⟨w.heap.size, 1, none⟩ = some (.int .i64 b) := bx.cell 1
            have q2 : w1.cell? ⟨w.heap.size, 2, none⟩ = some (.int .i64 c) := bx.cell 2
            have q3 : w1.cell? ⟨w.heap.size, 3, none⟩ = some (.int .i64 d) := bx.cell 3
            go_wp2_with fail
            all_goals try (exfalso; omega)
            go_ret2
            exact .inl ⟨by rw [HD.out]; decide, by rw [HD.out]; rfl, HB1.out⟩
          · skip
            by_cases c3 : 1 ≤ b ∧ 1073741824 < b
            · have tb : inB b 0 1073741824 = false := inB_no (by omega)
              clear hb
              have HI := Lib.hid hid
              clear hid
              go_enter Tryd.func8, Tryd.ntmps8
              go_wp2_with fail
              refine (rID_any nm _ hs).mono ?_
              rintro e w1 ⟨rfl, hb1⟩
              rw [HI.out]
              have bx : Blk w1 w.heap.size 23 #[.int .i64 a, .int .i64 b, .int .i64 c, .int .i64 d] := (Blk.new w 23 _).on hb1
              have HB1 := Lib.hid (((Below.refl w.heap.size w).alloc (Nat.le_refl _) (.cells #[.int .i64 a, .int .i64 b, .int .i64 c, .int .i64 d] 23)).trans (hb1.mono (by simp)))
              have hz1 := HB1.out.size
              clear hb1
              have q0 : w1.cell? ⟨w.heap.size, 0, none⟩ = some (.int .i64 a) := bx.cell 0
              have q1 : w1.cell? ⟨w.heap.size, 1, none⟩ = some (.int .i64 b) := bx.cell 1
              have q2 : w1.cell? ⟨w.heap.size, 2, none⟩ = some (.int .i64 c) := bx.cell 2
              have q3 : w1.cell? ⟨w.heap.size, 3, none⟩ = some (.int .i64 d) := bx.cell 3
              go_wp2_with fail
              all_goals try (exfalso; omega)
              refine (time_any _ _).mono ?_
              rintro e wq ⟨rfl, rfl⟩
              rw [tb]
              go_wp2_with fail
              all_goals try (exfalso; omega)
              go_ret2
              exact .inl ⟨by rw [HD.out]; decide, by rw [HD.out]; rfl, HB1.out⟩
            · skip
              by_cases c4 : c < 1
              · have tb : inB b 0 1073741824 = true := inB_yes (by omega)
                clear hb
                have HI := Lib.hid hid
                clear hid
                go_enter Tryd.func8, Tryd.ntmps8
                go_wp2_with fail
                refine (rID_any nm _ hs).mono ?_
                rintro e w1 ⟨rfl, hb1⟩
                rw [HI.out]
                have bx : Blk w1 w.heap.size 23 #[.int .i64 a, .int .i64 b, .int .i64 c, .int .i64 d] := (Blk.new w 23 _).on hb1
                have HB1 := Lib.hid (((Below.refl w.heap.size w).alloc (Nat.le_refl _) (.cells #[.int .i64 a, .int .i64 b, .int .i64 c, .int .i64 d] 23)).trans (hb1.mono (by simp)))
                have hz1 := HB1.out.size
                clear hb1
                have q0 : w1.cell? ⟨w.heap.size, 0, none⟩ = some (.int .i64 a) := bx.cell 0
                have q1 : w1.cell? ⟨w.heap.size, 1, none⟩ = some (.int .i64 b) := bx.cell 1
                have q2 : w1.cell? ⟨w.heap.size, 2, none⟩ = some (.int .i64 c) := bx.cell 2
                have q3 : w1.cell? ⟨w.heap.size, 3, none⟩ = some (.int .i64 d) := bx.cell 3
                go_wp2_with fail
                all_goals try (exfalso; omega)
                refine (time_any _ _).mono ?_
                rintro e wq ⟨rfl, rfl⟩
                rw [tb]
                go_wp2_with fail
                all_goals try (exfalso; omega)
                go_ret2
                exact .inl ⟨by rw [HD.out]; decide, by rw [HD.out]; rfl, HB1.out⟩
              · skip
                by_cases c5 : 1 ≤ c ∧ 1073741824 < c
                · have tc : inB c 0 1073741824 = false := inB_no (by omega)
                  have tb : inB b 0 1073741824 = true := inB_yes (by omega)
                  clear hb
                  have HI := Lib.hid hid
                  clear hid
                  go_enter Tryd.func8, Tryd.ntmps8
                  go_wp2_with fail
                  refine (rID_any nm _ hs).mono ?_
                  rintro e w1 ⟨rfl, hb1⟩
                  rw [HI.out]
                  have bx : Blk w1 w.heap.size 23 #[.int .i64 a, .int .i64 b, .int .i64 c, .int .i64 d] := (Blk.new w 23 _).on hb1
                  have HB1 := Lib.hid (((Below.refl w.heap.size w).alloc (Nat.le_refl _) (.cells #[.int .i64 a, .int .i64 b, .int .i64 c, .int .i64 d] 23)).trans (hb1.mono (by simp)))
                  have hz1 := HB1.out.size
                  clear hb1
                  have q0 : w1.cell? ⟨w.heap.size, 0, none⟩ = some (.int .i64 a) := bx.cell 0
                  have q1 : w1.cell? ⟨w.heap.size, 1, none⟩ = some (.int .i64 b) := bx.cell 1
                  have q2 : w1.cell? ⟨w.heap.size, 2, none⟩ = some (.int .i64 c) := bx.cell 2
                  have q3 : w1.cell? ⟨w.heap.size, 3, none⟩ = some (.int .i64 d) := bx.cell 3
                  go_wp2_with fail
                  all_goals try (exfalso; omega)
                  refine (time_any _ _).mono ?_
                  rintro e wq ⟨rfl, rfl⟩
                  rw [tb]
                  go_wp2_with fail
                  all_goals try (exfalso; omega)
                  refine (time_any _ _).mono ?_
                  rintro e wq ⟨rfl, rfl⟩
                  rw [tc]
                  go_wp2_with fail
                  all_goals try (exfalso; omega)
                  go_ret2
                  exact .inl ⟨by rw [HD.out]; decide, by rw [HD.out]; rfl, HB1.out⟩
                · skip
                  have h7 : inB d 0 1073741824 = false := by
                    rcases hb with hb | hb
                    · exfalso; omega
                    · exact hb.2
                  have tb : inB b 0 1073741824 = true := inB_yes (by omega)
                  have tc : inB c 0 1073741824 = true := inB_yes (by omega)
                  clear hb
                  have HI := Lib.hid hid
                  clear hid
                  go_enter Tryd.func8, Tryd.ntmps8
                  go_wp2_with fail
                  refine (rID_any nm _ hs).mono ?_
                  rintro e w1 ⟨rfl, hb1⟩
                  rw [HI.out]
                  have bx : Blk w1 w.heap.size 23 #[.int .i64 a, .int .i64 b, .int .i64 c, .int .i64 d] := (Blk.new w 23 _).on hb1
                  have HB1 := Lib.hid (((Below.refl w.heap.size w).alloc (Nat.le_refl _) (.cells #[.int .i64 a, .int .i64 b, .int .i64 c, .int .i64 d] 23)).trans (hb1.mono (by simp)))
                  have hz1 := HB1.out.size
                  clear hb1
                  have q0 : w1.cell? ⟨w.heap.size, 0, none⟩ = some (.int .i64 a) := bx.cell 0
                  have q1 : w1.cell? ⟨w.heap.size, 1, none⟩ = some (.int .i64 b) := bx.cell 1
                  have q2 : w1.cell? ⟨w.heap.size, 2, none⟩ = some (.int .i64 c) := bx.cell 2
                  have q3 : w1.cell? ⟨w.heap.size, 3, none⟩ = some (.int .i64 d) := bx.cell 3
                  go_wp2_with fail
                  all_goals try (exfalso; omega)
                  refine (time_any _ _).mono ?_
                  rintro e wq ⟨rfl, rfl⟩
                  rw [tb]
                  go_wp2_with fail
                  all_goals try (exfalso; omega)
                  refine (time_any _ _).mono ?_
                  rintro e wq ⟨rfl, rfl⟩
                  rw [tc]
                  go_wp2_with fail
                  all_goals try (exfalso; omega)
                  refine (time_any _ _).mono ?_
                  rintro e wq ⟨rfl, rfl⟩
                  rw [h7]
                  go_wp2_with fail
                  all_goals try (exfalso; omega)
                  go_ret2
                  exact .inl ⟨by rw [HD.out]; decide, by rw [HD.out]; rfl, HB1.out⟩
end Go.Proofs.YtmpaogmfceldjaaDoor
