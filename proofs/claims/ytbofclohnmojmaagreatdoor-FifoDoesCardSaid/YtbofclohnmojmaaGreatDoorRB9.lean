/- The reference's check of an event. -/
import Derived.Test.YtbofclohnmojmaaGreatDoorRB8
namespace Go.Proofs.YtbofclohnmojmaaGreatDoor
open Go.RowKit
open Go.Sort (grow)

theorem optional_any (s : ByteArray) (w : World) (hs : s.size ≤ 9223372036854775807) : Calls Tryz.prog 82 #[.string s] w fun e w' => e = .returned (.bool (optB s)) ∧ Below w.heap.size w w' := by
  by_cases h0 : s.size = 0
  · have f0 := isEmpty_of h0
    have HE := Lib.hid (show true = optB s by unfold optB; rw [decide_eq_true h0]; rfl)
    clear h0
    go_enter Tryz.func82, Tryz.ntmps82
    go_wp2_with fail
    go_ret
    exact ⟨ret_bool HE.out, Below.refl _ _⟩
  · have f0 := isEmpty_not (s := s) (by omega)
    have HE := Lib.hid (show idL s = optB s by unfold optB; rw [decide_eq_false h0]; rfl)
    clear h0
    go_enter Tryz.func82, Tryz.ntmps82
    go_wp2_with fail
    refine (rID_any s _ hs).mono ?_
    rintro e w1 ⟨rfl, hb⟩
    have HB := Lib.hid hb
    clear hb
    go_wp2_with fail
    go_ret
    exact ⟨ret_bool HE.out, HB.out⟩
set_option maxHeartbeats 16000000 in
set_option maxRecDepth 20000 in
theorem reCheck_any (x : Ev) (w : World) (hx : EvIn w w.heap.size x) (hs : evB x) (hX : LaidW w) :
    Calls Tryz.prog 57 #[.agg #[.string x.id, .string x.tn, .string x.src, .string x.key, .int .i64 x.at_, .string x.cause, .slice x.A x.body.length x.cp]] w fun e w' => e = .returned (.int .i64 (chkE x)) ∧ Below w.heap.size w w' := by
  have HX := Lib.hid hx
  have HS := Lib.hid hs
  have HL := Lib.hid hX
  clear hx hs hX
  go_enter Tryz.func57, Tryz.ntmps57
  go_upto_region 1 with fail
  have b := Blk.new w 40 #[.string x.id, .string x.tn, .string x.src, .string x.key, .int .i64 x.at_, .string x.cause, .slice x.A x.body.length x.cp]
  have HB0 := Lib.hid (al_new w (.cells #[.string x.id, .string x.tn, .string x.src, .string x.key, .int .i64 x.at_, .string x.cause, .slice x.A x.body.length x.cp] 40))
  generalize w.alloc (.cells #[.string x.id, .string x.tn, .string x.src, .string x.key, .int .i64 x.at_, .string x.cause, .slice x.A x.body.length x.cp] 40) = w0 at *
  have q0 : w0.cell? ⟨w.heap.size, 0, none⟩ = some (.string x.id) := b.cell 0
  have q1 : w0.cell? ⟨w.heap.size, 1, none⟩ = some (.string x.tn) := b.cell 1
  have q2 : w0.cell? ⟨w.heap.size, 2, none⟩ = some (.string x.src) := b.cell 2
  have q3 : w0.cell? ⟨w.heap.size, 3, none⟩ = some (.string x.key) := b.cell 3
  have q4 : w0.cell? ⟨w.heap.size, 4, none⟩ = some (.int .i64 x.at_) := b.cell 4
  have q5 : w0.cell? ⟨w.heap.size, 5, none⟩ = some (.string x.cause) := b.cell 5
  have q6 : w0.cell? ⟨w.heap.size, 6, none⟩ = some (.slice x.A x.body.length x.cp) := b.cell 6
  go_wp2_with fail
  refine (rID_any x.id _ (by have := HS.out.1; omega)).mono ?_
  rintro e w1 ⟨rfl, hb⟩
  have b : Blk w1 w.heap.size 40 #[.string x.id, .string x.tn, .string x.src, .string x.key, .int .i64 x.at_, .string x.cause, .slice x.A x.body.length x.cp] := b.on hb
  have HB1 := Lib.hid (HB0.out.trans (hb.mono HB0.out.size))
  clear hb q0 q1 q2 q3 q4 q5 q6
  cases h_id : idL x.id with
  | false =>
    have HE := Lib.hid (show (4 : Int) = chkE x from chkE_no (by unfold namesB; simp [h_id]))
    go_wp2_with fail
    go_ret
    exact ⟨ret_int HE.out, HB1.out⟩
  | true =>
    have q0 : w1.cell? ⟨w.heap.size, 0, none⟩ = some (.string x.id) := b.cell 0
    have q1 : w1.cell? ⟨w.heap.size, 1, none⟩ = some (.string x.tn) := b.cell 1
    have q2 : w1.cell? ⟨w.heap.size, 2, none⟩ = some (.string x.src) := b.cell 2
    have q3 : w1.cell? ⟨w.heap.size, 3, none⟩ = some (.string x.key) := b.cell 3
    have q4 : w1.cell? ⟨w.heap.size, 4, none⟩ = some (.int .i64 x.at_) := b.cell 4
    have q5 : w1.cell? ⟨w.heap.size, 5, none⟩ = some (.string x.cause) := b.cell 5
    have q6 : w1.cell? ⟨w.heap.size, 6, none⟩ = some (.slice x.A x.body.length x.cp) := b.cell 6
    go_wp2_with fail
    refine (rID_any x.tn _ (by have := HS.out.2.1; omega)).mono ?_
    rintro e w2 ⟨rfl, hb⟩
    have b : Blk w2 w.heap.size 40 #[.string x.id, .string x.tn, .string x.src, .string x.key, .int .i64 x.at_, .string x.cause, .slice x.A x.body.length x.cp] := b.on hb
    have HB2 := Lib.hid (HB1.out.trans (hb.mono HB1.out.size))
    clear hb q0 q1 q2 q3 q4 q5 q6
    cases h_tn : idL x.tn with
    | false =>
      have HE := Lib.hid (show (4 : Int) = chkE x from chkE_no (by unfold namesB; simp [h_id, h_tn]))
      go_wp2_with fail
      go_ret
      exact ⟨ret_int HE.out, HB2.out⟩
    | true =>
      have q0 : w2.cell? ⟨w.heap.size, 0, none⟩ = some (.string x.id) := b.cell 0
      have q1 : w2.cell? ⟨w.heap.size, 1, none⟩ = some (.string x.tn) := b.cell 1
      have q2 : w2.cell? ⟨w.heap.size, 2, none⟩ = some (.string x.src) := b.cell 2
      have q3 : w2.cell? ⟨w.heap.size, 3, none⟩ = some (.string x.key) := b.cell 3
      have q4 : w2.cell? ⟨w.heap.size, 4, none⟩ = some (.int .i64 x.at_) := b.cell 4
      have q5 : w2.cell? ⟨w.heap.size, 5, none⟩ = some (.string x.cause) := b.cell 5
      have q6 : w2.cell? ⟨w.heap.size, 6, none⟩ = some (.slice x.A x.body.length x.cp) := b.cell 6
      go_wp2_with fail
      refine (rID_any x.src _ (by have := HS.out.2.2.1; omega)).mono ?_
      rintro e w3 ⟨rfl, hb⟩
      have b : Blk w3 w.heap.size 40 #[.string x.id, .string x.tn, .string x.src, .string x.key, .int .i64 x.at_, .string x.cause, .slice x.A x.body.length x.cp] := b.on hb
      have HB3 := Lib.hid (HB2.out.trans (hb.mono HB2.out.size))
      clear hb q0 q1 q2 q3 q4 q5 q6
      cases h_src : idL x.src with
      | false =>
        have HE := Lib.hid (show (4 : Int) = chkE x from chkE_no (by unfold namesB; simp [h_id, h_tn, h_src]))
        go_wp2_with fail
        go_ret
        exact ⟨ret_int HE.out, HB3.out⟩
      | true =>
        have q0 : w3.cell? ⟨w.heap.size, 0, none⟩ = some (.string x.id) := b.cell 0
        have q1 : w3.cell? ⟨w.heap.size, 1, none⟩ = some (.string x.tn) := b.cell 1
        have q2 : w3.cell? ⟨w.heap.size, 2, none⟩ = some (.string x.src) := b.cell 2
        have q3 : w3.cell? ⟨w.heap.size, 3, none⟩ = some (.string x.key) := b.cell 3
        have q4 : w3.cell? ⟨w.heap.size, 4, none⟩ = some (.int .i64 x.at_) := b.cell 4
        have q5 : w3.cell? ⟨w.heap.size, 5, none⟩ = some (.string x.cause) := b.cell 5
        have q6 : w3.cell? ⟨w.heap.size, 6, none⟩ = some (.slice x.A x.body.length x.cp) := b.cell 6
        go_wp2_with fail
        refine (optional_any x.key _ (by have := HS.out.2.2.2.1; omega)).mono ?_
        rintro e w4 ⟨rfl, hb⟩
        have b : Blk w4 w.heap.size 40 #[.string x.id, .string x.tn, .string x.src, .string x.key, .int .i64 x.at_, .string x.cause, .slice x.A x.body.length x.cp] := b.on hb
        have HB4 := Lib.hid (HB3.out.trans (hb.mono HB3.out.size))
        clear hb q0 q1 q2 q3 q4 q5 q6
        cases h_key : optB x.key with
        | false =>
          have HE := Lib.hid (show (4 : Int) = chkE x from chkE_no (by unfold namesB; simp [h_id, h_tn, h_src, h_key]))
          go_wp2_with fail
          go_ret
          exact ⟨ret_int HE.out, HB4.out⟩
        | true =>
          have q0 : w4.cell? ⟨w.heap.size, 0, none⟩ = some (.string x.id) := b.cell 0
          have q1 : w4.cell? ⟨w.heap.size, 1, none⟩ = some (.string x.tn) := b.cell 1
          have q2 : w4.cell? ⟨w.heap.size, 2, none⟩ = some (.string x.src) := b.cell 2
          have q3 : w4.cell? ⟨w.heap.size, 3, none⟩ = some (.string x.key) := b.cell 3
          have q4 : w4.cell? ⟨w.heap.size, 4, none⟩ = some (.int .i64 x.at_) := b.cell 4
          have q5 : w4.cell? ⟨w.heap.size, 5, none⟩ = some (.string x.cause) := b.cell 5
          have q6 : w4.cell? ⟨w.heap.size, 6, none⟩ = some (.slice x.A x.body.length x.cp) := b.cell 6
          go_wp2_with fail
          refine (optional_any x.cause _ (by have := HS.out.2.2.2.2.1; omega)).mono ?_
          rintro e w5 ⟨rfl, hb⟩
          have b : Blk w5 w.heap.size 40 #[.string x.id, .string x.tn, .string x.src, .string x.key, .int .i64 x.at_, .string x.cause, .slice x.A x.body.length x.cp] := b.on hb
          have HB5 := Lib.hid (HB4.out.trans (hb.mono HB4.out.size))
          clear hb q0 q1 q2 q3 q4 q5 q6
          cases h_cause : optB x.cause with
          | false =>
            have HE := Lib.hid (show (4 : Int) = chkE x from chkE_no (by unfold namesB; simp [h_id, h_tn, h_src, h_key, h_cause]))
            go_wp2_with fail
            go_ret
            exact ⟨ret_int HE.out, HB5.out⟩
          | true =>
            have q0 : w5.cell? ⟨w.heap.size, 0, none⟩ = some (.string x.id) := b.cell 0
            have q1 : w5.cell? ⟨w.heap.size, 1, none⟩ = some (.string x.tn) := b.cell 1
            have q2 : w5.cell? ⟨w.heap.size, 2, none⟩ = some (.string x.src) := b.cell 2
            have q3 : w5.cell? ⟨w.heap.size, 3, none⟩ = some (.string x.key) := b.cell 3
            have q4 : w5.cell? ⟨w.heap.size, 4, none⟩ = some (.int .i64 x.at_) := b.cell 4
            have q5 : w5.cell? ⟨w.heap.size, 5, none⟩ = some (.string x.cause) := b.cell 5
            have q6 : w5.cell? ⟨w.heap.size, 6, none⟩ = some (.slice x.A x.body.length x.cp) := b.cell 6
            have HN := Lib.hid (show namesB x = true by unfold namesB; simp [h_id, h_tn, h_src, h_key, h_cause])
            by_cases ht : 0 ≤ x.at_ ∧ x.at_ ≤ 1073741824
            · have HE := Lib.hid (show chkR x.body = chkE x by rw [← chkV_chkR]; unfold chkE; rw [if_neg (by rw [HN.out]; decide), if_neg (by rw [(timeB_iff x.at_).2 ht]; decide)])
              have d1 : decide (x.at_ < 0) = false := decide_eq_false (by omega)
              have d2 : decide ((1073741824 : Int) < x.at_) = false := decide_eq_false (by omega)
              go_wp2_with fail
              refine (rCheck_any (A := x.A) (c := x.cp) HS.out.2.2.2.2.2.2 HS.out.2.2.2.2.2.1 _ (HX.out.on HB5.out) (HL.out.below HB5.out)).mono ?_
              rintro e wz ⟨rfl, hb⟩
              go_wp2_with fail
              go_ret
              exact ⟨ret_int HE.out, HB5.out.trans (hb.mono HB5.out.size)⟩
            · have HE := Lib.hid (show (2 : Int) = chkE x by unfold chkE; rw [if_neg (by rw [HN.out]; decide), if_pos (timeB_no ht).symm])
              by_cases h0 : x.at_ < 0
              · have d1 : decide (x.at_ < 0) = true := decide_eq_true h0
                go_wp2_with fail
                go_ret
                exact ⟨ret_int HE.out, HB5.out⟩
              · have d1 : decide (x.at_ < 0) = false := decide_eq_false h0
                have d2 : decide ((1073741824 : Int) < x.at_) = true := decide_eq_true (by omega)
                go_wp2_with fail
                go_ret
                exact ⟨ret_int HE.out, HB5.out⟩
end Go.Proofs.YtbofclohnmojmaaGreatDoor
