/- FifoDoes returns true where its arguments are of bulk at most 1048576, and its arguments read behind the call as they did. The listed variables are tied to the text. -/
import Derived.Test.YtbofclohnmojmaaGreatDoorRDJ
import Derived.Test.YtbofclohnmojmaaGreatDoorTie
import Derived.Test.YtbofclohnmojmaaGreatDoorCards
import Derived.SevenTiedAt
namespace Go.Proofs.YtbofclohnmojmaaGreatDoor
open Go.ChangeShapes Go.WideShapes Go.ChangeAt Go.WideMaps Go.WideElems Go.RowKit
open Go.ChangeMaps (open_string shut_string)

set_option maxRecDepth 100000 in
theorem fifoDoes_reads (os : Os) {H : Type} (enc : TypeId × Value → H) : ∃ ds places, DataW.whole enc Tryz.prog ((World.laidAll Tryz.prog os laidL).forCall (fun _ _ => 0) ⟨#[], #[.agg #[.int .i64 0, .int .i64 0], .slice none 0 0, .string ⟨#[]⟩], []⟩).memory Tryz.f3.params.toList Rows.fifoDoesSpec.vars false #[.agg #[.int .i64 0, .int .i64 0], .slice none 0 0, .string ⟨#[]⟩].toList 8 = some (ds, [], places) ∧ Rows.uptoSmall H (ds ++ []) = true :=
  ⟨[.agg [.lit (.int .i64 0), .lit (.int .i64 0)], .nil, .lit (.string [])], [], by kernel_rfl, by kernel_rfl⟩
set_option maxRecDepth 100000 in
theorem fifoDoes_lifted (os : Os) (started : os.Started) (H : Type) (enc : TypeId × Value → H) (F : Stop.Interp) :
    ReturnsInHanded {} Tryz.checked os 3 .any ((Rows.OpenSpec.upto Rows.fifoDoesSpec).preRow enc Tryz.prog Tryz.f3 Rows.fifoDoesUptoRow.domain false Rows.fifoDoesUptoRow.laid) (((Rows.OpenSpec.upto Rows.fifoDoesSpec).at F).post enc Tryz.prog Tryz.f3 false true false false) := by
  obtain ⟨xs, places, hx, hxk⟩ := fifoDoes_reads os (H := H) enc
  have hok : Input.okWideB Tryz.prog ((World.laidAll Tryz.prog os laidL).forCall (fun _ _ => 0) ⟨#[], #[.agg #[.int .i64 0, .int .i64 0], .slice none 0 0, .string ⟨#[]⟩], []⟩) 3 ⟨#[], #[.agg #[.int .i64 0, .int .i64 0], .slice none 0 0, .string ⟨#[]⟩], []⟩ = true := by kernel_rfl
  refine returnsInHanded_of_row (C := Tryz.checked) (s := Rows.OpenSpec.upto Rows.fifoDoesSpec) seatOwn started (by kernel_rfl) Tryz.func3
    ⟨World.laidAll Tryz.prog os laidL, fun _ _ => 0, ⟨#[], #[.agg #[.int .i64 0, .int .i64 0], .slice none 0 0, .string ⟨#[]⟩], []⟩, World.laidAll_os _ _ _, World.shaped_of_ZipB (by kernel_rfl) (by kernel_rfl), (Input.okWide_of_okWideB (base := 0) hok).1, (Input.okWide_of_okWideB hok).2,
      OpenSpec.preRow_of_cond 8 hx (by kernel_rfl) (fun k hk => by cases hk; exact hxk) (by kernel_rfl) (door_metA os _), by
        simp only [Assume.holds]
        exact ⟨by simp, by simp, fun _ => Modest.zero, by simp, by simp⟩⟩ ?_
  intro W base args ds gs before hval0 hW _ hk0 _ hL hSh _
  have hk : Rows.uptoSmall H (ds ++ gs) = true := hk0 _ rfl
  have hval : ∀ (j : Nat) t v, Tryz.f3.params[j]? = some t → args[j]? = some v → Value.okWide Tryz.prog W .any base t v := hval0
  have hW' := hW
  obtain ⟨p, q, hA0, hV, rfl, hfz, hnd⟩ := hW
  have hA : DataW.TrodAll enc Tryz.prog W 0 (fun _ => true) true Tryz.f3.params.toList args.toList ds p := hA0
  have hA2 := hA
  rw [Tryz.params3] at hA hval
  obtain ⟨v0, v1, v2, d0, d1, d2, p0, p1, p2, rfl, rfl, rfl, h0, h1, h2⟩ := trodAll_three hA
  obtain ⟨rfl, rfl⟩ := trodVars_none hV
  obtain ⟨a0, b0, rfl⟩ := open_pol (hval 0 23 v0 rfl rfl) h0
  obtain ⟨A1, c1, l1, rfl, hl1, hn1, hs1, hu1⟩ := open_calls (okWide_slice Tryz.underlying24 (hval 1 24 v1 rfl rfl)) h1
  obtain ⟨x2, rfl, rfl, rfl, wx2⟩ := open_string Tryz.underlying9 (hval 2 9 v2 rfl rfl) h2
  simp only [List.append_nil] at hA2
  clear hA0 hval0
  have hUp : ∀ x ∈ l1, ClUp x := by
    have h : Rows.uptoBulkAll _ ≤ 1048576 := of_decide_eq_true hk
    simp only [List.append_nil, Rows.uptoBulkAll] at h
    exact hu1 (by omega)
  simp only [List.append_nil] at hW'
  have hX := of_laidA hL hSh
  refine (law_does a0 b0 A1 c1 l1 x2 W hX hl1 hn1 hs1 hUp).mono fun e W' ⟨he, hw⟩ => ?_
  subst he
  refine ⟨_, rfl, _, _, _, [], p0 ++ p1, [], hW', trodAll_mk1 (shut_bool Tryz.underlying4 true), ?_, rfl, hw.frame _, fun h => by cases h⟩
  refine below_trodAll hw _ _ _ _ ?_ (fun x hx => by simpa using hW'.lt x hx) hA2
  rw [Tryz.params3]
  intro t ht
  simp only [List.mem_cons, List.not_mem_nil, or_false] at ht
  rcases ht with rfl | rfl | rfl
  all_goals exact ⟨by kernel_rfl, of_decide_eq_true (by kernel_rfl)⟩

theorem fifoDoes_row_holds : Rows.FifoDoesUptoSaid :=
  OpenClaim.holds_of_cond 3 Tryz.f3 rfl rfl rfl rfl rfl rfl rfl ⟨rfl, rfl, rfl, rfl, rfl⟩ rfl rfl rfl rfl rfl (by kernel_rfl) Tryz.func3 (by kernel_rfl)
    (of_decide_eq_true (by kernel_rfl)) (by unfold Func.isWrapper; first | (rw [if_pos (by decide +kernel)]; kernel_rfl) | (rw [if_neg (by decide +kernel)]; exact ⟨rfl, rfl⟩))
    (fun os started H enc _ F => by rw [OpenClaim.pre_eq_preRow]; exact fifoDoes_lifted os started H enc F)
theorem fifoDoesUpto_holds : Rows.FifoDoesUptoCardSaid :=
  Claim7.holds_tied_plain_at .later [] [.data, .data, .data, .sentinel, .sentinel] true (true, "acd2af8f304fc69d58d95b59decf6f8a3cd2d1ba276a3e0e6d37b9dc8e0aa0d5") true
    fifoDoes_row_holds (fun _ h => by cases h) (by kernel_rfl) (fun _ h => by cases h) fifoDoesUpto_row_tie rfl ⟨rfl, rfl⟩ (by kernel_rfl) rfl
    (fun f fn hf hfn => by
      obtain rfl : f = 3 := Option.some.inj ((show Tryz.prog.funcNamed "faas/faaslaw29.FifoDoes" = some 3 by kernel_rfl).symm.trans hf) |>.symm
      obtain rfl : fn = Tryz.f3 := (Option.some.inj (Tryz.func3.symm.trans hfn)).symm
      exact ⟨by kernel_rfl, fun j t ht => by
        rw [Tryz.params3] at ht
        have hm : t ∈ [23, 24, 9] := by simpa using Array.mem_of_getElem? ht
        have hall : ([23, 24, 9].all fun u => !Tryz.prog.wantsStandIn u) = true := by kernel_rfl
        exact (show Tryz.prog.wantsStandIn t = false by simpa using List.all_eq_true.1 hall t hm)⟩)
    (by kernel_rfl)
#print axioms fifoDoesUpto_holds
end Go.Proofs.YtbofclohnmojmaaGreatDoor
