/- PolicyDenyWins returns true whatever its arguments, and its arguments read behind the call as they did. The listed variables are tied to the text. -/
import Derived.Test.YtcmlgiilifdnfaaDoorQG
import Derived.Test.YtcmlgiilifdnfaaDoorTie
import Derived.Test.YtcmlgiilifdnfaaDoorCards
import Derived.SevenTiedAt
namespace Go.Proofs.YtcmlgiilifdnfaaDoor
open Go.ChangeShapes Go.WideShapes Go.ChangeAt Go.WideMaps Go.WideElems Go.RowKit
open Go.ChangeMaps (open_string shut_string)

set_option maxRecDepth 100000 in
theorem policyDenyWins_lifted (os : Os) (started : os.Started) (H : Type) (enc : TypeId × Value → H) :
    ReturnsInHanded {} Tryd.checked os 6 .any (fun w args => (Rows.policyDenyWinsSpec.pre enc Tryd.prog Tryd.f6 [] false w args ∧ laidMetH Tryd.prog laidLP w) ∧ sizedMet enc Tryd.prog Tryd.f6 (OpenSpec.ofChange Rows.policyDenyWinsSpec) false w args)
      (Rows.policyDenyWinsSpec.post enc Tryd.prog Tryd.f6 false true false false) := by
  refine returnsInHanded_of_row (C := Tryd.checked) (s := OpenSpec.ofChange Rows.policyDenyWinsSpec) (F := fun _ _ _ => 0) (conds := []) seatOwn started (by kernel_rfl) Tryd.func6
    (ChangeSpec.witness_shaped (enc := enc) (C := Tryd.checked) (os := os) (X := (fun w _ => laidMetH Tryd.prog laidLP w)) false (World.laidAll Tryd.prog os laidLP) #[.slice none 0 0, .agg #[.bool false, .slice none 0 0, .slice none 0 0], .int .u8 0, .string ⟨#[]⟩, .string ⟨#[]⟩] 8 (World.laidAll_os _ _ _) (World.shaped_of_ZipB (by kernel_rfl) (by kernel_rfl)) (by kernel_rfl) (by kernel_rfl) (by kernel_rfl) (door_metP os _)) ?_
  intro W base args ds gs before hval0 hW _ _ _ hL hSh _
  have hval : ∀ (j : Nat) t v, Tryd.f6.params[j]? = some t → args[j]? = some v → Value.okWide Tryd.prog W .any base t v := hval0
  have hW' := hW
  obtain ⟨p, q, hA0, hV, rfl, hfz, hnd⟩ := hW
  have hA : DataW.TrodAll enc Tryd.prog W 0 (fun _ => true) true Tryd.f6.params.toList args.toList ds p := hA0
  have hA2 := hA
  rw [Tryd.params6] at hA hval
  obtain ⟨v0, vs0, d0, ds0, p0, q0, hargs, rfl, rfl, h0, r0⟩ := trodAll_cons hA
  obtain ⟨v1, vs1, d1, ds1, p1, q1, rfl, rfl, rfl, h1, r1⟩ := trodAll_cons r0
  obtain ⟨v2, vs2, d2, ds2, p2, q2, rfl, rfl, rfl, h2, r2⟩ := trodAll_cons r1
  obtain ⟨v3, vs3, d3, ds3, p3, q3, rfl, rfl, rfl, h3, r3⟩ := trodAll_cons r2
  obtain ⟨v4, vs4, d4, ds4, p4, q4, rfl, rfl, rfl, h4, r4⟩ := trodAll_cons r3
  obtain ⟨rfl, rfl, rfl⟩ := trodAll_nil r4
  obtain ⟨rfl, rfl⟩ := trodVars_none hV
  obtain rfl : args = #[v0, v1, v2, v3, v4] := by apply Array.toList_inj.1; simpa using hargs
  obtain ⟨A0, c0, l0, rfl, hl0, hcp0, hn0, hs0⟩ := open_sts (okWide_slice Tryd.underlying22 (hval 0 22 v0 rfl rfl)) h0
  obtain ⟨s1, A1, c1, B1, d1, rfl, ha1, hb1, hc1, hd1, hz1⟩ := open_S (hval 1 31 v1 rfl rfl) h1
  obtain ⟨x2, rfl, rfl, rfl, wx2⟩ := open_int Tryd.underlying5 (hval 2 5 v2 rfl rfl) h2
  obtain ⟨x3, rfl, rfl, rfl, wx3⟩ := open_string Tryd.underlying9 (hval 3 9 v3 rfl rfl) h3
  have ws3 : x3.size ≤ 9223372036854775807 := by have := wx3; unfold maxLen at this; omega
  obtain ⟨x4, rfl, rfl, rfl, wx4⟩ := open_string Tryd.underlying9 (hval 4 9 v4 rfl rfl) h4
  have ws4 : x4.size ≤ 9223372036854775807 := by have := wx4; unfold maxLen at this; omega
  simp only [List.append_nil] at hA2
  clear hA0 hval0
  simp only [List.append_nil] at hW'
  have hX := of_laidP hL hSh
  refine (law_pw A0 c0 l0 s1 A1 c1 B1 d1 x2 x3 x4 W hX hl0 hcp0 hn0 hs0 ha1 hb1 hz1 wx2 ws3 ws4).mono fun e W' ⟨he, hw⟩ => ?_
  subst he
  refine ⟨_, rfl, _, _, _, [], p0 ++ p1, [], hW', trodAll_mk1 (shut_bool Tryd.underlying4 true), ?_, rfl, hw.frame _, fun h => by cases h⟩
  refine below_trodAll hw _ _ _ _ ?_ (fun x hx => by simpa using hW'.lt x hx) hA2
  rw [Tryd.params6]
  intro t ht
  simp only [List.mem_cons, List.not_mem_nil, or_false] at ht
  rcases ht with rfl | rfl | rfl | rfl | rfl
  all_goals exact ⟨by kernel_rfl, of_decide_eq_true (by kernel_rfl)⟩

theorem policyDenyWins_row_holds : Rows.PolicyDenyWinsSaid :=
  OpenClaim.holds_of_wide 6 Tryd.f6 rfl rfl rfl rfl rfl rfl rfl ⟨rfl, rfl, rfl, rfl, rfl⟩ rfl rfl rfl rfl rfl (by kernel_rfl) Tryd.func6 (by kernel_rfl)
    (of_decide_eq_true (by kernel_rfl)) (by unfold Func.isWrapper; first | (rw [if_pos (by decide +kernel)]; kernel_rfl) | (rw [if_neg (by decide +kernel)]; exact ⟨rfl, rfl⟩))
    (fun os started H enc _ => policyDenyWins_lifted os started H enc)
theorem policyDenyWins_holds : Rows.PolicyDenyWinsCardSaid :=
  Claim7.holds_tied_plain_at .later [] [.data, .pinned] true (true, "9df936d1fa1c291ddf4d5b5f3a632be6991c352a2f992bea2f9dccc4c8cb770b") false
    policyDenyWins_row_holds (fun _ h => by cases h) (by kernel_rfl) (fun _ h => by cases h) policyDenyWins_row_tie rfl ⟨rfl, rfl⟩ (by kernel_rfl) rfl
    (fun f fn hf hfn => by
      obtain rfl : f = 6 := Option.some.inj ((show Tryd.prog.funcNamed "faas/faaslaw21.PolicyDenyWins" = some 6 by kernel_rfl).symm.trans hf) |>.symm
      obtain rfl : fn = Tryd.f6 := (Option.some.inj (Tryd.func6.symm.trans hfn)).symm
      exact ⟨by kernel_rfl, fun j t ht => by
        rw [Tryd.params6] at ht
        have hm : t ∈ [22, 31, 5, 9, 9] := by simpa using Array.mem_of_getElem? ht
        have hall : ([22, 31, 5, 9, 9].all fun u => !Tryd.prog.wantsStandIn u) = true := by kernel_rfl
        exact (show Tryd.prog.wantsStandIn t = false by simpa using List.all_eq_true.1 hall t hm)⟩)
    (by kernel_rfl)
#print axioms policyDenyWins_holds
end Go.Proofs.YtcmlgiilifdnfaaDoor
