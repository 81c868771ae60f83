/- double() returns true: by the symbolic machine. -/
import Derived.Test.YtfhcngnmgfkdkaaGreatDoorTQ
import Derived.Test.YtfhcngnmgfkdkaaGreatDoorTP
import Derived.WalkKit
import Derived.WalkSpells
import Derived.WalkLawsBesides
import Derived.Recover
namespace Go.Proofs.YtfhcngnmgfkdkaaGreatDoor
namespace Sy
open Go.RowKit

theorem go_seq {P : Program} {ib : FuncId} {dk : FuncId → Bool} {n : Nat} {a b : Code} {A A1 : SA} {S S1 : SH} (h : go P ib dk n (.code a A) S = some [(.x .nor A1, S1)]) :
    go P ib dk (n + 1) (.code (.seq a b) A) S = go P ib dk n (.code b A1) S1 := by
  show sCode (go P ib dk n) (.seq a b) A S = _
  simp only [sCode, h, bindL, bindAll]
theorem sCall_eq {P : Program} {dk : FuncId → Bool} {rec : Rq → SH → Option (List (SR × SH))} {f : FuncId} {args : List SV} {S : SH} {fn : Func} {c : Code} (hf : P.funcs[f]? = some fn) (hc : fn.body = some c) (hl : Nat.blt args.length 1000 = true) :
    sCall P dk rec f args S = bindL (rec (.code c { t := argT args 0 .lf, n := args.length + (fn.ntmps - args.length), df := [] }) S) (sLeave P dk fn) := by
  simp only [sCall, hf, hc, hl, need]
theorem chain : goT 2999 (.code c0 Ai) S0 = goT 2994 (.code (tl (tl (tl (tl (tl c0))))) A4) S4 := by
  have e0 : goT 2999 (.code c0 Ai) S0 = goT 2998 (.code (tl c0) A0) S0 := (congrArg (fun c => goT 2999 (.code c Ai) S0) c0_seq).trans (go_seq run0)
  have e1 : goT 2998 (.code (tl c0) A0) S0 = goT 2997 (.code (tl (tl c0)) A1) S1 := (congrArg (fun c => goT 2998 (.code c A0) S0) c1_seq).trans (go_seq runB)
  have e2 : goT 2997 (.code (tl (tl c0)) A1) S1 = goT 2996 (.code (tl (tl (tl c0))) A2) S1 := (congrArg (fun c => goT 2997 (.code c A1) S1) c2_seq).trans (go_seq run2)
  have e3 : goT 2996 (.code (tl (tl (tl c0))) A2) S1 = goT 2995 (.code (tl (tl (tl (tl c0)))) A3) S3 := (congrArg (fun c => goT 2996 (.code c A2) S1) c3_seq).trans (go_seq run3)
  have e4 : goT 2995 (.code (tl (tl (tl (tl c0)))) A3) S3 = goT 2994 (.code (tl (tl (tl (tl (tl c0))))) A4) S4 := (congrArg (fun c => goT 2995 (.code c A3) S3) c4_seq).trans (go_seq run4)
  exact e0.trans (e1.trans (e2.trans (e3.trans e4)))
theorem call5 : goT 3000 (.call 5 []) S0 = bindL (goT 2999 (.code c0 Ai) S0) (sLeave Tryz.prog dk Tryz.f5) := by
  have h : goT 3000 (.call 5 []) S0 = sCall Tryz.prog dk (go Tryz.prog 216 dk 2999) 5 [] S0 := rfl
  rw [h, sCall_eq Tryz.func5 body5 rfl]
  rfl
theorem all5 : allT (goT 3000 (.call 5 []) S0) = true := by
  rw [call5, chain]
  exact run5
theorem mixedOk : Tryz.prog.follows .mixedOrders = true := by kernel_rfl
theorem noCount : (Tryz.prog.funcs.all fun fn => !(fn.name == "runtime.NumGoroutine")) = true := by kernel_rfl
theorem cf : Cf Tryz.prog 216 := by
  constructor
  · intro args w
    kernel_rfl
  · intro g fn c args w hf hc
    have h := Array.all_eq_true_iff_forall_mem.1 noCount fn (Array.mem_of_getElem? hf)
    have hn : (fn.name == "runtime.NumGoroutine") = false := by simpa using h
    have h1 : fn.name ≠ "runtime.NumGoroutine" := by simpa using hn
    simp [callFunc, hf, h1, hc]
/-- The deferred function of Parse, where nothing panics: it leaves all as it is. -/
theorem idle (x y z : Value) (w : World) : CallsD Tryz.prog 29 #[x, y, z] .returning w fun e u' w' => (∃ v, e = .returned v) ∧ u' = .returning ∧ Below w.heap.size w w' := by
  have hb : Below w.heap.size w (w.alloc (.cells #[.int .i64 0] 96)) := (Below.refl w.heap.size w).alloc (Nat.le_refl _) _
  have hta : ∀ w, (Instr.typeAssert .nilIface 20 96 true).run Tryz.prog w = .ok (.tuple #[.agg #[.int .i64 0], .bool false]) w := fun w => by kernel_rfl
  have ht : ((#[x, y, z] : Array Value) ++ Array.replicate (Tryz.f29.ntmps - (#[x, y, z] : Array Value).size) undef) = #[x, y, z, undef, undef, undef, undef, undef, undef, undef, undef, undef, undef, undef] := rfl
  refine callsD_of_wpS Tryz.func29 rfl fun c₀ cs hu => ?_
  rw [ht]
  apply wpS_seq
  apply wpS_region
  simp [wpOpsS, go_sem, recoverD, hu, hta, Exit.thenS]
  apply wpS_seq
  apply wpS_region
  simp [wpOpsS, go_sem, Exit.thenS]
  refine wpS_cond (t := false) (by simp [Act.eval]) ?_
  simp only [Bool.false_eq_true, if_false]
  refine wpS_of_wp (wp_skip ?_)
  refine ⟨rfl, .returning, ?_, .tuple #[], ?_, ⟨_, rfl⟩, rfl, ?_⟩
  · cases c₀
    simp_all
  · simp [results, Tryz.results29]
  · simpa using hb
theorem dk_ok : Dk Tryz.prog dk := by
  intro g hg
  have hg := eqB hg
  subst hg
  refine ⟨⟨_, _, Tryz.func29, rfl⟩, fun args w h3 => ?_⟩
  obtain ⟨l⟩ := args
  match l, h3 with
  | [x, y, z], _ => exact idle x y z w
def E0 : Env := ⟨fun k => if k < 7 then some k else none, fun _ => none⟩
theorem get_S0 {id : Nat} {b : SB} (h : S0.h.get id = some b) : id = 0 ∧ b = .c true shp 0 := by
  unfold S0 at h
  simp only [Tr.get] at h
  split at h
  · rename_i h0
    injection h with h
    exact ⟨eqB h0, h.symm⟩
  · split at h <;> simp at h
/-- double() RETURNS TRUE, where the table of shapes is as it is laid. -/
theorem double_any (W : World) (arr : Array Value) (ty : TypeId) (h0 : W.heap[0]? = some (.cells arr ty (0, 0))) (hc : CellsOk E0 shp arr) :
    Calls Tryz.prog 5 #[] W fun e w' => e = .returned (.bool true) ∧ Below W.heap.size W w' := by
  have hI : Inv W.heap.size W E0 S0 W := by
    refine ⟨.refl _ _, Nat.le_refl _, fun g hg => by simp [E0, hg], fun id _ h16 => ⟨by simp [E0]; omega, rfl⟩, fun id b hg => ?_, fun i j a b hi hj _ _ hij => ?_⟩
    · obtain ⟨rfl, rfl⟩ := get_S0 hg
      exact ⟨0, arr, ty, by simp [E0], fun h => (by cases h), h0, hc, fun h => absurd rfl h⟩
    · exact absurd ((get_S0 hi).1.trans (get_S0 hj).1.symm) hij
  have hall := all5
  obtain ⟨outs, hg⟩ : ∃ outs, goT 3000 (.call 5 []) S0 = some outs := by
    cases h : goT 3000 (.call 5 []) S0 with
    | none => rw [h] at hall; cases hall
    | some outs => exact ⟨outs, rfl⟩
  rw [hg] at hall
  have hs := (go_ok mixedOk cf dk_ok 3000).call hg (Env.le.refl E0) (fun y hy => hy) hI (xs := []) rfl
  refine Calls.mono hs ?_
  rintro e w' ⟨v, S, F, x, hin, -, hI', hd, rfl⟩
  have hv := List.all_eq_true.1 hall _ hin
  simp only at hv
  split at hv
  · rename_i b heq
    injection heq with heq
    subst heq hv
    simp only [den, Option.some.injEq] at hd
    subst hd
    exact ⟨rfl, hI'.below⟩
  · cases hv
end Sy
end Go.Proofs.YtfhcngnmgfkdkaaGreatDoor
