/- 'BoxSteps': bywaylaw10.BoxSteps answers true for every argument, and leaves what came in as it was. No condition. -/
import Derived.Test.YtnmbgbeajacpfaaqBS7
set_option linter.unusedSimpArgs false
set_option linter.unusedVariables false
namespace Go.Proofs.Ytnmbgbeajacpfaa
open Go Go.Dm
open Go.ChangeShapes Go.WideShapes Go.ChangeAt Go.RowKit

set_option maxRecDepth 100000 in
theorem contract4 (H : Type) (enc : TypeId × Value → H) (W : World) (base : Nat) (args : Array Value) (ds gs : List (DataW H)) (before : List MemPlace)
    (hval : ∀ (j : Nat) t v, Try.f4.params[j]? = some t → args[j]? = some v → Value.okWide Try.prog W .any base t v)
    (hW : DataW.Whole enc Try.prog Try.f4.params.toList Rows.boxStepsSpec.vars false W args.toList ds gs before)
    (hsz : (DataW.weightsEach Try.prog (Try.f4.params.toList ++ Rows.boxStepsSpec.plain.varTypes Try.prog) (ds ++ gs)).all (· ≤ reachBytes) = true) :
    Calls Try.prog 4 args W fun e W' => ∃ v, e = .returned v ∧ Rows.boxStepsSpec.post enc Try.prog Try.f4 false true false false W args v W' := by
  have hW' := hW
  obtain ⟨p, q, hA, hV, rfl, _, _⟩ := hW
  obtain ⟨rfl, rfl⟩ := trodVars_none hV
  have hw := reach_le hsz
  simp only [List.append_nil] at hW'
  rw [show Rows.boxStepsSpec.plain.varTypes Try.prog = [] by rfl, List.append_nil, List.append_nil] at hw
  have hps : Try.f4.params.toList = [25, 22, 32] := by rw [Try.params4]
  rw [hps] at hA hw
  have hval' : ∀ (j : Nat) t v, ([25, 22, 32] : List TypeId)[j]? = some t → args.toList[j]? = some v → Value.okWide Try.prog W .any base t v := by
    intro j t v h1 h2
    refine hval j t v ?_ (by rw [← Array.getElem?_toList]; exact h2)
    rw [Try.params4, ← Array.getElem?_toList]; exact h1
  clear hval hsz
  obtain ⟨das, hrd, hargs⟩ := args_rd (cur := fun _ _ => none) (n := 9) (shs := [shAuto, [.sl 1 8 shNum], shSym]) hval' hA (by kernel_rfl) hw
  obtain ⟨v0, vs0, d0, ds0, p0, q0, hv0, rfl, rfl, h0, r0⟩ := trodAll_cons hA
  obtain ⟨v1, vs1, d1, ds1, p1, q1, hv1, rfl, rfl, h1, r1⟩ := trodAll_cons r0
  obtain ⟨v2, vs2, d2, ds2, p2, q2, hv2, rfl, rfl, h2, r2⟩ := trodAll_cons r1
  obtain ⟨rfl, rfl, rfl⟩ := trodAll_nil r2
  simp only [HasArgs] at hargs
  obtain ⟨dd0, _, hl0, rfl, hargs0⟩ := hargs
  obtain ⟨dd1, _, hl1, rfl, hargs1⟩ := hargs0
  obtain ⟨dd2, _, hl2, rfl, rfl⟩ := hargs1
  obtain ⟨a, rfl⟩ := has_auto hl0
  obtain ⟨l, rfl⟩ := has_nums hl1
  obtain ⟨s, rfl⟩ := has_sym hl2
  simp only [show isAggT Try.prog 25 = true by kernel_rfl, show isAggT Try.prog 22 = false by kernel_rfl, show isAggT Try.prog 32 = true by kernel_rfl, if_true, Bool.false_eq_true, if_false, List.headD_cons] at hrd
  exact law_contract laidOut (by rw [Try.params4]; intro t ht; simp at ht; (try rcases ht with rfl | rfl | rfl) <;> (try subst ht) <;> exact ⟨by kernel_rfl, of_decide_eq_true (by kernel_rfl)⟩) (by kernel_rfl) Try.underlying4 rfl rfl hW' hrd (boxSteps_pure a l s)

set_option maxRecDepth 100000 in
theorem lifted4 (os : Os) (started : os.Started) (H : Type) (enc : TypeId × Value → H) :
    ReturnsInHanded {} Try.checked os 4 .any (Rows.boxStepsSpec.pre6 enc Try.prog Try.f4 Rows.boxStepsRow.domain false) (Rows.boxStepsSpec.post enc Try.prog Try.f4 false true false false) := by
  refine returnsInHanded_of_change_sized (C := Try.checked) own started (by kernel_rfl) Try.func4
    (ChangeSpec.witness6 (enc := enc) (C := Try.checked) false ⟨#[], #[.agg #[.int .i64 0, .slice none 0 0, .slice none 0 0], .slice none 0 0, .agg #[.bool false, .int .i64 0]], []⟩ 8 (by kernel_rfl) (by kernel_rfl) (by kernel_rfl) (by kernel_rfl)) ?_
  intro W base args ds gs before hval hW _ hsz _
  exact contract4 H enc W base args ds gs before hval hW hsz

/-- 'bywaylaw10.BoxSteps' answers true for every argument, and leaves what came in as it was. -/
theorem boxSteps_said : Rows.BoxStepsSaid :=
  OpenClaim.holds_of_wide 4 Try.f4 rfl rfl rfl rfl rfl rfl rfl ⟨rfl, rfl, rfl, rfl, rfl⟩ rfl rfl rfl rfl rfl (by kernel_rfl) Try.func4 (by kernel_rfl)
    (of_decide_eq_true (by kernel_rfl)) (by unfold Func.isWrapper; first | (rw [if_pos (by decide +kernel)]; kernel_rfl) | (rw [if_neg (by decide +kernel)]; exact ⟨rfl, rfl⟩))
    (fun os started H enc _ => lifted4 os started H enc)
end Go.Proofs.Ytnmbgbeajacpfaa
