/- 'CheckWay': bywaylaw27.CheckWay answers true for every argument, and leaves what came in as it was. No condition. -/
import Derived.Test.YtihkcegelghcpaaqCw11
set_option linter.unusedSimpArgs false
set_option linter.unusedVariables false
namespace Go.Proofs.Ytihkcegelghcpaa
open Go Go.Dm
open Go.ChangeShapes Go.WideShapes Go.ChangeAt Go.RowKit

set_option maxRecDepth 100000 in
theorem contract10 (H : Type) (enc : TypeId × Value → H) (W : World) (base : Nat) (args : Array Value) (ds gs : List (DataW H)) (before : List MemPlace)
    (hval : ∀ (j : Nat) t v, Try.f10.params[j]? = some t → args[j]? = some v → Value.okWide Try.prog W .any base t v)
    (hW : DataW.Whole enc Try.prog Try.f10.params.toList Rows.checkWaySpec.vars false W args.toList ds gs before)
    (hsz : (DataW.weightsEach Try.prog (Try.f10.params.toList ++ Rows.checkWaySpec.plain.varTypes Try.prog) (ds ++ gs)).all (· ≤ reachBytes) = true) :
    Calls Try.prog 10 args W fun e W' => ∃ v, e = .returned v ∧ Rows.checkWaySpec.post enc Try.prog Try.f10 false true false false W args v W' := by
  have hW' := hW
  obtain ⟨p, q, hA, hV, rfl, _, _⟩ := hW
  obtain ⟨rfl, rfl⟩ := trodVars_none hV
  have hw := reach_le hsz
  simp only [List.append_nil] at hW'
  rw [show Rows.checkWaySpec.plain.varTypes Try.prog = [] by rfl, List.append_nil, List.append_nil] at hw
  have hps : Try.f10.params.toList = [55] := by rw [Try.params10]
  rw [hps] at hA hw
  have hval' : ∀ (j : Nat) t v, ([55] : List TypeId)[j]? = some t → args.toList[j]? = some v → Value.okWide Try.prog W .any base t v := by
    intro j t v h1 h2
    refine hval j t v ?_ (by rw [← Array.getElem?_toList]; exact h2)
    rw [Try.params10, ← Array.getElem?_toList]; exact h1
  clear hval hsz
  obtain ⟨das, hrd, hargs⟩ := args_rd (cur := fun _ _ => none) (n := 9) (shs := [shAsk]) hval' hA (by kernel_rfl) hw
  obtain ⟨v0, vs0, d0, ds0, p0, q0, hv0, rfl, rfl, h0, r0⟩ := trodAll_cons hA
  obtain ⟨rfl, rfl, rfl⟩ := trodAll_nil r0
  simp only [HasArgs] at hargs
  obtain ⟨dd0, _, hl0, rfl, rfl⟩ := hargs
  obtain ⟨rs, hr, g, nt, a, b, way, rfl⟩ := has_ask hl0
  simp only [show isAggT Try.prog 55 = true by kernel_rfl, if_true, Bool.false_eq_true, if_false, List.headD_cons] at hrd
  exact law_contract laidOut (by rw [Try.params10]; intro t ht; simp at ht; (try rcases ht with rfl) <;> (try subst ht) <;> exact ⟨by kernel_rfl, of_decide_eq_true (by kernel_rfl)⟩) (by kernel_rfl) Try.underlying4 rfl rfl hW' hrd (checkWay_pure 2 40 rs hr g nt a b way)

set_option maxRecDepth 100000 in
theorem lifted10 (os : Os) (started : os.Started) (H : Type) (enc : TypeId × Value → H) :
    ReturnsInHanded {} Try.checked os 10 .any (Rows.checkWaySpec.pre6 enc Try.prog Try.f10 Rows.checkWayRow.domain false) (Rows.checkWaySpec.post enc Try.prog Try.f10 false true false false) := by
  refine returnsInHanded_of_change_sized (C := Try.checked) own started (by kernel_rfl) Try.func10
    (ChangeSpec.witness6 (enc := enc) (C := Try.checked) false ⟨#[], #[.agg #[.slice none 0 0, .slice none 0 0, .slice none 0 0, .string ⟨#[]⟩, .string ⟨#[]⟩, .string ⟨#[]⟩, .slice none 0 0]], []⟩ 8 (by kernel_rfl) (by kernel_rfl) (by kernel_rfl) (by kernel_rfl)) ?_
  intro W base args ds gs before hval hW _ hsz _
  exact contract10 H enc W base args ds gs before hval hW hsz

/-- 'bywaylaw27.CheckWay' answers true for every argument, and leaves what came in as it was. -/
theorem checkWay_said : Rows.CheckWaySaid :=
  OpenClaim.holds_of_wide 10 Try.f10 rfl rfl rfl rfl rfl rfl rfl ⟨rfl, rfl, rfl, rfl, rfl⟩ rfl rfl rfl rfl rfl (by kernel_rfl) Try.func10 (by kernel_rfl)
    (of_decide_eq_true (by kernel_rfl)) (by unfold Func.isWrapper; first | (rw [if_pos (by decide +kernel)]; kernel_rfl) | (rw [if_neg (by decide +kernel)]; exact ⟨rfl, rfl⟩))
    (fun os started H enc _ => lifted10 os started H enc)
end Go.Proofs.Ytihkcegelghcpaa
