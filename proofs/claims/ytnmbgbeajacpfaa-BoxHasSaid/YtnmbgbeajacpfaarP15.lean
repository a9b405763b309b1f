/- 'BoxHas': bywaylaw10.BoxHas answers true for every argument, and leaves what came in as it was. No condition. -/
import Derived.Test.YtnmbgbeajacpfaaqBS7
import Derived.Test.YtnmbgbeajacpfaaqBS8
set_option linter.unusedSimpArgs false
set_option linter.unusedVariables false
namespace Go.Proofs.Ytnmbgbeajacpfaa
open Go Go.Dm
open Go.ChangeShapes Go.WideShapes Go.ChangeAt Go.RowKit

set_option maxRecDepth 100000 in
theorem contract5 (H : Type) (enc : TypeId × Value → H) (W : World) (base : Nat) (args : Array Value) (ds gs : List (DataW H)) (before : List MemPlace)
    (hval : ∀ (j : Nat) t v, Try.f5.params[j]? = some t → args[j]? = some v → Value.okWide Try.prog W .any base t v)
    (hW : DataW.Whole enc Try.prog Try.f5.params.toList Rows.boxHasSpec.vars false W args.toList ds gs before)
    (hsz : (DataW.weightsEach Try.prog (Try.f5.params.toList ++ Rows.boxHasSpec.plain.varTypes Try.prog) (ds ++ gs)).all (· ≤ reachBytes) = true) :
    Calls Try.prog 5 args W fun e W' => ∃ v, e = .returned v ∧ Rows.boxHasSpec.post enc Try.prog Try.f5 false true false false W args v W' := by
  have hW' := hW
  obtain ⟨p, q, hA, hV, rfl, _, _⟩ := hW
  obtain ⟨rfl, rfl⟩ := trodVars_none hV
  have hw := reach_le hsz
  simp only [List.append_nil] at hW'
  rw [show Rows.boxHasSpec.plain.varTypes Try.prog = [] by rfl, List.append_nil, List.append_nil] at hw
  have hps : Try.f5.params.toList = [25, 39] := by rw [Try.params5]
  rw [hps] at hA hw
  have hval' : ∀ (j : Nat) t v, ([25, 39] : List TypeId)[j]? = some t → args.toList[j]? = some v → Value.okWide Try.prog W .any base t v := by
    intro j t v h1 h2
    refine hval j t v ?_ (by rw [← Array.getElem?_toList]; exact h2)
    rw [Try.params5, ← Array.getElem?_toList]; exact h1
  clear hval hsz
  obtain ⟨das, hrd, hargs⟩ := args_rd (cur := fun _ _ => none) (n := 9) (shs := [shAuto, [.sl 2 16 shSym]]) hval' hA (by kernel_rfl) hw
  obtain ⟨v0, vs0, d0, ds0, p0, q0, hv0, rfl, rfl, h0, r0⟩ := trodAll_cons hA
  obtain ⟨v1, vs1, d1, ds1, p1, q1, hv1, rfl, rfl, h1, r1⟩ := trodAll_cons r0
  obtain ⟨rfl, rfl, rfl⟩ := trodAll_nil r1
  simp only [HasArgs] at hargs
  obtain ⟨dd0, _, hl0, rfl, hargs0⟩ := hargs
  obtain ⟨dd1, _, hl1, rfl, rfl⟩ := hargs0
  obtain ⟨a, rfl⟩ := has_auto hl0
  obtain ⟨w, rfl⟩ := has_syms hl1
  simp only [show isAggT Try.prog 25 = true by kernel_rfl, show isAggT Try.prog 39 = false by kernel_rfl, if_true, Bool.false_eq_true, if_false, List.headD_cons] at hrd
  exact law_contract laidOut (by rw [Try.params5]; intro t ht; simp at ht; (try rcases ht with rfl | rfl) <;> (try subst ht) <;> exact ⟨by kernel_rfl, of_decide_eq_true (by kernel_rfl)⟩) (by kernel_rfl) Try.underlying4 rfl rfl hW' hrd (boxHas_pure a w)

set_option maxRecDepth 100000 in
theorem lifted5 (os : Os) (started : os.Started) (H : Type) (enc : TypeId × Value → H) :
    ReturnsInHanded {} Try.checked os 5 .any (Rows.boxHasSpec.pre6 enc Try.prog Try.f5 Rows.boxHasRow.domain false) (Rows.boxHasSpec.post enc Try.prog Try.f5 false true false false) := by
  refine returnsInHanded_of_change_sized (C := Try.checked) own started (by kernel_rfl) Try.func5
    (ChangeSpec.witness6 (enc := enc) (C := Try.checked) false ⟨#[], #[.agg #[.int .i64 0, .slice none 0 0, .slice none 0 0], .slice none 0 0], []⟩ 8 (by kernel_rfl) (by kernel_rfl) (by kernel_rfl) (by kernel_rfl)) ?_
  intro W base args ds gs before hval hW _ hsz _
  exact contract5 H enc W base args ds gs before hval hW hsz

/-- 'bywaylaw10.BoxHas' answers true for every argument, and leaves what came in as it was. -/
theorem boxHas_said : Rows.BoxHasSaid :=
  OpenClaim.holds_of_wide 5 Try.f5 rfl rfl rfl rfl rfl rfl rfl ⟨rfl, rfl, rfl, rfl, rfl⟩ rfl rfl rfl rfl rfl (by kernel_rfl) Try.func5 (by kernel_rfl)
    (of_decide_eq_true (by kernel_rfl)) (by unfold Func.isWrapper; first | (rw [if_pos (by decide +kernel)]; kernel_rfl) | (rw [if_neg (by decide +kernel)]; exact ⟨rfl, rfl⟩))
    (fun os started H enc _ => lifted5 os started H enc)
end Go.Proofs.Ytnmbgbeajacpfaa
