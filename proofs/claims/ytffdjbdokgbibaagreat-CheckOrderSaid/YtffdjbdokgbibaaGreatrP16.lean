/- 'CheckOrder': bywaylaw27.CheckOrder answers true for every argument, and leaves what came in as it was. No condition. -/
import Derived.Test.YtffdjbdokgbibaaGreatqCO10
import Derived.Test.YtffdjbdokgbibaaGreatqCO11
set_option linter.unusedSimpArgs false
set_option linter.unusedVariables false
namespace Go.Proofs.YtffdjbdokgbibaaGreat
open Go Go.Dm
open Go.ChangeShapes Go.WideShapes Go.ChangeAt Go.RowKit

set_option maxRecDepth 100000 in
theorem contract3 (H : Type) (enc : TypeId × Value → H) (W : World) (base : Nat) (args : Array Value) (ds gs : List (DataW H)) (before : List MemPlace)
    (hval : ∀ (j : Nat) t v, Tryz.f3.params[j]? = some t → args[j]? = some v → Value.okWide Tryz.prog W .any base t v)
    (hW : DataW.Whole enc Tryz.prog Tryz.f3.params.toList Rows.checkOrderSpec.vars false W args.toList ds gs before)
    (hsz : (DataW.weightsEach Tryz.prog (Tryz.f3.params.toList ++ Rows.checkOrderSpec.plain.varTypes Tryz.prog) (ds ++ gs)).all (· ≤ reachBytes) = true) :
    Calls Tryz.prog 3 args W fun e W' => ∃ v, e = .returned v ∧ Rows.checkOrderSpec.post enc Tryz.prog Tryz.f3 false true false false W args v W' := by
  have hW' := hW
  obtain ⟨p, q, hA, hV, rfl, _, _⟩ := hW
  obtain ⟨rfl, rfl⟩ := trodVars_none hV
  have hw := reach_le hsz
  simp only [List.append_nil] at hW'
  rw [show Rows.checkOrderSpec.plain.varTypes Tryz.prog = [] by rfl, List.append_nil, List.append_nil] at hw
  have hps : Tryz.f3.params.toList = [22] := by rw [Tryz.params3]
  rw [hps] at hA hw
  have hval' : ∀ (j : Nat) t v, ([22] : List TypeId)[j]? = some t → args.toList[j]? = some v → Value.okWide Tryz.prog W .any base t v := by
    intro j t v h1 h2
    refine hval j t v ?_ (by rw [← Array.getElem?_toList]; exact h2)
    rw [Tryz.params3, ← Array.getElem?_toList]; exact h1
  clear hval hsz
  obtain ⟨das, hrd, hargs⟩ := args_rd (cur := fun _ _ => none) (n := 9) (shs := [[.sl 1 24 shWay]]) hval' hA (by kernel_rfl) hw
  obtain ⟨v0, vs0, d0, ds0, p0, q0, hv0, rfl, rfl, h0, r0⟩ := trodAll_cons hA
  obtain ⟨rfl, rfl, rfl⟩ := trodAll_nil r0
  simp only [HasArgs] at hargs
  obtain ⟨dd0, _, hl0, rfl, rfl⟩ := hargs
  obtain ⟨ws, rfl⟩ := has_ws hl0
  simp only [show isAggT Tryz.prog 22 = false by kernel_rfl, if_true, Bool.false_eq_true, if_false, List.headD_cons] at hrd
  exact law_contract laidOut (by rw [Tryz.params3]; intro t ht; simp at ht; (try rcases ht with rfl) <;> (try subst ht) <;> exact ⟨by kernel_rfl, of_decide_eq_true (by kernel_rfl)⟩) (by kernel_rfl) Tryz.underlying4 rfl rfl hW' hrd (checkOrder_pure ws)

set_option maxRecDepth 100000 in
theorem lifted3 (os : Os) (started : os.Started) (H : Type) (enc : TypeId × Value → H) :
    ReturnsInHanded {} Tryz.checked os 3 .any (Rows.checkOrderSpec.pre6 enc Tryz.prog Tryz.f3 Rows.checkOrderRow.domain false) (Rows.checkOrderSpec.post enc Tryz.prog Tryz.f3 false true false false) := by
  refine returnsInHanded_of_change_sized (C := Tryz.checked) own started (by kernel_rfl) Tryz.func3
    (ChangeSpec.witness6 (enc := enc) (C := Tryz.checked) false ⟨#[], #[.slice none 0 0], []⟩ 8 (by kernel_rfl) (by kernel_rfl) (by kernel_rfl) (by kernel_rfl)) ?_
  intro W base args ds gs before hval hW _ hsz _
  exact contract3 H enc W base args ds gs before hval hW hsz

/-- 'bywaylaw27.CheckOrder' answers true for every argument, and leaves what came in as it was. -/
theorem checkOrder_said : Rows.CheckOrderSaid :=
  OpenClaim.holds_of_wide 3 Tryz.f3 rfl rfl rfl rfl rfl rfl rfl ⟨rfl, rfl, rfl, rfl, rfl⟩ rfl rfl rfl rfl rfl (by kernel_rfl) Tryz.func3 (by kernel_rfl)
    (of_decide_eq_true (by kernel_rfl)) (by unfold Func.isWrapper; first | (rw [if_pos (by decide +kernel)]; kernel_rfl) | (rw [if_neg (by decide +kernel)]; exact ⟨rfl, rfl⟩))
    (fun os started H enc _ => lifted3 os started H enc)
end Go.Proofs.YtffdjbdokgbibaaGreat
