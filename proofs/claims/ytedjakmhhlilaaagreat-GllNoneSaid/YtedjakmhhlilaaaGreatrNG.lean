/- 'GllNone': bywaylaw21.GllNone answers true, whatever numbers come in. No condition. -/
import Derived.Test.YtedjakmhhlilaaaGreatRows
import Derived.OpenShut
import Derived.Test.YtedjakmhhlilaaaGreatqGx28
set_option linter.unusedSimpArgs false
set_option linter.unusedVariables false
namespace Go.Proofs.YtedjakmhhlilaaaGreat
open Go Go.Dm
open Go.ChangeShapes Go.WideShapes Go.ChangeAt Go.RowKit
theorem own : ownKnob Tryz.prog.godebug = none := by kernel_rfl
theorem laidOut : laidOutB Tryz.prog = true := by kernel_rfl
theorem reach_le {l : List Nat} (h : l.all (· ≤ reachBytes) = true) : ∀ x ∈ l, x ≤ 140737488355328 := fun x hx => by
 have := List.all_eq_true.1 h x hx
 have h2 := reachBytes_lt
 simp only [decide_eq_true_eq] at this
 omega
set_option maxRecDepth 100000 in
theorem contractG (H : Type) (enc : TypeId × Value → H) (W : World) (base : Nat) (args : Array Value) (ds gs : List (DataW H)) (before : List MemPlace)
  (hval : ∀ (j : Nat) t v, Tryz.f3.params[j]? = some t → args[j]? = some v → Value.okWide Tryz.prog W .any base t v)
  (hW : DataW.Whole enc Tryz.prog Tryz.f3.params.toList Rows.gllNoneSpec.vars false W args.toList ds gs before)
  (hsz : (DataW.weightsEach Tryz.prog (Tryz.f3.params.toList ++ Rows.gllNoneSpec.plain.varTypes Tryz.prog) (ds ++ gs)).all (· ≤ reachBytes) = true) :
  Calls Tryz.prog 3 args W fun e W' => ∃ v, e = .returned v ∧ Rows.gllNoneSpec.post enc Tryz.prog Tryz.f3 false true false false W args v W' := by
 have hW' := hW
 obtain ⟨p, q, hA, hV, rfl, _, _⟩ := hW
 obtain ⟨rfl, rfl⟩ := trodVars_none hV
 have hw := reach_le hsz
 simp only [List.append_nil] at hW'
 rw [show Rows.gllNoneSpec.plain.varTypes Tryz.prog = [] by rfl, List.append_nil, List.append_nil] at hw
 have hps : Tryz.f3.params.toList = [3, 3] := by rw [Tryz.params3]
 rw [hps] at hA hw
 have hval' : ∀ (j : Nat) t v, ([3, 3] : List TypeId)[j]? = some t → args.toList[j]? = some v → Value.okWide Tryz.prog W .any base t v := by
  intro j t v h1 h2
  refine hval j t v ?_ (by rw [← Array.getElem?_toList]; exact h2)
  rw [Tryz.params3, ← Array.getElem?_toList]; exact h1
 clear hval hsz
 obtain ⟨das, hrd, hargs⟩ := args_rd (cur := fun _ _ => none) (n := 9) (shs := [[.i .i64], [.i .i64]]) hval' hA (by kernel_rfl) hw
 obtain ⟨v0, vs0, d0, ds0, p0, q0, hv0, rfl, rfl, h0, r0⟩ := trodAll_cons hA
 obtain ⟨v1, vs1, d1, ds1, p1, q1, hv1, rfl, rfl, h1, r1⟩ := trodAll_cons r0
 obtain ⟨rfl, rfl, rfl⟩ := trodAll_nil r1
 simp only [HasArgs] at hargs
 obtain ⟨dd0, _, hl0, rfl, dd1, _, hl1, rfl, rfl⟩ := hargs
 simp only [HasL, HasS] at hl0 hl1
 obtain ⟨_, _, rfl, ⟨a, rfl⟩, rfl⟩ := hl0
 obtain ⟨_, _, rfl, ⟨b, rfl⟩, rfl⟩ := hl1
 simp only [show isAggT Tryz.prog 3 = false by kernel_rfl, Bool.false_eq_true, if_false, List.headD_cons] at hrd
 refine law_reckon0 laidOut (by rw [Tryz.params3]; intro t ht; simp at ht; subst ht; exact ⟨by kernel_rfl, of_decide_eq_true (by kernel_rfl)⟩) (by kernel_rfl) Tryz.underlying4 rfl rfl hW' (das := [.int .i64 a, .int .i64 b]) (r := 10) ?_ (Nat.le_of_ble_eq_true (by kernel_rfl)) (lawC_ok a b).2
 simpa only [rdV, rd] using hrd
set_option maxRecDepth 100000 in
theorem liftedG (os : Os) (started : os.Started) (H : Type) (enc : TypeId × Value → H) :
  ReturnsInHanded {} Tryz.checked os 3 .any (Rows.gllNoneSpec.pre6 enc Tryz.prog Tryz.f3 Rows.gllNoneRow.domain false) (Rows.gllNoneSpec.post enc Tryz.prog Tryz.f3 false true false false) := by
 refine returnsInHanded_of_change_sized (C := Tryz.checked) own started (by kernel_rfl) Tryz.func3
  (ChangeSpec.witness6 (enc := enc) (C := Tryz.checked) false ⟨#[], #[.int .i64 0, .int .i64 0], []⟩ 8 (by kernel_rfl) (by kernel_rfl) (by kernel_rfl) (by kernel_rfl)) ?_
 intro W base args ds gs before hval hW _ hsz _
 exact contractG H enc W base args ds gs before hval hW hsz
theorem and_t {a b : Bool} (ha : a = true) (hb : b = true) : (a && b) = true := by rw [ha, hb]; rfl
set_option maxRecDepth 100000 in
set_option maxHeartbeats 20000000 in
theorem closedF : joinedFacts Tryz.pinned.checked.prog 3 Tryz.f3 Rows.gllNoneSpec Rows.gllNoneRow = true := by
 unfold joinedFacts
 refine and_t (and_t (and_t (and_t (and_t (and_t (and_t (and_t (and_t (and_t (and_t (and_t (and_t (and_t (and_t (and_t (and_t (and_t (and_t (and_t (and_t (and_t (and_t (and_t (and_t (and_t (and_t (and_t (and_t (and_t (and_t ?_ ?_) ?_) ?_) ?_) ?_) ?_) ?_) ?_) ?_) ?_) ?_) ?_) ?_) ?_) ?_) ?_) ?_) ?_) ?_) ?_) ?_) ?_) ?_) ?_) ?_) ?_) ?_) ?_) ?_) ?_) ?_
 all_goals (as_aux_lemma => kernel_rfl)
theorem row_func : Tryz.prog.funcNamed "byway/bywaylaw21.GllNone" = some 3 := by kernel_rfl
theorem gllNone_said : Rows.GllNoneSaid :=
 OpenClaim.holds_of_wide 3 Tryz.f3 rfl rfl rfl rfl rfl rfl rfl ⟨rfl, rfl, rfl, rfl, rfl⟩ rfl rfl rfl rfl rfl row_func Tryz.func3 closedF
  (of_decide_eq_true (by kernel_rfl)) (by unfold Func.isWrapper; first | (rw [if_pos (by decide +kernel)]; kernel_rfl) | (rw [if_neg (by decide +kernel)]; exact ⟨rfl, rfl⟩))
  (fun os started H enc _ => liftedG os started H enc)
end Go.Proofs.YtedjakmhhlilaaaGreat
