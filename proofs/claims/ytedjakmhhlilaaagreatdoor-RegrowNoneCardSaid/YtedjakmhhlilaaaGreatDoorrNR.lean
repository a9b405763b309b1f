/- 'RegrowNone': bywaylaw24.RegrowNone answers true for every argument, and leaves what came in as it was. Condition: the table math/bits.deBruijn64tab reads as its initialiser lays it, which the card ties to the program's text. -/
import Derived.Test.YtedjakmhhlilaaaGreatDoorTie
import Derived.Test.YtedjakmhhlilaaaGreatDoorCards
import Derived.ProofKit
import Derived.LaidMore
import Derived.MakeChecks
import Derived.OpenShut
import Derived.Stop.Joined
import Derived.SevenTiedAt
import Derived.Test.YtedjakmhhlilaaaGreatDoorqRx29
import Derived.Test.YtedjakmhhlilaaaGreatDoorqTx30
set_option linter.unusedSimpArgs false
set_option linter.unusedVariables false
namespace Go.Proofs.YtedjakmhhlilaaaGreatDoor
open Go Go.Dm
open Go.ChangeShapes Go.WideShapes Go.ChangeAt Go.RowKit
theorem own : ownKnob Tryz.prog.godebug = none := by kernel_rfl
theorem laidOut : laidOutB Tryz.prog = true := by kernel_rfl
theorem reach_le {l : List Nat} (h : l.all (· ≤ reachBytes) = true) : ∀ x ∈ l, x ≤ 140737488355328 := fun x hx => by
 have := List.all_eq_true.1 h x hx
 have h2 := reachBytes_lt
 simp only [decide_eq_true_eq] at this
 omega
theorem tab_lies {W : World} (h : laidMetH Tryz.prog [("math/bits.deBruijn64tab", Rows.laid_math_bits_deBruijn64tab)] W) : ∃ loc, St [glE] loc [] W.heap := by
 rw [MakeChecks.laidMetH_plain _ _ _ (by kernel_rfl)] at h
 exact tab_st (t := 384) (e := 5) (n := 64) (by kernel_rfl) (by kernel_rfl) (by kernel_rfl) (by kernel_rfl) (by kernel_rfl) (by kernel_rfl) (by decide) (by decide) h
theorem door_met (os : Os) (args : Array Value) : laidMetH Tryz.prog [("math/bits.deBruijn64tab", Rows.laid_math_bits_deBruijn64tab)] ((World.doorLaid Tryz.prog 14 os).forCall (fun _ _ => 0) ⟨#[], args, []⟩).memory :=
 laidMetH_of_parts3 (fuel := 8) (laidMet_of_run' 8 (by kernel_rfl) (by kernel_rfl)) (by kernel_rfl) (by kernel_rfl)
set_option maxRecDepth 100000 in
theorem contractR (H : Type) (enc : TypeId × Value → H) (W : World) (base : Nat) (args : Array Value) (ds gs : List (DataW H)) (before : List MemPlace)
  (hval : ∀ (j : Nat) t v, Tryz.f3.params[j]? = some t → args[j]? = some v → Value.okWide Tryz.prog W .any base t v)
  (hW : DataW.Whole enc Tryz.prog Tryz.f3.params.toList Rows.regrowNoneSpec.vars false W args.toList ds gs before)
  (hsz : (DataW.weightsEach Tryz.prog (Tryz.f3.params.toList ++ Rows.regrowNoneSpec.plain.varTypes Tryz.prog) (ds ++ gs)).all (· ≤ reachBytes) = true)
  (hL : laidMetH Tryz.prog [("math/bits.deBruijn64tab", Rows.laid_math_bits_deBruijn64tab)] W) :
  Calls Tryz.prog 3 args W fun e W' => ∃ v, e = .returned v ∧ Rows.regrowNoneSpec.post enc Tryz.prog Tryz.f3 false true false false W args v W' := by
 have hW' := hW
 obtain ⟨p, q, hA, hV, rfl, _, _⟩ := hW
 obtain ⟨rfl, rfl⟩ := trodVars_none hV
 have hw := reach_le hsz
 simp only [List.append_nil] at hW'
 rw [show Rows.regrowNoneSpec.plain.varTypes Tryz.prog = [] by rfl, List.append_nil, List.append_nil] at hw
 have hps : Tryz.f3.params.toList = [23, 25] := by rw [Tryz.params3]
 rw [hps] at hA hw
 have hval' : ∀ (j : Nat) t v, ([23, 25] : List TypeId)[j]? = some t → args.toList[j]? = some v → Value.okWide Tryz.prog W .any base t v := by
  intro j t v h1 h2
  refine hval j t v ?_ (by rw [← Array.getElem?_toList]; exact h2)
  rw [Tryz.params3, ← Array.getElem?_toList]; exact h1
 clear hval hsz
 obtain ⟨das, hrd, hargs⟩ := args_rd (cur := fun _ _ => none) (n := 9) (shs := [[.s, .s, .s], [.i .i64, .i .i64, .i .i64]]) hval' hA (by kernel_rfl) hw
 obtain ⟨v0, vs0, d0, ds0, p0, q0, hv0, rfl, rfl, h0, r0⟩ := trodAll_cons hA
 obtain ⟨v1, vs1, d1, ds1, p1, q1, hv1, rfl, rfl, h1, r1⟩ := trodAll_cons r0
 obtain ⟨rfl, rfl, rfl⟩ := trodAll_nil r1
 simp only [HasArgs] at hargs
 obtain ⟨dd0, _, hl0, rfl, dd1, _, hl1, rfl, rfl⟩ := hargs
 simp only [HasL, HasS] at hl0 hl1
 obtain ⟨_, _, rfl, ⟨x, rfl, _⟩, _, _, rfl, ⟨y, rfl, _⟩, _, _, rfl, ⟨z, rfl, _⟩, rfl⟩ := hl0
 obtain ⟨_, _, rfl, ⟨a, rfl⟩, _, _, rfl, ⟨b, rfl⟩, _, _, rfl, ⟨c, rfl⟩, rfl⟩ := hl1
 rw [show isAggT Tryz.prog 25 = true by kernel_rfl, show isAggT Tryz.prog 23 = true by kernel_rfl, if_pos rfl, if_pos rfl] at hrd
 obtain ⟨loc, S⟩ := tab_lies hL
 refine law_reckon laidOut (by rw [Tryz.params3]; intro t ht; simp at ht; rcases ht with rfl | rfl <;> exact ⟨by kernel_rfl, of_decide_eq_true (by kernel_rfl)⟩) (by kernel_rfl) Tryz.underlying4 rfl rfl hW' S ?_ (r := 10) (Nat.le_of_ble_eq_true (by kernel_rfl)) (Nat.le_of_ble_eq_true (by kernel_rfl)) (lawC_ok x y z a b c).2 ?_
 ·show rdV _ _ W.heap [.agg [.str x, .str y, .str z], .agg [.int .i64 a, .int .i64 b, .int .i64 c]] _
  simpa only [rdV, rd] using hrd
 ·intro e he
  simp only [List.mem_singleton] at he
  subst he
  exact ⟨by simp [lawC, CE.out, idB], by decide, _, _, rfl⟩
set_option maxRecDepth 100000 in
theorem liftedR (os : Os) (started : os.Started) (H : Type) (enc : TypeId × Value → H) :
  ReturnsInHanded {} Tryz.checked os 3 .any (fun w args => (Rows.regrowNoneSpec.pre enc Tryz.prog Tryz.f3 [] false w args ∧ laidMetH Tryz.prog [("math/bits.deBruijn64tab", Rows.laid_math_bits_deBruijn64tab)] w) ∧ sizedMet enc Tryz.prog Tryz.f3 (OpenSpec.ofChange Rows.regrowNoneSpec) false w args)
   (Rows.regrowNoneSpec.post enc Tryz.prog Tryz.f3 false true false false) := by
 refine returnsInHanded_of_change_and (C := Tryz.checked) (X := fun w _ => laidMetH Tryz.prog [("math/bits.deBruijn64tab", Rows.laid_math_bits_deBruijn64tab)] w) (fun _ _ _ hh h => h.of_heap hh) own started (by kernel_rfl) Tryz.func3
  (ChangeSpec.witness_shaped (enc := enc) (C := Tryz.checked) (os := os) (X := fun w _ => laidMetH Tryz.prog [("math/bits.deBruijn64tab", Rows.laid_math_bits_deBruijn64tab)] w) false (World.doorLaid Tryz.prog 14 os) #[.agg #[.string ⟨#[]⟩, .string ⟨#[]⟩, .string ⟨#[]⟩], .agg #[.int .i64 0, .int .i64 0, .int .i64 0]] 8 rfl (World.shaped_of_RefB (by kernel_rfl) (by kernel_rfl)) (by kernel_rfl) (by kernel_rfl) (by kernel_rfl) (door_met os _)) ?_
 intro W base args ds gs before hval hW _ hsz hL _
 exact contractR H enc W base args ds gs before hval hW hsz hL
theorem and_t {a b : Bool} (ha : a = true) (hb : b = true) : (a && b) = true := by rw [ha, hb]; rfl
set_option maxRecDepth 100000 in
set_option maxHeartbeats 20000000 in
theorem closedF : joinedFacts Tryz.pinned.checked.prog 3 Tryz.f3 Rows.regrowNoneSpec Rows.regrowNoneRow = true := by
 unfold joinedFacts
 refine and_t (and_t (and_t (and_t (and_t (and_t (and_t (and_t (and_t (and_t (and_t (and_t (and_t (and_t (and_t (and_t (and_t (and_t (and_t (and_t (and_t (and_t (and_t (and_t (and_t (and_t (and_t (and_t (and_t (and_t (and_t ?_ ?_) ?_) ?_) ?_) ?_) ?_) ?_) ?_) ?_) ?_) ?_) ?_) ?_) ?_) ?_) ?_) ?_) ?_) ?_) ?_) ?_) ?_) ?_) ?_) ?_) ?_) ?_) ?_) ?_) ?_) ?_
 all_goals (as_aux_lemma => kernel_rfl)
theorem card_wf : Rows.regrowNoneRow.wfByText (OpenSpec.ofChange Rows.regrowNoneSpec) = true := by kernel_rfl
theorem card_main : Tryz.pinned.checked.prog.mainIs = some (true, "0688f1d7d0a816980b20f8d0ec199700e40cb3f93861d5e56532a4e427e09bc7".toList) := by kernel_rfl
theorem card_looks : true = Tryz.pinned.checked.prog.looks [] := by kernel_rfl
theorem card_goes : false = Rows.regrowNoneRow.goesBy Tryz.pinned.checked.prog := by kernel_rfl
theorem card_func : Tryz.prog.funcNamed "byway/bywaylaw24.RegrowNone" = some 3 := by kernel_rfl
theorem regrowNone_holds : Rows.RegrowNoneSaid :=
 OpenClaim.holds_of_wide 3 Tryz.f3 rfl rfl rfl rfl rfl rfl rfl ⟨rfl, rfl, rfl, rfl, rfl⟩ rfl rfl rfl rfl rfl card_func Tryz.func3 closedF
  (of_decide_eq_true (by kernel_rfl)) (by unfold Func.isWrapper; first | (rw [if_pos (by decide +kernel)]; kernel_rfl) | (rw [if_neg (by decide +kernel)]; exact ⟨rfl, rfl⟩))
  (fun os started H enc _ => liftedR os started H enc)
theorem regrowNone_card : Rows.RegrowNoneCardSaid :=
 Claim7.holds_tied_plain_at .later [] [.data] true (true, "0688f1d7d0a816980b20f8d0ec199700e40cb3f93861d5e56532a4e427e09bc7") true
  regrowNone_holds (fun _ h => by cases h) card_wf (fun _ h => by cases h) regrowNone_row_tie rfl ⟨rfl, rfl⟩ card_main rfl
  (fun f fn hf hfn => by
   obtain rfl : f = 3 := Option.some.inj (card_func.symm.trans hf) |>.symm
   obtain rfl : fn = Tryz.f3 := (Option.some.inj (Tryz.func3.symm.trans hfn)).symm
   exact ⟨card_looks, fun j t ht => by
    rw [Tryz.params3] at ht
    have hm : t ∈ [23, 25] := by simpa using Array.mem_of_getElem? ht
    have hall : ([23, 25].all fun u => !Tryz.prog.wantsStandIn u) = true := by kernel_rfl
    exact (show Tryz.prog.wantsStandIn t = false by simpa using List.all_eq_true.1 hall t hm)⟩)
  card_goes
end Go.Proofs.YtedjakmhhlilaaaGreatDoor
