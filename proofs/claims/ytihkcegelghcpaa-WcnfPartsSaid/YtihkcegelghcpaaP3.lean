/- 'WcnfParts': bywaylaw14.WcnfParts answers true, whatever productions come in, and leaves them as they were. No condition. -/
import Derived.Test.YtihkcegelghcpaaW3
import Derived.Test.YtihkcegelghcpaaEnU
import Derived.Test.YtihkcegelghcpaaRows
set_option linter.unusedSimpArgs false
set_option linter.unusedVariables false
namespace Go.Proofs.Ytihkcegelghcpaa
open Go Go.Dm
open Go.ChangeShapes Go.WideShapes Go.ChangeAt Go.RowKit

theorem own : ownKnob Try.prog.godebug = none := by kernel_rfl
theorem laidOut : laidOutB Try.prog = true := by kernel_rfl

def shSym : List Sh := [.b, .i .i64]
def shProd : List Sh := [.i .i64, .sl 2 16 shSym]
def shCnf : List Sh := [.i .i64, .sl 2 32 shProd]
theorem has_sym {ds : List DVal} (h : HasL shSym ds) : ∃ s : Sym, ds = dSym s := by
  simp only [shSym, HasL, HasS] at h
  obtain ⟨_, _, rfl, ⟨b, rfl⟩, _, _, rfl, ⟨n, rfl⟩, rfl⟩ := h
  exact ⟨⟨b, n⟩, rfl⟩
theorem has_prod {ds : List DVal} (h : HasL shProd ds) : ∃ p : Prod, ds = dProd p := by
  simp only [shProd, HasL, HasS] at h
  obtain ⟨_, _, rfl, ⟨n, rfl⟩, _, _, rfl, ⟨es, rfl, he⟩, rfl⟩ := h
  obtain ⟨l, rfl⟩ := rows_form (fun e h => has_sym (he e h))
  exact ⟨⟨n, l⟩, rfl⟩
theorem has_cnf {ds : List DVal} (h : HasL shCnf ds) : ∃ c : Cnf, ds = dCnf c := by
  simp only [shCnf, HasL, HasS] at h
  obtain ⟨_, _, rfl, ⟨n, rfl⟩, _, _, rfl, ⟨es, rfl, he⟩, rfl⟩ := h
  obtain ⟨l, rfl⟩ := rows_form (fun e h => has_prod (he e h))
  exact ⟨⟨n, l⟩, rfl⟩

theorem reach_le {l : List Nat} (h : l.all (· ≤ reachBytes) = true) : ∀ x ∈ l, x ≤ 140737488355328 := fun x hx => by
  have := List.all_eq_true.1 h x hx
  have h2 := reachBytes_lt
  simp only [decide_eq_true_eq] at this
  omega

set_option maxRecDepth 100000 in
theorem contract3 (H : Type) (enc : TypeId × Value → H) (W : World) (base : Nat) (args : Array Value) (ds gs : List (DataW H)) (before : List MemPlace)
    (hval : ∀ (j : Nat) t v, Try.f3.params[j]? = some t → args[j]? = some v → Value.okWide Try.prog W .any base t v)
    (hW : DataW.Whole enc Try.prog Try.f3.params.toList Rows.wcnfPartsSpec.vars false W args.toList ds gs before)
    (hsz : (DataW.weightsEach Try.prog (Try.f3.params.toList ++ Rows.wcnfPartsSpec.plain.varTypes Try.prog) (ds ++ gs)).all (· ≤ reachBytes) = true) :
    Calls Try.prog 3 args W fun e W' => ∃ v, e = .returned v ∧ Rows.wcnfPartsSpec.post enc Try.prog Try.f3 false true false false W args v W' := by
  have hW' := hW
  obtain ⟨p, q, hA, hV, rfl, _, _⟩ := hW
  obtain ⟨rfl, rfl⟩ := trodVars_none hV
  have hw := reach_le hsz
  simp only [List.append_nil] at hW'
  rw [show Rows.wcnfPartsSpec.plain.varTypes Try.prog = [] by rfl, List.append_nil, List.append_nil] at hw
  have hps : Try.f3.params.toList = [24] := by rw [Try.params3]
  rw [hps] at hA hw
  have hval' : ∀ (j : Nat) t v, ([24] : List TypeId)[j]? = some t → args.toList[j]? = some v → Value.okWide Try.prog W .any base t v := by
    intro j t v h1 h2
    refine hval j t v ?_ (by rw [← Array.getElem?_toList]; exact h2)
    rw [Try.params3, ← Array.getElem?_toList]; exact h1
  clear hval hsz
  obtain ⟨das, hrd, hargs⟩ := args_rd (cur := fun _ _ => none) (n := 9) (shs := [shCnf]) hval' hA (by kernel_rfl) hw
  obtain ⟨v0, vs0, d0, ds0, p0, q0, hv, rfl, rfl, h0, r0⟩ := trodAll_cons hA
  obtain ⟨rfl, rfl, rfl⟩ := trodAll_nil r0
  simp only [HasArgs] at hargs
  obtain ⟨dd, _, hl, rfl, rfl⟩ := hargs
  obtain ⟨c, rfl⟩ := has_cnf hl
  rw [show isAggT Try.prog 24 = true by kernel_rfl, if_pos rfl] at hrd
  exact law_contract laidOut (by rw [Try.params3]; intro t ht; simp at ht; subst ht; exact ⟨by kernel_rfl, of_decide_eq_true (by kernel_rfl)⟩) (by kernel_rfl) Try.underlying4 rfl rfl hW' hrd (parts3_pure c)

set_option maxRecDepth 100000 in
theorem lifted3 (os : Os) (started : os.Started) (H : Type) (enc : TypeId × Value → H) :
    ReturnsInHanded {} Try.checked os 3 .any (Rows.wcnfPartsSpec.pre6 enc Try.prog Try.f3 Rows.wcnfPartsRow.domain false) (Rows.wcnfPartsSpec.post enc Try.prog Try.f3 false true false false) := by
  refine returnsInHanded_of_change_sized (C := Try.checked) own started (by kernel_rfl) Try.func3
    (ChangeSpec.witness6 (enc := enc) (C := Try.checked) false ⟨#[], #[.agg #[.int .i64 0, .slice none 0 0]], []⟩ 8 (by kernel_rfl) (by kernel_rfl) (by kernel_rfl) (by kernel_rfl)) ?_
  intro W base args ds gs before hval hW _ hsz _
  exact contract3 H enc W base args ds gs before hval hW hsz

/-- 'bywaylaw14.WcnfParts' answers true, whatever productions come in, and leaves them as they were. -/
theorem wcnfParts_said : Rows.WcnfPartsSaid :=
  OpenClaim.holds_of_wide 3 Try.f3 rfl rfl rfl rfl rfl rfl rfl ⟨rfl, rfl, rfl, rfl, rfl⟩ rfl rfl rfl rfl rfl (by kernel_rfl) Try.func3 (by kernel_rfl)
    (of_decide_eq_true (by kernel_rfl)) (by unfold Func.isWrapper; first | (rw [if_pos (by decide +kernel)]; kernel_rfl) | (rw [if_neg (by decide +kernel)]; exact ⟨rfl, rfl⟩))
    (fun os started H enc _ => lifted3 os started H enc)
end Go.Proofs.Ytihkcegelghcpaa
