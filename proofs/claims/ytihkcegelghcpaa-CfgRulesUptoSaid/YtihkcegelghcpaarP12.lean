/- 'CfgRules' of bulk at most 1048576: bywaylaw12.CfgRules answers true for every argument that is of bulk at most 1048576, and leaves what came in as it was. That condition alone. -/
import Derived.Deep.CondSized
import Derived.Test.YtihkcegelghcpaaqCr12
set_option linter.unusedSimpArgs false
set_option linter.unusedVariables false
namespace Go.Proofs.Ytihkcegelghcpaa
open Go Go.Dm
open Go.ChangeShapes Go.WideShapes Go.ChangeAt Go.RowKit

def shTexts : List Sh := [.sl 1 16 [.s]]
theorem has_texts {L : Nat} {ds : List DVal} (h : HasL L shTexts ds) : ∃ l : List ByteArray, ds = [dStrs l] ∧ l.length * 16 ≤ L := by
  simp only [shTexts, HasL, HasS] at h
  obtain ⟨_, _, rfl, ⟨es, rfl, hz, he⟩, rfl⟩ := h
  obtain ⟨l, rfl⟩ := rows_form (f := dStr) (fun e h => by
    obtain ⟨_, _, rfl, ⟨x, rfl, _⟩, rfl⟩ := he e h
    exact ⟨x, rfl⟩)
  exact ⟨l, rfl, by simpa using hz⟩
theorem has_cnf3 {L : Nat} {ds : List DVal} (h : HasL L shCnf ds) : ∃ c : Cnf, ds = dCnf c ∧ c.prods.length * 32 ≤ L ∧ ∀ p ∈ c.prods, p.body.length * 16 ≤ L := by
  simp only [shCnf, HasL, HasS] at h
  obtain ⟨_, _, rfl, ⟨n, rfl⟩, _, _, rfl, ⟨es, rfl, hz, he⟩, rfl⟩ := h
  have hq : ∀ e ∈ es, ∃ x : {p : Prod // p.body.length * 16 ≤ L}, e = dProd x.1 := by
    intro e h
    have h := he e h
    simp only [shProd, HasL, HasS] at h
    obtain ⟨_, _, rfl, ⟨n, rfl⟩, _, _, rfl, ⟨es, rfl, hz, he⟩, rfl⟩ := h
    obtain ⟨l, rfl⟩ := rows_form (fun e h => has_sym (he e h))
    exact ⟨⟨⟨n, l⟩, by simpa using hz⟩, rfl⟩
  obtain ⟨l, rfl⟩ := rows_form (f := fun x : {p : Prod // p.body.length * 16 ≤ L} => dProd x.1) hq
  refine ⟨⟨n, l.map (·.1)⟩, by simp [dCnf, Function.comp_def], by simpa using hz, ?_⟩
  intro p hp
  obtain ⟨x, _, rfl⟩ := List.mem_map.1 hp
  exact x.2

set_option maxRecDepth 100000 in
theorem contract12 (H : Type) (enc : TypeId × Value → H) (W : World) (base : Nat) (args : Array Value) (ds gs : List (DataW H)) (before : List MemPlace)
    (hval : ∀ (j : Nat) t v, Try.f12.params[j]? = some t → args[j]? = some v → Value.okWide Try.prog W .any base t v)
    (hW : DataW.Whole enc Try.prog Try.f12.params.toList Rows.cfgRulesSpec.vars false W args.toList ds gs before)
    (hk : Rows.uptoSmall H (ds ++ gs) = true) :
    Calls Try.prog 12 args W fun e W' => ∃ v, e = .returned v ∧ Rows.cfgRulesSpec.post enc Try.prog Try.f12 false true false false W args v W' := by
  have hW' := hW
  obtain ⟨p, q, hA, hV, rfl, _, _⟩ := hW
  obtain ⟨rfl, rfl⟩ := trodVars_none hV
  simp only [List.append_nil] at hW' hk
  have hps : Try.f12.params.toList = [24, 50, 50] := by rw [Try.params12]
  rw [hps] at hA
  have hw := small_le (P := Try.prog) (C := 40) (n := 9) (ts := [24, 50, 50]) (shs := [shCnf, shTexts, shTexts]) (by omega) hk (by kernel_rfl) (by rfl)
  have hval' : ∀ (j : Nat) t v, ([24, 50, 50] : List TypeId)[j]? = some t → args.toList[j]? = some v → Value.okWide Try.prog W .any base t v := by
    intro j t v h1 h2
    refine hval j t v ?_ (by rw [← Array.getElem?_toList]; exact h2)
    rw [Try.params12, ← Array.getElem?_toList]; exact h1
  clear hval hk
  obtain ⟨das, hrd, hargs⟩ := args_rd (cur := fun _ _ => none) (n := 9) (shs := [shCnf, shTexts, shTexts]) hval' hA (by kernel_rfl) hw
  obtain ⟨v0, vs0, d0, ds0, p0, q0, hv0, rfl, rfl, h0, r0⟩ := trodAll_cons hA
  obtain ⟨v1, vs1, d1, ds1, p1, q1, hv1, rfl, rfl, h1, r1⟩ := trodAll_cons r0
  obtain ⟨v2, vs2, d2, ds2, p2, q2, hv2, rfl, rfl, h2, r2⟩ := trodAll_cons r1
  obtain ⟨rfl, rfl, rfl⟩ := trodAll_nil r2
  simp only [HasArgs] at hargs
  obtain ⟨dd0, _, hl0, rfl, hargs0⟩ := hargs
  obtain ⟨dd1, _, hl1, rfl, hargs1⟩ := hargs0
  obtain ⟨dd2, _, hl2, rfl, rfl⟩ := hargs1
  obtain ⟨c, rfl, hc1, hc2⟩ := has_cnf3 hl0
  obtain ⟨ns, rfl, _⟩ := has_texts hl1
  obtain ⟨ls, rfl, _⟩ := has_texts hl2
  simp only [show isAggT Try.prog 50 = false by kernel_rfl, show isAggT Try.prog 24 = true by kernel_rfl, if_true, Bool.false_eq_true, if_false, List.headD_cons] at hrd
  exact law_contract laidOut (by rw [Try.params12]; intro t ht; simp at ht; (try rcases ht with rfl | rfl) <;> (try subst ht) <;> exact ⟨by kernel_rfl, of_decide_eq_true (by kernel_rfl)⟩) (by kernel_rfl) Try.underlying4 rfl rfl hW' hrd (cfgRules_pure c ns ls (by omega) (fun p hp => by have := hc2 p hp; omega))

set_option maxRecDepth 100000 in
theorem lifted12 (os : Os) (started : os.Started) (H : Type) (enc : TypeId × Value → H) (F : Stop.Interp) :
    ReturnsInHanded {} Try.checked os 12 .any ((Rows.OpenSpec.upto Rows.cfgRulesSpec).pre6 enc Try.prog Try.f12 Rows.cfgRulesUptoRow.domain false) (((Rows.OpenSpec.upto Rows.cfgRulesSpec).at F).post enc Try.prog Try.f12 false true false false) := by
  refine returnsInHanded_of_cond_sized (C := Try.checked) (s := Rows.OpenSpec.upto Rows.cfgRulesSpec) (k := Rows.uptoSmall) rfl own started (by kernel_rfl) Try.func12
    (OpenSpec.witness (enc := enc) (C := Try.checked) (s := Rows.OpenSpec.upto Rows.cfgRulesSpec) (k := Rows.uptoSmall) rfl false ⟨#[], #[.agg #[.int .i64 0, .slice none 0 0], .slice none 0 0, .slice none 0 0], []⟩ 8 (by kernel_rfl) (by kernel_rfl) (by kernel_rfl) (x := ([.agg [.lit (.int .i64 0), .nil], .nil, .nil], [], [])) (by kernel_rfl) (by kernel_rfl) (by kernel_rfl)) ?_
  intro W base args ds gs before hval hW _ hk hsz _
  exact contract12 H enc W base args ds gs before hval hW hk

/-- 'bywaylaw12.CfgRules' answers true for every argument of bulk at most 1048576, and leaves what came in as it was. -/
theorem cfgRules_upto : Rows.CfgRulesUptoSaid :=
  OpenClaim.holds_of_cond 12 Try.f12 rfl rfl rfl rfl rfl rfl rfl ⟨rfl, rfl, rfl, rfl, rfl⟩ rfl rfl rfl rfl rfl (by kernel_rfl) Try.func12 (by kernel_rfl)
    (of_decide_eq_true (by kernel_rfl)) (by unfold Func.isWrapper; first | (rw [if_pos (by decide +kernel)]; kernel_rfl) | (rw [if_neg (by decide +kernel)]; exact ⟨rfl, rfl⟩))
    (fun os started H enc _ F => lifted12 os started H enc F)
end Go.Proofs.Ytihkcegelghcpaa
