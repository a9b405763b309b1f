/- 'RsmOut' of bulk at most 1048576: bywaylaw11.RsmOut answers true for every argument that is of bulk at most 1048576, and leaves what came in as it was. That condition alone. -/
import Derived.Deep.CondSized
import Derived.Test.YtdgocjbakjamaaaGreatqRs11
set_option linter.unusedSimpArgs false
set_option linter.unusedVariables false
namespace Go.Proofs.YtdgocjbakjamaaaGreat
open Go Go.Dm
open Go.ChangeShapes Go.WideShapes Go.ChangeAt Go.RowKit
def shNodeB : List Sh := [.i .i64, .s, .i .i64]
def shRuleB : List Sh := [.s, .sl 3 32 shNodeB]
theorem has_nodeB {L : Nat} {ds : List DVal} (h : HasL L shNodeB ds) : ∃ x : Nd, ds = dNd x := by
 simp only [shNodeB, HasL, HasS] at h
 obtain ⟨_, _, rfl, ⟨k, rfl⟩, _, _, rfl, ⟨s, rfl, _⟩, _, _, rfl, ⟨n, rfl⟩, rfl⟩ := h
 exact ⟨⟨k, s, n⟩, rfl⟩
theorem has_rulesB {L : Nat} {ds : List DVal} (h : HasL L [.sl 2 40 shRuleB] ds) : ∃ g : List Rul, ds = [dRuls g] ∧ g.length * 40 ≤ L ∧ ∀ r ∈ g, r.b.length * 32 ≤ L := by
 simp only [HasL, HasS] at h
 obtain ⟨_, _, rfl, ⟨es, rfl, hz, he⟩, rfl⟩ := h
 have hq : ∀ e ∈ es, ∃ x : {r : Rul // r.b.length * 32 ≤ L}, e = dRul x.1 := by
  intro e h
  have h := he e h
  simp only [shRuleB, HasL, HasS] at h
  obtain ⟨_, _, rfl, ⟨s, rfl, _⟩, _, _, rfl, ⟨es, rfl, hz, he⟩, rfl⟩ := h
  obtain ⟨l, rfl⟩ := rows_form (fun e h => has_nodeB (he e h))
  exact ⟨⟨⟨s, l⟩, by simpa using hz⟩, rfl⟩
 obtain ⟨l, rfl⟩ := rows_form (f := fun x : {r : Rul // r.b.length * 32 ≤ L} => dRul x.1) hq
 refine ⟨l.map (·.1), by simp [Function.comp_def], by simpa using hz, fun r hr => ?_⟩
 obtain ⟨x, _, rfl⟩ := List.mem_map.1 hr
 exact x.2
theorem has_intB {L : Nat} {ds : List DVal} (h : HasL L [.i .i64] ds) : ∃ n : Int, ds = [.int .i64 n] := by
 simp only [HasL, HasS] at h
 obtain ⟨_, _, rfl, ⟨n, rfl⟩, rfl⟩ := h
 exact ⟨n, rfl⟩
set_option maxRecDepth 100000 in
theorem contract6 (H : Type) (enc : TypeId × Value → H) (W : World) (base : Nat) (args : Array Value) (ds gs : List (DataW H)) (before : List MemPlace)
  (hval : ∀ (j : Nat) t v, Tryz.f6.params[j]? = some t → args[j]? = some v → Value.okWide Tryz.prog W .any base t v)
  (hW : DataW.Whole enc Tryz.prog Tryz.f6.params.toList Rows.rsmOutSpec.vars false W args.toList ds gs before)
  (hk : Rows.uptoSmall H (ds ++ gs) = true) :
  Calls Tryz.prog 6 args W fun e W' => ∃ v, e = .returned v ∧ Rows.rsmOutSpec.post enc Tryz.prog Tryz.f6 false true false false W args v W' := by
 have hW' := hW
 obtain ⟨p, q, hA, hV, rfl, _, _⟩ := hW
 obtain ⟨rfl, rfl⟩ := trodVars_none hV
 simp only [List.append_nil] at hW' hk
 have hps : Tryz.f6.params.toList = [22, 3, 3] := by rw [Tryz.params6]
 rw [hps] at hA
 have hw := small_le (P := Tryz.prog) (C := 40) (n := 9) (ts := [22, 3, 3]) (shs := [[.sl 2 40 shRuleB], [.i .i64], [.i .i64]]) (by omega) hk (by kernel_rfl) (by rfl)
 have hval' : ∀ (j : Nat) t v, ([22, 3, 3] : List TypeId)[j]? = some t → args.toList[j]? = some v → Value.okWide Tryz.prog W .any base t v := by
  intro j t v h1 h2
  refine hval j t v ?_ (by rw [← Array.getElem?_toList]; exact h2)
  rw [Tryz.params6, ← Array.getElem?_toList]; exact h1
 clear hval hk
 obtain ⟨das, hrd, hargs⟩ := args_rd (cur := fun _ _ => none) (n := 9) (shs := [[.sl 2 40 shRuleB], [.i .i64], [.i .i64]]) hval' hA (by kernel_rfl) hw
 obtain ⟨v0, vs0, d0, ds0, p0, q0, hv0, rfl, rfl, h0, r0⟩ := trodAll_cons hA
 obtain ⟨v1, vs1, d1, ds1, p1, q1, hv1, rfl, rfl, h1, r1⟩ := trodAll_cons r0
 obtain ⟨v2, vs2, d2, ds2, p2, q2, hv2, rfl, rfl, h2, r2⟩ := trodAll_cons r1
 obtain ⟨rfl, rfl, rfl⟩ := trodAll_nil r2
 simp only [HasArgs] at hargs
 obtain ⟨dd0, _, hl0, rfl, hargs0⟩ := hargs
 obtain ⟨dd1, _, hl1, rfl, hargs1⟩ := hargs0
 obtain ⟨dd2, _, hl2, rfl, rfl⟩ := hargs1
 obtain ⟨g, rfl, hgl, hg⟩ := has_rulesB hl0
 obtain ⟨n, rfl⟩ := has_intB hl1
 obtain ⟨m, rfl⟩ := has_intB hl2
 simp only [show isAggT Tryz.prog 22 = false by kernel_rfl, show isAggT Tryz.prog 3 = false by kernel_rfl, Bool.false_eq_true, if_false, List.headD_cons] at hrd
 exact law_contract laidOut (by rw [Tryz.params6]; intro t ht; simp at ht; (try rcases ht with rfl | rfl | rfl) <;> (try subst ht) <;> exact ⟨by kernel_rfl, of_decide_eq_true (by kernel_rfl)⟩) (by kernel_rfl) Tryz.underlying4 rfl rfl hW' hrd (rsmOut_pure g n m (fun r hr => by have := hg r hr; omega) (by omega))
set_option maxRecDepth 100000 in
theorem lifted6 (os : Os) (started : os.Started) (H : Type) (enc : TypeId × Value → H) (F : Stop.Interp) :
  ReturnsInHanded {} Tryz.checked os 6 .any ((Rows.OpenSpec.upto Rows.rsmOutSpec).pre6 enc Tryz.prog Tryz.f6 Rows.rsmOutUptoRow.domain false) (((Rows.OpenSpec.upto Rows.rsmOutSpec).at F).post enc Tryz.prog Tryz.f6 false true false false) := by
 refine returnsInHanded_of_cond_sized (C := Tryz.checked) (s := Rows.OpenSpec.upto Rows.rsmOutSpec) (k := Rows.uptoSmall) rfl own started (by kernel_rfl) Tryz.func6
  (OpenSpec.witness (enc := enc) (C := Tryz.checked) (s := Rows.OpenSpec.upto Rows.rsmOutSpec) (k := Rows.uptoSmall) rfl false ⟨#[], #[.slice none 0 0, .int .i64 0, .int .i64 0], []⟩ 8 (by kernel_rfl) (by kernel_rfl) (by kernel_rfl) (x := ([.nil, .lit (.int .i64 0), .lit (.int .i64 0)], [], [])) (by kernel_rfl) (by kernel_rfl) (by kernel_rfl)) ?_
 intro W base args ds gs before hval hW _ hk hsz _
 exact contract6 H enc W base args ds gs before hval hW hk
theorem and_t {a b : Bool} (h1 : a = true) (h2 : b = true) : (a && b) = true := by rw [h1, h2]; rfl
set_option maxRecDepth 100000 in
set_option maxHeartbeats 20000000 in
theorem closed6 : joinedFacts Tryz.pinned.checked.prog 6 Tryz.f6 (Rows.OpenSpec.upto Rows.rsmOutSpec).bare Rows.rsmOutUptoRow = true := by
 unfold joinedFacts
 refine and_t (and_t (and_t (and_t (and_t (and_t (and_t (and_t (and_t (and_t (and_t (and_t (and_t (and_t (and_t (and_t (and_t (and_t (and_t (and_t (and_t (and_t (and_t (and_t (and_t (and_t (and_t (and_t (and_t (and_t (and_t ?_ ?_) ?_) ?_) ?_) ?_) ?_) ?_) ?_) ?_) ?_) ?_) ?_) ?_) ?_) ?_) ?_) ?_) ?_) ?_) ?_) ?_) ?_) ?_) ?_) ?_) ?_) ?_) ?_) ?_) ?_) ?_
 all_goals (as_aux_lemma => kernel_rfl)
theorem rsmOut_upto : Rows.RsmOutUptoSaid :=
 OpenClaim.holds_of_cond 6 Tryz.f6 rfl rfl rfl rfl rfl rfl rfl ⟨rfl, rfl, rfl, rfl, rfl⟩ rfl rfl rfl rfl rfl (by kernel_rfl) Tryz.func6 closed6
  (of_decide_eq_true (by kernel_rfl)) (by unfold Func.isWrapper; first | (rw [if_pos (by decide +kernel)]; kernel_rfl) | (rw [if_neg (by decide +kernel)]; exact ⟨rfl, rfl⟩))
  (fun os started H enc _ F => lifted6 os started H enc F)
end Go.Proofs.YtdgocjbakjamaaaGreat
