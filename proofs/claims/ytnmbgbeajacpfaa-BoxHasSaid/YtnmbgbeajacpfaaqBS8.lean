/- Parts of a proof, laid together: BX9. -/
import Derived.Test.YtnmbgbeajacpfaaqBS7
section
/- the document's Has, and 'BoxHas' -/

set_option linter.unusedSimpArgs false
set_option linter.unusedVariables false
namespace Go.Proofs.Ytnmbgbeajacpfaa
open Go Go.Dm
attribute [local irreducible] DW callP callS
set_option maxRecDepth 100000

def anBX913 : Ann := ⟨[], [⟨6, [17], [], []⟩]⟩
set_option maxHeartbeats 4000000 in
theorem has13_pure (a : Auto) (w : List Sym) : DPure Try.prog 13 [.agg (dAuto a), dSyms w] (.tup [.bool (hasR a w), .int .i64 (hasE a w)]) := by
  refine DPure_introF [] (fn := Try.f13) Try.func13 rfl Try.call13 (by simp [Try.ntmps13]) (by simp [mx]) ?_
  intro hwf B hnt
  simp only [Try.ntmps13] at hnt
  have hwl := len_syms hwf.2.1
  have hwn := (w_auto (a := a) (by have := hwf.1; simpa only [wfD] using this)).2.1
  clear hwf
  simp only [argS]
  have c1 := check8_pure a
  unfold hasR hasE
  cases hok : autoOK a
  · rw [hok] at c1
    simp only [dAuto] at c1
    (repeat (first | refine DW_seq fun K hK => ?_ | (refine DW_r anBX913 Try.mixed (by kernel_rfl) ?_; simp [anBX913, hnt, dAuto]; try simp (disch := omega) only [wrap64_in]) | refine DW_block ?_ | (refine DW_if ?_ ?_ ?_; (· (simp [hnt, dAuto]; done)); (try (rotate_left; (· (intro hc; (try simp [hnt, dAuto] at hc); done))))) | (refine DW_ret ?_; simp [Try.results13, hnt, dAuto]) | ((first | refine DW_exit ?_ | refine DW_skip ?_); simp [hnt, dAuto]) | (intro hc; (try simp [hnt, dAuto] at hc); (try (exfalso; omega))) | ((first | refine callP_mk (c1) ?_ | (refine callP_wk (c1) ?_ ?_; (· (simp; done)))); try simp [hnt, dAuto]) | (refine ⟨?_, ?_⟩; · omega) | omega | apply_assumption -exfalso -symm | (exfalso; omega)))
  by_cases hlen : w.length ≤ 64
  · obtain ⟨hs1, hs2⟩ := ok_st hok
    have hst0 : 0 ≤ a.st := by omega
    have hst1 : a.st ≤ 150000000000000 := by omega
    have hst2 : a.st ≤ 9223372036854775807 := by omega
    have hst3 : 0 < a.st := by omega
    have hst4 : 0 < a.st.toNat := by omega
    have hlen' : ¬ (64 : Int) < (w.length : Int) := by omega
    rw [hok] at c1
    simp only [dAuto] at c1
    obtain ⟨R, hR⟩ : ∃ R, R = isIn a w := ⟨_, rfl⟩
    have hRR : (true && decide (w.length ≤ 64) && isIn a w) = R := by rw [hR, decide_eq_true hlen]; rfl
    rw [hRR]
    (repeat (first | refine DW_seq fun K hK => ?_ | (refine DW_r anBX913 Try.mixed (by kernel_rfl) ?_; simp [anBX913, hnt, dAuto, hst0, hst1, hst2, hst3, hst4, hlen, hlen', mx_rep]; try simp (disch := omega) only [wrap64_in]) | refine DW_block ?_ | (refine DW_if ?_ ?_ ?_; (· (simp [hnt, dAuto, hst0, hst1, hst2, hst3, hst4, hlen, hlen', mx_rep]; done)); (try (rotate_left; (· (intro hc; (try simp [hnt, dAuto, hst0, hst1, hst2, hst3, hst4, hlen, hlen', mx_rep] at hc); done))))) | (refine DW_ret ?_; simp [Try.results13, hnt, dAuto, hst0, hst1, hst2, hst3, hst4, hlen, hlen', mx_rep]) | ((first | refine DW_exit ?_ | refine DW_skip ?_); simp [hnt, dAuto, hst0, hst1, hst2, hst3, hst4, hlen, hlen', mx_rep]) | (intro hc; (try simp [hnt, dAuto, hst0, hst1, hst2, hst3, hst4, hlen, hlen', mx_rep] at hc); (try (exfalso; omega))) | ((first | refine callP_mk (c1) ?_ | (refine callP_wk (c1) ?_ ?_; (· (simp; done)))); try simp [hnt, dAuto, hst0, hst1, hst2, hst3, hst4, hlen, hlen', mx_rep]) | (refine ⟨?_, ?_⟩; · omega) | omega | apply_assumption -exfalso -symm | (exfalso; omega)))
    refine DW_loop (X := {k : Nat // k ≤ w.length}) (fun k => ⟨[(1, dSyms w), (2, .ref [.int .i64 a.st, dNums a.fin, dArcs a.arcs]), (6, dBls (hasK a w k.1)), (7, .int .i64 k.1)], []⟩) (fun k => w.length - k.1) ⟨0, by simp⟩ (Sub.lit (by simp [hasK_zero, begB_D])) ?_
    rintro ⟨k, hk⟩
    simp only
    by_cases hlt : k < w.length
    · obtain ⟨s, hs, hs', _⟩ := at_lt' hlt
      have c3 := step10_pure a (hasK a w k) s hok (hasK_len a w k)
      have hnx := hasK_next (a := a) hs
      rw [← hnx] at c3
      simp only [dAuto, dSym] at c3
      (repeat (first | refine DW_seq fun K hK => ?_ | (refine DW_r anBX913 Try.mixed (by kernel_rfl) ?_; simp [anBX913, hnt, dSym, hlt, hs', hs]; try simp (disch := omega) only [wrap64_in]) | refine DW_block ?_ | (refine DW_if ?_ ?_ ?_; (· (simp [hnt, dSym, hlt, hs', hs]; done)); (try (rotate_left; (· (intro hc; (try simp [hnt, dSym, hlt, hs', hs] at hc); done))))) | (refine DW_ret ?_; simp [Try.results13, hnt, dSym, hlt, hs', hs]) | ((first | refine DW_exit ?_ | refine DW_skip ?_); simp [hnt, dSym, hlt, hs', hs]) | (intro hc; (try simp [hnt, dSym, hlt, hs', hs] at hc); (try (exfalso; omega))) | ((first | refine callP_mk (c3) ?_ | (refine callP_wk (c3) ?_ ?_; (· (simp; done)))); try simp [hnt, dSym, hlt, hs', hs]) | (refine ⟨?_, ?_⟩; · omega) | omega | apply_assumption -exfalso -symm | (exfalso; omega)))
      refine Again.mk ⟨k + 1, by omega⟩ (Sub.lit (by simp)) (by simp; omega)
      (repeat (first | refine DW_seq fun K hK => ?_ | (refine DW_r anBX913 Try.mixed (by kernel_rfl) ?_; simp [anBX913, hnt]; try simp (disch := omega) only [wrap64_in]) | refine DW_block ?_ | (refine DW_if ?_ ?_ ?_; (· (simp [hnt]; done)); (try (rotate_left; (· (intro hc; (try simp [hnt] at hc); done))))) | (refine DW_ret ?_; simp [Try.results13, hnt]) | ((first | refine DW_exit ?_ | refine DW_skip ?_); simp [hnt]) | (intro hc; (try simp [hnt] at hc); (try (exfalso; omega))) | ((first | refine callP_mk (c3) ?_ | (refine callP_wk (c3) ?_ ?_; (· (simp; done)))); try simp [hnt]) | (refine ⟨?_, ?_⟩; · omega) | omega | apply_assumption -exfalso -symm | (exfalso; omega)))
    · have hkk : k = w.length := by omega
      subst hkk
      (repeat (first | refine DW_seq fun K hK => ?_ | (refine DW_r anBX913 Try.mixed (by kernel_rfl) ?_; simp [anBX913, hnt]; try simp (disch := omega) only [wrap64_in]) | refine DW_block ?_ | (refine DW_if ?_ ?_ ?_; (· (simp [hnt]; done)); (try (rotate_left; (· (intro hc; (try simp [hnt] at hc); done))))) | (refine DW_ret ?_; simp [Try.results13, hnt]) | ((first | refine DW_exit ?_ | refine DW_skip ?_); simp [hnt]) | (intro hc; (try simp [hnt] at hc); (try (exfalso; omega))) | ((first | refine callP_mk (c3) ?_ | (refine callP_wk (c3) ?_ ?_; (· (simp; done)))); try simp [hnt]) | (refine ⟨?_, ?_⟩; · omega) | omega | apply_assumption -exfalso -symm | (exfalso; omega)))
      obtain ⟨S, hS⟩ : ∃ S, S = hasK a w w.length := ⟨_, rfl⟩
      have hSl : S.length = a.st.toNat := by rw [hS, hasK_len]
      have hIs : R = a.fin.any (bAt S) := by rw [hR, hS]; rfl
      refine DW_loop (X := {k : Nat // k ≤ a.fin.length ∧ ∀ i q, i < k → a.fin[i]? = some q → bAt S q = false}) (fun k => ⟨[(2, .ref [.int .i64 a.st, dNums a.fin, dArcs a.arcs]), (6, dBls S), (8, .int .i64 k.1)], []⟩) (fun k => a.fin.length - k.1) ⟨0, by simp⟩ (Sub.lit (by simp [hS])) ?_
      rintro ⟨k, hk, hno⟩
      simp only
      by_cases hlt : k < a.fin.length
      · obtain ⟨q, hq, hq', hqm⟩ := at_lt' hlt
        obtain ⟨b1, b2⟩ := ok_fin hok hqm
        obtain ⟨v, rfl⟩ : ∃ v : Nat, q = (v : Int) := ⟨q.toNat, by omega⟩
        have hvl : v < S.length := by omega
        obtain ⟨b, hb, hb', _⟩ := at_lt' hvl
        cases b
        · have hno' : ∀ i p, i < k + 1 → a.fin[i]? = some p → bAt S p = false := by
            intro i p hi hp
            by_cases hik : i = k
            · subst hik; rw [hq] at hp; simp only [Option.some.injEq] at hp; subst hp; exact bAt_nat hb
            · exact hno i p (by omega) hp
          (repeat (first | refine DW_seq fun K hK => ?_ | (refine DW_r anBX913 Try.mixed (by kernel_rfl) ?_; simp [anBX913, hnt, dNum, dBl, hlt, hq, hq', hvl, hb, hb']; try simp (disch := omega) only [wrap64_in]) | refine DW_block ?_ | (refine DW_if ?_ ?_ ?_; (· (simp [hnt, dNum, dBl, hlt, hq, hq', hvl, hb, hb']; done)); (try (rotate_left; (· (intro hc; (try simp [hnt, dNum, dBl, hlt, hq, hq', hvl, hb, hb'] at hc); done))))) | (refine DW_ret ?_; simp [Try.results13, hnt, dNum, dBl, hlt, hq, hq', hvl, hb, hb']) | ((first | refine DW_exit ?_ | refine DW_skip ?_); simp [hnt, dNum, dBl, hlt, hq, hq', hvl, hb, hb']) | (intro hc; (try simp [hnt, dNum, dBl, hlt, hq, hq', hvl, hb, hb'] at hc); (try (exfalso; omega))) | ((first | refine callP_mk (c3) ?_ | (refine callP_wk (c3) ?_ ?_; (· (simp; done)))); try simp [hnt, dNum, dBl, hlt, hq, hq', hvl, hb, hb']) | (refine ⟨?_, ?_⟩; · omega) | omega | apply_assumption -exfalso -symm | (exfalso; omega)))
          refine Again.mk ⟨k + 1, by omega, hno'⟩ (Sub.lit (by simp)) (by simp; omega)
          (repeat (first | refine DW_seq fun K hK => ?_ | (refine DW_r anBX913 Try.mixed (by kernel_rfl) ?_; simp [anBX913, hnt]; try simp (disch := omega) only [wrap64_in]) | refine DW_block ?_ | (refine DW_if ?_ ?_ ?_; (· (simp [hnt]; done)); (try (rotate_left; (· (intro hc; (try simp [hnt] at hc); done))))) | (refine DW_ret ?_; simp [Try.results13, hnt]) | ((first | refine DW_exit ?_ | refine DW_skip ?_); simp [hnt]) | (intro hc; (try simp [hnt] at hc); (try (exfalso; omega))) | ((first | refine callP_mk (c3) ?_ | (refine callP_wk (c3) ?_ ?_; (· (simp; done)))); try simp [hnt]) | (refine ⟨?_, ?_⟩; · omega) | omega | apply_assumption -exfalso -symm | (exfalso; omega)))
        · have hRt : R = true := by rw [hIs]; exact List.any_eq_true.2 ⟨_, hqm, bAt_nat hb⟩
          subst hRt
          (repeat (first | refine DW_seq fun K hK => ?_ | (refine DW_r anBX913 Try.mixed (by kernel_rfl) ?_; simp [anBX913, hnt, dNum, dBl, hlt, hq, hq', hvl, hb, hb', hlen]; try simp (disch := omega) only [wrap64_in]) | refine DW_block ?_ | (refine DW_if ?_ ?_ ?_; (· (simp [hnt, dNum, dBl, hlt, hq, hq', hvl, hb, hb', hlen]; done)); (try (rotate_left; (· (intro hc; (try simp [hnt, dNum, dBl, hlt, hq, hq', hvl, hb, hb', hlen] at hc); done))))) | (refine DW_ret ?_; simp [Try.results13, hnt, dNum, dBl, hlt, hq, hq', hvl, hb, hb', hlen]) | ((first | refine DW_exit ?_ | refine DW_skip ?_); simp [hnt, dNum, dBl, hlt, hq, hq', hvl, hb, hb', hlen]) | (intro hc; (try simp [hnt, dNum, dBl, hlt, hq, hq', hvl, hb, hb', hlen] at hc); (try (exfalso; omega))) | ((first | refine callP_mk (c3) ?_ | (refine callP_wk (c3) ?_ ?_; (· (simp; done)))); try simp [hnt, dNum, dBl, hlt, hq, hq', hvl, hb, hb', hlen]) | (refine ⟨?_, ?_⟩; · omega) | omega | apply_assumption -exfalso -symm | (exfalso; omega)))
      · have hkk : k = a.fin.length := by omega
        subst hkk
        have hRf : R = false := by
          rw [hIs, List.any_eq_false]
          intro x hx
          obtain ⟨i, hi, rfl⟩ := List.getElem_of_mem hx
          rw [hno i _ (by omega) (List.getElem?_eq_getElem hi)]
          simp
        subst hRf
        (repeat (first | refine DW_seq fun K hK => ?_ | (refine DW_r anBX913 Try.mixed (by kernel_rfl) ?_; simp [anBX913, hnt, hlen]; try simp (disch := omega) only [wrap64_in]) | refine DW_block ?_ | (refine DW_if ?_ ?_ ?_; (· (simp [hnt, hlen]; done)); (try (rotate_left; (· (intro hc; (try simp [hnt, hlen] at hc); done))))) | (refine DW_ret ?_; simp [Try.results13, hnt, hlen]) | ((first | refine DW_exit ?_ | refine DW_skip ?_); simp [hnt, hlen]) | (intro hc; (try simp [hnt, hlen] at hc); (try (exfalso; omega))) | ((first | refine callP_mk (c3) ?_ | (refine callP_wk (c3) ?_ ?_; (· (simp; done)))); try simp [hnt, hlen]) | (refine ⟨?_, ?_⟩; · omega) | omega | apply_assumption -exfalso -symm | (exfalso; omega)))
  · rw [hok] at c1
    simp only [dAuto] at c1
    have hlen' : (64 : Int) < (w.length : Int) := by omega
    (repeat (first | refine DW_seq fun K hK => ?_ | (refine DW_r anBX913 Try.mixed (by kernel_rfl) ?_; simp [anBX913, hnt, dAuto, hlen, hlen']; try simp (disch := omega) only [wrap64_in]) | refine DW_block ?_ | (refine DW_if ?_ ?_ ?_; (· (simp [hnt, dAuto, hlen, hlen']; done)); (try (rotate_left; (· (intro hc; (try simp [hnt, dAuto, hlen, hlen'] at hc); done))))) | (refine DW_ret ?_; simp [Try.results13, hnt, dAuto, hlen, hlen']) | ((first | refine DW_exit ?_ | refine DW_skip ?_); simp [hnt, dAuto, hlen, hlen']) | (intro hc; (try simp [hnt, dAuto, hlen, hlen'] at hc); (try (exfalso; omega))) | ((first | refine callP_mk (c1) ?_ | (refine callP_wk (c1) ?_ ?_; (· (simp; done)))); try simp [hnt, dAuto, hlen, hlen']) | (refine ⟨?_, ?_⟩; · omega) | omega | apply_assumption -exfalso -symm | (exfalso; omega)))

def anBX95 : Ann := ⟨[], []⟩
theorem boxHas_pure (a : Auto) (w : List Sym) : DPure Try.prog 5 [.agg (dAuto a), dSyms w] (.bool true) := by
  refine DPure_introF [] (fn := Try.f5) Try.func5 rfl Try.call5 (by simp [Try.ntmps5]) (by simp [mx]) ?_
  intro hwf B hnt
  simp only [Try.ntmps5] at hnt
  simp only [argS]
  have c1 := has12_pure a w
  have c2 := has13_pure a w
  simp only [dAuto] at c1 c2
  (repeat (first | refine DW_seq fun K hK => ?_ | (refine DW_r anBX95 Try.mixed (by kernel_rfl) ?_; simp [anBX95, hnt, dAuto]; try simp (disch := omega) only [wrap64_in]) | refine DW_block ?_ | (refine DW_if ?_ ?_ ?_; (· (simp [hnt, dAuto]; done)); (try (rotate_left; (· (intro hc; (try simp [hnt, dAuto] at hc); done))))) | (refine DW_ret ?_; simp [Try.results5, hnt, dAuto]) | ((first | refine DW_exit ?_ | refine DW_skip ?_); simp [hnt, dAuto]) | (intro hc; (try simp [hnt, dAuto] at hc); (try (exfalso; omega))) | ((first | refine callP_mk (head_pure) ?_ | refine callP_mk (c1) ?_ | refine callP_mk (c2) ?_ | (refine callP_wk (head_pure) ?_ ?_; (· (simp; done))) | (refine callP_wk (c1) ?_ ?_; (· (simp; done))) | (refine callP_wk (c2) ?_ ?_; (· (simp; done)))); try simp [hnt, dAuto]) | (refine ⟨?_, ?_⟩; · omega) | omega | apply_assumption -exfalso -symm | (exfalso; omega)))
end Go.Proofs.Ytnmbgbeajacpfaa
end

