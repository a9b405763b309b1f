/- Parts of a proof, laid together: BX2, BX3, BX5, BX4, BX6, BX7, EnU, PB, PX, BX8. -/
import Derived.SizedLaws
import Derived.ProofKit
import Derived.OpenShut
import Derived.Carry
import Derived.Test.YtnmbgbeajacpfaaRows
import Derived.Test.YtnmbgbeajacpfaaqBS6
section
/- may an automaton be? the program's answer -/

set_option linter.unusedSimpArgs false
set_option linter.unusedVariables false
namespace Go.Proofs.Ytnmbgbeajacpfaa
open Go Go.Dm
attribute [local irreducible] DW callP callS
set_option maxRecDepth 100000

def anBX27 : Ann := ⟨[], [⟨10, [8], [], []⟩]⟩
set_option maxHeartbeats 4000000 in
theorem check7_pure (a : Auto) : DPure Try.prog 7 [.agg (dAuto a)] (.int .i64 (if autoOK a then 0 else 200)) := by
  refine DPure_introF [] (fn := Try.f7) Try.func7 rfl Try.call7 (by simp [Try.ntmps7]) (by simp [mx]) ?_
  intro hwf B hnt
  simp only [Try.ntmps7] at hnt
  obtain ⟨_, hw2, hw3⟩ := w_auto (a := a) (by simpa only [wfL, wfD, and_true] using hwf)
  clear hwf
  have hn1 : (-1 : Int).toNat = 0 := rfl
  have hn2 : IntKind.i64.wrap (-1) = -1 := wrap64_in (by omega) (by omega)
  simp only [argS]
  obtain ⟨b0, hb0⟩ : ∃ b0 : Bool, b0 = (decide (1 ≤ a.st) && decide (a.st ≤ 65)) := ⟨_, rfl⟩
  have hfin : autoOK a = (b0 && ((List.range a.fin.length).all (okF a.st a.fin) && (List.range a.arcs.length).all (okA a.st a.arcs))) := by rw [hb0]; rfl
  (repeat (first | refine DW_seq fun K hK => ?_ | (refine DW_r anBX27 Try.mixed (by kernel_rfl) ?_; simp [anBX27, hnt, dAuto]; try simp (disch := omega) only [wrap64_in]) | refine DW_block ?_ | (refine DW_if ?_ ?_ ?_; (· (simp [hnt, dAuto]; done)); (try (rotate_left; (· (intro hc; (try simp [hnt, dAuto] at hc); done))))) | (refine DW_ret ?_; simp [Try.results7, hnt, dAuto]) | ((first | refine DW_exit ?_ | refine DW_skip ?_); simp [hnt, dAuto]) | (intro hc; (try simp [hnt, dAuto] at hc); (try (exfalso; omega))) | (refine ⟨?_, ?_⟩; · omega) | omega | apply_assumption -exfalso -symm | (exfalso; omega)))
  refine DW_loop (X := {k : Nat // k ≤ a.fin.length}) (fun k => ⟨[(1, .ref [.int .i64 a.st, dNums a.fin, dArcs a.arcs]), (3, .fn (.func 15) [] [.ref [.int .i64 a.st, dNums a.fin, dArcs a.arcs]]), (4, .bool (b0 && (List.range k.1).all (okF a.st a.fin))), (19, dNums a.fin), (20, .int .i64 a.fin.length), (21, .int .i64 k.1)], []⟩) (fun k => a.fin.length - k.1) ⟨0, by simp⟩ (Sub.lit (by simp [hb0])) ?_
  rintro ⟨k, hk⟩
  simp only
  by_cases hlt : k < a.fin.length
  · obtain ⟨q, hq, hq', hqm⟩ := at_lt' hlt
    have hst := range_all_succ (n := k) (okF a.st a.fin)
    obtain ⟨b, hb⟩ : ∃ b : Bool, b = (b0 && (List.range k).all (okF a.st a.fin)) := ⟨_, rfl⟩
    have hb1 : (b0 && (List.range (k + 1)).all (okF a.st a.fin)) = (b && okF a.st a.fin k) := by rw [hst, hb, Bool.and_assoc]
    have e1 := state15_pure a q
    simp only [dAuto] at e1
    simp only [← hb]
    cases k with
    | zero =>
      have ho := okF_zero (s := a.st) hq
      rw [ho] at hb1
      cases b <;> (repeat (first | refine DW_seq fun K hK => ?_ | (refine DW_r anBX27 Try.mixed (by kernel_rfl) ?_; simp [anBX27, hnt, dNum, hlt, hq', hn1, hn2, hq]; try simp (disch := omega) only [wrap64_in]) | refine DW_block ?_ | (refine DW_if ?_ ?_ ?_; (· (simp [hnt, dNum, hlt, hq', hn1, hn2, hq]; done)); (try (rotate_left; (· (intro hc; (try simp [hnt, dNum, hlt, hq', hn1, hn2, hq] at hc); done))))) | (refine DW_ret ?_; simp [Try.results7, hnt, dNum, hlt, hq', hn1, hn2, hq]) | ((first | refine DW_exit ?_ | refine DW_skip ?_); simp [hnt, dNum, hlt, hq', hn1, hn2, hq]) | (intro hc; (try simp [hnt, dNum, hlt, hq', hn1, hn2, hq] at hc); (try (exfalso; omega))) | ((first | refine callP_mk (e1) ?_ | (refine callP_wk (e1) ?_ ?_; (· (simp; done)))); try simp [hnt, dNum, hlt, hq', hn1, hn2, hq]) | (refine ⟨?_, ?_⟩; · omega) | omega | apply_assumption -exfalso -symm | (exfalso; omega)))
      all_goals
        refine Again.mk ⟨0 + 1, by omega⟩ (Sub.lit (by simp only [hb1]; simp)) (by simp; omega)
      (repeat (first | refine DW_seq fun K hK => ?_ | (refine DW_r anBX27 Try.mixed (by kernel_rfl) ?_; simp [anBX27, hnt]; try simp (disch := omega) only [wrap64_in]) | refine DW_block ?_ | (refine DW_if ?_ ?_ ?_; (· (simp [hnt]; done)); (try (rotate_left; (· (intro hc; (try simp [hnt] at hc); done))))) | (refine DW_ret ?_; simp [Try.results7, hnt]) | ((first | refine DW_exit ?_ | refine DW_skip ?_); simp [hnt]) | (intro hc; (try simp [hnt] at hc); (try (exfalso; omega))) | ((first | refine callP_mk (e1) ?_ | (refine callP_wk (e1) ?_ ?_; (· (simp; done)))); try simp [hnt]) | (refine ⟨?_, ?_⟩; · omega) | omega | apply_assumption -exfalso -symm | (exfalso; omega)))
    | succ m =>
      obtain ⟨p, hp, hp', _⟩ := at_lt' (l := a.fin) (k := m) (by omega)
      have ho := okF_pos (s := a.st) (k := m + 1) (by omega) hq hp
      rw [ho] at hb1
      have hm1 : ¬ (m : Int) + 1 = 0 := by omega
      have hm2 : m < a.fin.length := by omega
      have hm5 : (m : Int) + 1 < (a.fin.length : Int) := by omega
      have hm3 : (((m : Int) + 1) == 0) = false := by simpa using hm1
      have hm4 : IntKind.i64.wrap (m : Int) = m := wrap64_in (by omega) (by omega)
      cases b <;> (repeat (first | refine DW_seq fun K hK => ?_ | (refine DW_r anBX27 Try.mixed (by kernel_rfl) ?_; simp [anBX27, hnt, dNum, hlt, hq', hm1, hm2, hm3, hm4, hm5, hp', hp]; try simp (disch := omega) only [wrap64_in]) | refine DW_block ?_ | (refine DW_if ?_ ?_ ?_; (· (simp [hnt, dNum, hlt, hq', hm1, hm2, hm3, hm4, hm5, hp', hp]; done)); (try (rotate_left; (· (intro hc; (try simp [hnt, dNum, hlt, hq', hm1, hm2, hm3, hm4, hm5, hp', hp] at hc); done))))) | (refine DW_ret ?_; simp [Try.results7, hnt, dNum, hlt, hq', hm1, hm2, hm3, hm4, hm5, hp', hp]) | ((first | refine DW_exit ?_ | refine DW_skip ?_); simp [hnt, dNum, hlt, hq', hm1, hm2, hm3, hm4, hm5, hp', hp]) | (intro hc; (try simp [hnt, dNum, hlt, hq', hm1, hm2, hm3, hm4, hm5, hp', hp] at hc); (try (exfalso; omega))) | ((first | refine callP_mk (e1) ?_ | (refine callP_wk (e1) ?_ ?_; (· (simp; done)))); try simp [hnt, dNum, hlt, hq', hm1, hm2, hm3, hm4, hm5, hp', hp]) | (refine ⟨?_, ?_⟩; · omega) | omega | apply_assumption -exfalso -symm | (exfalso; omega)))
      all_goals
        refine Again.mk ⟨m + 1 + 1, by omega⟩ (Sub.lit (by simp only [hb1]; simp)) (by simp; omega)
      (repeat (first | refine DW_seq fun K hK => ?_ | (refine DW_r anBX27 Try.mixed (by kernel_rfl) ?_; simp [anBX27, hnt]; try simp (disch := omega) only [wrap64_in]) | refine DW_block ?_ | (refine DW_if ?_ ?_ ?_; (· (simp [hnt]; done)); (try (rotate_left; (· (intro hc; (try simp [hnt] at hc); done))))) | (refine DW_ret ?_; simp [Try.results7, hnt]) | ((first | refine DW_exit ?_ | refine DW_skip ?_); simp [hnt]) | (intro hc; (try simp [hnt] at hc); (try (exfalso; omega))) | ((first | refine callP_mk (e1) ?_ | (refine callP_wk (e1) ?_ ?_; (· (simp; done)))); try simp [hnt]) | (refine ⟨?_, ?_⟩; · omega) | omega | apply_assumption -exfalso -symm | (exfalso; omega)))
  · have hkk : k = a.fin.length := by omega
    subst hkk
    obtain ⟨b1, hb1⟩ : ∃ b : Bool, b = (b0 && (List.range a.fin.length).all (okF a.st a.fin)) := ⟨_, rfl⟩
    rw [← Bool.and_assoc, ← hb1] at hfin
    rw [← hb1]
    (repeat (first | refine DW_seq fun K hK => ?_ | (refine DW_r anBX27 Try.mixed (by kernel_rfl) ?_; simp [anBX27, hnt]; try simp (disch := omega) only [wrap64_in]) | refine DW_block ?_ | (refine DW_if ?_ ?_ ?_; (· (simp [hnt]; done)); (try (rotate_left; (· (intro hc; (try simp [hnt] at hc); done))))) | (refine DW_ret ?_; simp [Try.results7, hnt]) | ((first | refine DW_exit ?_ | refine DW_skip ?_); simp [hnt]) | (intro hc; (try simp [hnt] at hc); (try (exfalso; omega))) | (refine ⟨?_, ?_⟩; · omega) | omega | apply_assumption -exfalso -symm | (exfalso; omega)))
    refine DW_loop (X := {k : Nat // k ≤ a.arcs.length}) (fun k => ⟨[(1, .ref [.int .i64 a.st, dNums a.fin, dArcs a.arcs]), (3, .fn (.func 15) [] [.ref [.int .i64 a.st, dNums a.fin, dArcs a.arcs]]), (4, .bool (b1 && (List.range k.1).all (okA a.st a.arcs))), (48, dArcs a.arcs), (49, .int .i64 a.arcs.length), (50, .int .i64 k.1)], []⟩) (fun k => a.arcs.length - k.1) ⟨0, by simp⟩ (Sub.lit (by simp)) ?_
    rintro ⟨k, hk⟩
    simp only
    by_cases hlt : k < a.arcs.length
    · obtain ⟨x, hq, hq', hqm⟩ := at_lt' hlt
      have hst := range_all_succ (n := k) (okA a.st a.arcs)
      obtain ⟨b, hb⟩ : ∃ b : Bool, b = (b1 && (List.range k).all (okA a.st a.arcs)) := ⟨_, rfl⟩
      have hb2 : (b1 && (List.range (k + 1)).all (okA a.st a.arcs)) = (b && okA a.st a.arcs k) := by rw [hst, hb, Bool.and_assoc]
      have e1 := state15_pure a x.fr
      have e2 := state15_pure a x.to
      simp only [dAuto] at e1 e2
      simp only [← hb]
      cases k with
      | zero =>
        have ho := okA_zero (s := a.st) hq
        rw [ho] at hb2
        unfold arcOK at hb2
        cases b
        · (repeat (first | refine DW_seq fun K hK => ?_ | (refine DW_r anBX27 Try.mixed (by kernel_rfl) ?_; simp [anBX27, hnt, dArc, hlt, hq', hn1, hn2, hq]; try simp (disch := omega) only [wrap64_in]) | refine DW_block ?_ | (refine DW_if ?_ ?_ ?_; (· (simp [hnt, dArc, hlt, hq', hn1, hn2, hq]; done)); (try (rotate_left; (· (intro hc; (try simp [hnt, dArc, hlt, hq', hn1, hn2, hq] at hc); done))))) | (refine DW_ret ?_; simp [Try.results7, hnt, dArc, hlt, hq', hn1, hn2, hq]) | ((first | refine DW_exit ?_ | refine DW_skip ?_); simp [hnt, dArc, hlt, hq', hn1, hn2, hq]) | (intro hc; (try simp [hnt, dArc, hlt, hq', hn1, hn2, hq] at hc); (try (exfalso; omega))) | ((first | refine callP_mk (e1) ?_ | refine callP_mk (e2) ?_ | (refine callP_wk (e1) ?_ ?_; (· (simp; done))) | (refine callP_wk (e2) ?_ ?_; (· (simp; done)))); try simp [hnt, dArc, hlt, hq', hn1, hn2, hq]) | (refine ⟨?_, ?_⟩; · omega) | omega | apply_assumption -exfalso -symm | (exfalso; omega)))
          refine Again.mk ⟨0 + 1, by omega⟩ (Sub.lit (by simp only [hb2]; simp)) (by simp; omega)
          (repeat (first | refine DW_seq fun K hK => ?_ | (refine DW_r anBX27 Try.mixed (by kernel_rfl) ?_; simp [anBX27, hnt]; try simp (disch := omega) only [wrap64_in]) | refine DW_block ?_ | (refine DW_if ?_ ?_ ?_; (· (simp [hnt]; done)); (try (rotate_left; (· (intro hc; (try simp [hnt] at hc); done))))) | (refine DW_ret ?_; simp [Try.results7, hnt]) | ((first | refine DW_exit ?_ | refine DW_skip ?_); simp [hnt]) | (intro hc; (try simp [hnt] at hc); (try (exfalso; omega))) | ((first | refine callP_mk (e1) ?_ | refine callP_mk (e2) ?_ | (refine callP_wk (e1) ?_ ?_; (· (simp; done))) | (refine callP_wk (e2) ?_ ?_; (· (simp; done)))); try simp [hnt]) | (refine ⟨?_, ?_⟩; · omega) | omega | apply_assumption -exfalso -symm | (exfalso; omega)))
        cases hS : stB a.st x.fr <;> rw [hS] at hb2 <;> (repeat (first | refine DW_seq fun K hK => ?_ | (refine DW_r anBX27 Try.mixed (by kernel_rfl) ?_; simp [anBX27, hnt, dArc, hlt, hq', hS, hn1, hn2, hq]; try simp (disch := omega) only [wrap64_in]) | refine DW_block ?_ | (refine DW_if ?_ ?_ ?_; (· (simp [hnt, dArc, hlt, hq', hS, hn1, hn2, hq]; done)); (try (rotate_left; (· (intro hc; (try simp [hnt, dArc, hlt, hq', hS, hn1, hn2, hq] at hc); done))))) | (refine DW_ret ?_; simp [Try.results7, hnt, dArc, hlt, hq', hS, hn1, hn2, hq]) | ((first | refine DW_exit ?_ | refine DW_skip ?_); simp [hnt, dArc, hlt, hq', hS, hn1, hn2, hq]) | (intro hc; (try simp [hnt, dArc, hlt, hq', hS, hn1, hn2, hq] at hc); (try (exfalso; omega))) | ((first | refine callP_mk (e1) ?_ | refine callP_mk (e2) ?_ | (refine callP_wk (e1) ?_ ?_; (· (simp; done))) | (refine callP_wk (e2) ?_ ?_; (· (simp; done)))); try simp [hnt, dArc, hlt, hq', hS, hn1, hn2, hq]) | (refine ⟨?_, ?_⟩; · omega) | omega | apply_assumption -exfalso -symm | (exfalso; omega)))
        all_goals
          refine Again.mk ⟨0 + 1, by omega⟩ (Sub.lit (by simp only [hb2]; simp)) (by simp; omega)
          (repeat (first | refine DW_seq fun K hK => ?_ | (refine DW_r anBX27 Try.mixed (by kernel_rfl) ?_; simp [anBX27, hnt]; try simp (disch := omega) only [wrap64_in]) | refine DW_block ?_ | (refine DW_if ?_ ?_ ?_; (· (simp [hnt]; done)); (try (rotate_left; (· (intro hc; (try simp [hnt] at hc); done))))) | (refine DW_ret ?_; simp [Try.results7, hnt]) | ((first | refine DW_exit ?_ | refine DW_skip ?_); simp [hnt]) | (intro hc; (try simp [hnt] at hc); (try (exfalso; omega))) | ((first | refine callP_mk (e1) ?_ | refine callP_mk (e2) ?_ | (refine callP_wk (e1) ?_ ?_; (· (simp; done))) | (refine callP_wk (e2) ?_ ?_; (· (simp; done)))); try simp [hnt]) | (refine ⟨?_, ?_⟩; · omega) | omega | apply_assumption -exfalso -symm | (exfalso; omega)))
      | succ m =>
        obtain ⟨p, hp, hp', _⟩ := at_lt' (l := a.arcs) (k := m) (by omega)
        have ho := okA_pos (s := a.st) (k := m + 1) (by omega) hq hp
        rw [ho, arcLess_eq] at hb2
        unfold arcOK at hb2
        have hm1 : ¬ (m : Int) + 1 = 0 := by omega
        have hm2 : m < a.arcs.length := by omega
        have hm5 : (m : Int) + 1 < (a.arcs.length : Int) := by omega
        have hm3 : (((m : Int) + 1) == 0) = false := by simpa using hm1
        have hm4 : IntKind.i64.wrap (m : Int) = m := wrap64_in (by omega) (by omega)
        have e3 := order16_pure p x
        simp only [dArc] at e3
        cases b
        · (repeat (first | refine DW_seq fun K hK => ?_ | (refine DW_r anBX27 Try.mixed (by kernel_rfl) ?_; simp [anBX27, hnt, dArc, hlt, hq', hm1, hm2, hm3, hm4, hm5, hp', hp]; try simp (disch := omega) only [wrap64_in]) | refine DW_block ?_ | (refine DW_if ?_ ?_ ?_; (· (simp [hnt, dArc, hlt, hq', hm1, hm2, hm3, hm4, hm5, hp', hp]; done)); (try (rotate_left; (· (intro hc; (try simp [hnt, dArc, hlt, hq', hm1, hm2, hm3, hm4, hm5, hp', hp] at hc); done))))) | (refine DW_ret ?_; simp [Try.results7, hnt, dArc, hlt, hq', hm1, hm2, hm3, hm4, hm5, hp', hp]) | ((first | refine DW_exit ?_ | refine DW_skip ?_); simp [hnt, dArc, hlt, hq', hm1, hm2, hm3, hm4, hm5, hp', hp]) | (intro hc; (try simp [hnt, dArc, hlt, hq', hm1, hm2, hm3, hm4, hm5, hp', hp] at hc); (try (exfalso; omega))) | ((first | refine callP_mk (e1) ?_ | refine callP_mk (e2) ?_ | refine callP_mk (e3) ?_ | (refine callP_wk (e1) ?_ ?_; (· (simp; done))) | (refine callP_wk (e2) ?_ ?_; (· (simp; done))) | (refine callP_wk (e3) ?_ ?_; (· (simp; done)))); try simp [hnt, dArc, hlt, hq', hm1, hm2, hm3, hm4, hm5, hp', hp]) | (refine ⟨?_, ?_⟩; · omega) | omega | apply_assumption -exfalso -symm | (exfalso; omega)))
          refine Again.mk ⟨m + 1 + 1, by omega⟩ (Sub.lit (by simp only [hb2]; simp)) (by simp; omega)
          (repeat (first | refine DW_seq fun K hK => ?_ | (refine DW_r anBX27 Try.mixed (by kernel_rfl) ?_; simp [anBX27, hnt]; try simp (disch := omega) only [wrap64_in]) | refine DW_block ?_ | (refine DW_if ?_ ?_ ?_; (· (simp [hnt]; done)); (try (rotate_left; (· (intro hc; (try simp [hnt] at hc); done))))) | (refine DW_ret ?_; simp [Try.results7, hnt]) | ((first | refine DW_exit ?_ | refine DW_skip ?_); simp [hnt]) | (intro hc; (try simp [hnt] at hc); (try (exfalso; omega))) | ((first | refine callP_mk (e1) ?_ | refine callP_mk (e2) ?_ | refine callP_mk (e3) ?_ | (refine callP_wk (e1) ?_ ?_; (· (simp; done))) | (refine callP_wk (e2) ?_ ?_; (· (simp; done))) | (refine callP_wk (e3) ?_ ?_; (· (simp; done)))); try simp [hnt]) | (refine ⟨?_, ?_⟩; · omega) | omega | apply_assumption -exfalso -symm | (exfalso; omega)))
        cases hS : stB a.st x.fr <;> rw [hS] at hb2
        · (repeat (first | refine DW_seq fun K hK => ?_ | (refine DW_r anBX27 Try.mixed (by kernel_rfl) ?_; simp [anBX27, hnt, dArc, hlt, hq', hS, hm1, hm2, hm3, hm4, hm5, hp', hp]; try simp (disch := omega) only [wrap64_in]) | refine DW_block ?_ | (refine DW_if ?_ ?_ ?_; (· (simp [hnt, dArc, hlt, hq', hS, hm1, hm2, hm3, hm4, hm5, hp', hp]; done)); (try (rotate_left; (· (intro hc; (try simp [hnt, dArc, hlt, hq', hS, hm1, hm2, hm3, hm4, hm5, hp', hp] at hc); done))))) | (refine DW_ret ?_; simp [Try.results7, hnt, dArc, hlt, hq', hS, hm1, hm2, hm3, hm4, hm5, hp', hp]) | ((first | refine DW_exit ?_ | refine DW_skip ?_); simp [hnt, dArc, hlt, hq', hS, hm1, hm2, hm3, hm4, hm5, hp', hp]) | (intro hc; (try simp [hnt, dArc, hlt, hq', hS, hm1, hm2, hm3, hm4, hm5, hp', hp] at hc); (try (exfalso; omega))) | ((first | refine callP_mk (e1) ?_ | refine callP_mk (e2) ?_ | refine callP_mk (e3) ?_ | (refine callP_wk (e1) ?_ ?_; (· (simp; done))) | (refine callP_wk (e2) ?_ ?_; (· (simp; done))) | (refine callP_wk (e3) ?_ ?_; (· (simp; done)))); try simp [hnt, dArc, hlt, hq', hS, hm1, hm2, hm3, hm4, hm5, hp', hp]) | (refine ⟨?_, ?_⟩; · omega) | omega | apply_assumption -exfalso -symm | (exfalso; omega)))
          refine Again.mk ⟨m + 1 + 1, by omega⟩ (Sub.lit (by simp only [hb2]; simp)) (by simp; omega)
          (repeat (first | refine DW_seq fun K hK => ?_ | (refine DW_r anBX27 Try.mixed (by kernel_rfl) ?_; simp [anBX27, hnt]; try simp (disch := omega) only [wrap64_in]) | refine DW_block ?_ | (refine DW_if ?_ ?_ ?_; (· (simp [hnt]; done)); (try (rotate_left; (· (intro hc; (try simp [hnt] at hc); done))))) | (refine DW_ret ?_; simp [Try.results7, hnt]) | ((first | refine DW_exit ?_ | refine DW_skip ?_); simp [hnt]) | (intro hc; (try simp [hnt] at hc); (try (exfalso; omega))) | ((first | refine callP_mk (e1) ?_ | refine callP_mk (e2) ?_ | refine callP_mk (e3) ?_ | (refine callP_wk (e1) ?_ ?_; (· (simp; done))) | (refine callP_wk (e2) ?_ ?_; (· (simp; done))) | (refine callP_wk (e3) ?_ ?_; (· (simp; done)))); try simp [hnt]) | (refine ⟨?_, ?_⟩; · omega) | omega | apply_assumption -exfalso -symm | (exfalso; omega)))
        cases hT : stB a.st x.to <;> rw [hT] at hb2
        · (repeat (first | refine DW_seq fun K hK => ?_ | (refine DW_r anBX27 Try.mixed (by kernel_rfl) ?_; simp [anBX27, hnt, dArc, hlt, hq', hS, hT, hm1, hm2, hm3, hm4, hm5, hp', hp]; try simp (disch := omega) only [wrap64_in]) | refine DW_block ?_ | (refine DW_if ?_ ?_ ?_; (· (simp [hnt, dArc, hlt, hq', hS, hT, hm1, hm2, hm3, hm4, hm5, hp', hp]; done)); (try (rotate_left; (· (intro hc; (try simp [hnt, dArc, hlt, hq', hS, hT, hm1, hm2, hm3, hm4, hm5, hp', hp] at hc); done))))) | (refine DW_ret ?_; simp [Try.results7, hnt, dArc, hlt, hq', hS, hT, hm1, hm2, hm3, hm4, hm5, hp', hp]) | ((first | refine DW_exit ?_ | refine DW_skip ?_); simp [hnt, dArc, hlt, hq', hS, hT, hm1, hm2, hm3, hm4, hm5, hp', hp]) | (intro hc; (try simp [hnt, dArc, hlt, hq', hS, hT, hm1, hm2, hm3, hm4, hm5, hp', hp] at hc); (try (exfalso; omega))) | ((first | refine callP_mk (e1) ?_ | refine callP_mk (e2) ?_ | refine callP_mk (e3) ?_ | (refine callP_wk (e1) ?_ ?_; (· (simp; done))) | (refine callP_wk (e2) ?_ ?_; (· (simp; done))) | (refine callP_wk (e3) ?_ ?_; (· (simp; done)))); try simp [hnt, dArc, hlt, hq', hS, hT, hm1, hm2, hm3, hm4, hm5, hp', hp]) | (refine ⟨?_, ?_⟩; · omega) | omega | apply_assumption -exfalso -symm | (exfalso; omega)))
          refine Again.mk ⟨m + 1 + 1, by omega⟩ (Sub.lit (by simp only [hb2]; simp)) (by simp; omega)
          (repeat (first | refine DW_seq fun K hK => ?_ | (refine DW_r anBX27 Try.mixed (by kernel_rfl) ?_; simp [anBX27, hnt]; try simp (disch := omega) only [wrap64_in]) | refine DW_block ?_ | (refine DW_if ?_ ?_ ?_; (· (simp [hnt]; done)); (try (rotate_left; (· (intro hc; (try simp [hnt] at hc); done))))) | (refine DW_ret ?_; simp [Try.results7, hnt]) | ((first | refine DW_exit ?_ | refine DW_skip ?_); simp [hnt]) | (intro hc; (try simp [hnt] at hc); (try (exfalso; omega))) | ((first | refine callP_mk (e1) ?_ | refine callP_mk (e2) ?_ | refine callP_mk (e3) ?_ | (refine callP_wk (e1) ?_ ?_; (· (simp; done))) | (refine callP_wk (e2) ?_ ?_; (· (simp; done))) | (refine callP_wk (e3) ?_ ?_; (· (simp; done)))); try simp [hnt]) | (refine ⟨?_, ?_⟩; · omega) | omega | apply_assumption -exfalso -symm | (exfalso; omega)))
        by_cases hN : 0 ≤ x.sy.n <;> simp only [hN, decide_true, decide_false] at hb2 <;> (repeat (first | refine DW_seq fun K hK => ?_ | (refine DW_r anBX27 Try.mixed (by kernel_rfl) ?_; simp [anBX27, hnt, dArc, hlt, hq', hS, hT, hN, hm1, hm2, hm3, hm4, hm5, hp', hp]; try simp (disch := omega) only [wrap64_in]) | refine DW_block ?_ | (refine DW_if ?_ ?_ ?_; (· (simp [hnt, dArc, hlt, hq', hS, hT, hN, hm1, hm2, hm3, hm4, hm5, hp', hp]; done)); (try (rotate_left; (· (intro hc; (try simp [hnt, dArc, hlt, hq', hS, hT, hN, hm1, hm2, hm3, hm4, hm5, hp', hp] at hc); done))))) | (refine DW_ret ?_; simp [Try.results7, hnt, dArc, hlt, hq', hS, hT, hN, hm1, hm2, hm3, hm4, hm5, hp', hp]) | ((first | refine DW_exit ?_ | refine DW_skip ?_); simp [hnt, dArc, hlt, hq', hS, hT, hN, hm1, hm2, hm3, hm4, hm5, hp', hp]) | (intro hc; (try simp [hnt, dArc, hlt, hq', hS, hT, hN, hm1, hm2, hm3, hm4, hm5, hp', hp] at hc); (try (exfalso; omega))) | ((first | refine callP_mk (e1) ?_ | refine callP_mk (e2) ?_ | refine callP_mk (e3) ?_ | (refine callP_wk (e1) ?_ ?_; (· (simp; done))) | (refine callP_wk (e2) ?_ ?_; (· (simp; done))) | (refine callP_wk (e3) ?_ ?_; (· (simp; done)))); try simp [hnt, dArc, hlt, hq', hS, hT, hN, hm1, hm2, hm3, hm4, hm5, hp', hp]) | (refine ⟨?_, ?_⟩; · omega) | omega | apply_assumption -exfalso -symm | (exfalso; omega)))
        all_goals
          refine Again.mk ⟨m + 1 + 1, by omega⟩ (Sub.lit (by simp only [hb2]; simp)) (by simp; omega)
          (repeat (first | refine DW_seq fun K hK => ?_ | (refine DW_r anBX27 Try.mixed (by kernel_rfl) ?_; simp [anBX27, hnt]; try simp (disch := omega) only [wrap64_in]) | refine DW_block ?_ | (refine DW_if ?_ ?_ ?_; (· (simp [hnt]; done)); (try (rotate_left; (· (intro hc; (try simp [hnt] at hc); done))))) | (refine DW_ret ?_; simp [Try.results7, hnt]) | ((first | refine DW_exit ?_ | refine DW_skip ?_); simp [hnt]) | (intro hc; (try simp [hnt] at hc); (try (exfalso; omega))) | ((first | refine callP_mk (e1) ?_ | refine callP_mk (e2) ?_ | refine callP_mk (e3) ?_ | (refine callP_wk (e1) ?_ ?_; (· (simp; done))) | (refine callP_wk (e2) ?_ ?_; (· (simp; done))) | (refine callP_wk (e3) ?_ ?_; (· (simp; done)))); try simp [hnt]) | (refine ⟨?_, ?_⟩; · omega) | omega | apply_assumption -exfalso -symm | (exfalso; omega)))
    · have hkk : k = a.arcs.length := by omega
      subst hkk
      rw [← hfin]
      cases hA : autoOK a <;> (repeat (first | refine DW_seq fun K hK => ?_ | (refine DW_r anBX27 Try.mixed (by kernel_rfl) ?_; simp [anBX27, hnt, hA]; try simp (disch := omega) only [wrap64_in]) | refine DW_block ?_ | (refine DW_if ?_ ?_ ?_; (· (simp [hnt, hA]; done)); (try (rotate_left; (· (intro hc; (try simp [hnt, hA] at hc); done))))) | (refine DW_ret ?_; simp [Try.results7, hnt, hA]) | ((first | refine DW_exit ?_ | refine DW_skip ?_); simp [hnt, hA]) | (intro hc; (try simp [hnt, hA] at hc); (try (exfalso; omega))) | (refine ⟨?_, ?_⟩; · omega) | omega | apply_assumption -exfalso -symm | (exfalso; omega)))
end Go.Proofs.Ytnmbgbeajacpfaa
end

section
/- may an automaton be? the document's answer -/

set_option linter.unusedSimpArgs false
set_option linter.unusedVariables false
namespace Go.Proofs.Ytnmbgbeajacpfaa
open Go Go.Dm
attribute [local irreducible] DW callP callS
set_option maxRecDepth 100000

theorem stB_lo {s q : Int} (h : q < 0) : stB s q = false := by unfold stB; simp; omega
theorem stB_hi {s q : Int} (h : s ≤ q) : stB s q = false := by unfold stB; simp; omega
theorem stB_in {s q : Int} (h1 : ¬ q < 0) (h2 : ¬ s ≤ q) : stB s q = true := by unfold stB; simp; omega

def anBX38 : Ann := ⟨[], [⟨12, [6], [], []⟩]⟩
set_option maxHeartbeats 4000000 in
theorem check8_pure (a : Auto) : DPure Try.prog 8 [.agg (dAuto a)] (.int .i64 (if autoOK a then 0 else 200)) := by
  refine DPure_introF [] (fn := Try.f8) Try.func8 rfl Try.call8 (by simp [Try.ntmps8]) (by simp [mx]) ?_
  intro hwf B hnt
  simp only [Try.ntmps8] at hnt
  obtain ⟨_, hw2, hw3⟩ := w_auto (a := a) (by simpa only [wfL, wfD, and_true] using hwf)
  clear hwf
  simp only [argS]
  have hn1 : (-1 : Int).toNat = 0 := rfl
  have hn2 : IntKind.i64.wrap (-1) = -1 := wrap64_in (by omega) (by omega)
  obtain ⟨R, hR⟩ : ∃ R, R = autoOK a := ⟨_, rfl⟩
  rw [← hR]
  by_cases h1 : a.st < 1
  · have hRf : R = false := by rw [hR]; unfold autoOK; rw [decide_eq_false (by omega)]; simp
    subst hRf
    (repeat (first | refine DW_seq fun K hK => ?_ | (refine DW_r anBX38 Try.mixed (by kernel_rfl) ?_; simp [anBX38, hnt, dAuto, h1]; try simp (disch := omega) only [wrap64_in]) | refine DW_block ?_ | (refine DW_if ?_ ?_ ?_; (· (simp [hnt, dAuto, h1]; done)); (try (rotate_left; (· (intro hc; (try simp [hnt, dAuto, h1] at hc); done))))) | (refine DW_ret ?_; simp [Try.results8, hnt, dAuto, h1]) | ((first | refine DW_exit ?_ | refine DW_skip ?_); simp [hnt, dAuto, h1]) | (intro hc; (try simp [hnt, dAuto, h1] at hc); (try (exfalso; omega))) | (refine ⟨?_, ?_⟩; · omega) | omega | apply_assumption -exfalso -symm | (exfalso; omega)))
  by_cases h2 : 65 < a.st
  · have hRf : R = false := by rw [hR]; unfold autoOK; rw [decide_eq_false (p := a.st ≤ 65) (by omega)]; simp
    subst hRf
    (repeat (first | refine DW_seq fun K hK => ?_ | (refine DW_r anBX38 Try.mixed (by kernel_rfl) ?_; simp [anBX38, hnt, dAuto, h1, h2]; try simp (disch := omega) only [wrap64_in]) | refine DW_block ?_ | (refine DW_if ?_ ?_ ?_; (· (simp [hnt, dAuto, h1, h2]; done)); (try (rotate_left; (· (intro hc; (try simp [hnt, dAuto, h1, h2] at hc); done))))) | (refine DW_ret ?_; simp [Try.results8, hnt, dAuto, h1, h2]) | ((first | refine DW_exit ?_ | refine DW_skip ?_); simp [hnt, dAuto, h1, h2]) | (intro hc; (try simp [hnt, dAuto, h1, h2] at hc); (try (exfalso; omega))) | (refine ⟨?_, ?_⟩; · omega) | omega | apply_assumption -exfalso -symm | (exfalso; omega)))
  (repeat (first | refine DW_seq fun K hK => ?_ | (refine DW_r anBX38 Try.mixed (by kernel_rfl) ?_; simp [anBX38, hnt, dAuto, h1, h2]; try simp (disch := omega) only [wrap64_in]) | refine DW_block ?_ | (refine DW_if ?_ ?_ ?_; (· (simp [hnt, dAuto, h1, h2]; done)); (try (rotate_left; (· (intro hc; (try simp [hnt, dAuto, h1, h2] at hc); done))))) | (refine DW_ret ?_; simp [Try.results8, hnt, dAuto, h1, h2]) | ((first | refine DW_exit ?_ | refine DW_skip ?_); simp [hnt, dAuto, h1, h2]) | (intro hc; (try simp [hnt, dAuto, h1, h2] at hc); (try (exfalso; omega))) | (refine ⟨?_, ?_⟩; · omega) | omega | apply_assumption -exfalso -symm | (exfalso; omega)))
  refine DW_loop (X := {k : Nat // k ≤ a.fin.length ∧ (List.range k).all (okF a.st a.fin) = true}) (fun k => ⟨[(1, .ref [.int .i64 a.st, dNums a.fin, dArcs a.arcs]), (3, .int .i64 k.1)], []⟩) (fun k => a.fin.length - k.1) ⟨0, by simp⟩ (Sub.lit (by simp)) ?_
  rintro ⟨k, hk, hall⟩
  simp only
  by_cases hlt : k < a.fin.length
  · obtain ⟨q, hq, hq', hqm⟩ := at_lt' hlt
    have hst := range_all_succ (n := k) (okF a.st a.fin)
    rw [hall, Bool.true_and] at hst
    have hnf : okF a.st a.fin k = false → R = false := fun h => by rw [hR]; unfold autoOK; rw [range_all_stop hlt h]; simp
    cases k with
    | zero =>
      by_cases c0 : q < 0
      · have hRf := hnf (okF_bad hq (stB_lo c0))
        subst hRf
        (repeat (first | refine DW_seq fun K hK => ?_ | (refine DW_r anBX38 Try.mixed (by kernel_rfl) ?_; simp [anBX38, hnt, dNum, hlt, hq', c0, hn1, hn2, hq]; try simp (disch := omega) only [wrap64_in]) | refine DW_block ?_ | (refine DW_if ?_ ?_ ?_; (· (simp [hnt, dNum, hlt, hq', c0, hn1, hn2, hq]; done)); (try (rotate_left; (· (intro hc; (try simp [hnt, dNum, hlt, hq', c0, hn1, hn2, hq] at hc); done))))) | (refine DW_ret ?_; simp [Try.results8, hnt, dNum, hlt, hq', c0, hn1, hn2, hq]) | ((first | refine DW_exit ?_ | refine DW_skip ?_); simp [hnt, dNum, hlt, hq', c0, hn1, hn2, hq]) | (intro hc; (try simp [hnt, dNum, hlt, hq', c0, hn1, hn2, hq] at hc); (try (exfalso; omega))) | (refine ⟨?_, ?_⟩; · omega) | omega | apply_assumption -exfalso -symm | (exfalso; omega)))
      by_cases c1 : a.st ≤ q
      · have hRf := hnf (okF_bad hq (stB_hi c1))
        subst hRf
        (repeat (first | refine DW_seq fun K hK => ?_ | (refine DW_r anBX38 Try.mixed (by kernel_rfl) ?_; simp [anBX38, hnt, dNum, hlt, hq', c0, c1, hn1, hn2, hq]; try simp (disch := omega) only [wrap64_in]) | refine DW_block ?_ | (refine DW_if ?_ ?_ ?_; (· (simp [hnt, dNum, hlt, hq', c0, c1, hn1, hn2, hq]; done)); (try (rotate_left; (· (intro hc; (try simp [hnt, dNum, hlt, hq', c0, c1, hn1, hn2, hq] at hc); done))))) | (refine DW_ret ?_; simp [Try.results8, hnt, dNum, hlt, hq', c0, c1, hn1, hn2, hq]) | ((first | refine DW_exit ?_ | refine DW_skip ?_); simp [hnt, dNum, hlt, hq', c0, c1, hn1, hn2, hq]) | (intro hc; (try simp [hnt, dNum, hlt, hq', c0, c1, hn1, hn2, hq] at hc); (try (exfalso; omega))) | (refine ⟨?_, ?_⟩; · omega) | omega | apply_assumption -exfalso -symm | (exfalso; omega)))
      rw [okF_zero hq, stB_in c0 c1] at hst
      (repeat (first | refine DW_seq fun K hK => ?_ | (refine DW_r anBX38 Try.mixed (by kernel_rfl) ?_; simp [anBX38, hnt, dNum, hlt, hq', c0, c1, hn1, hn2, hq]; try simp (disch := omega) only [wrap64_in]) | refine DW_block ?_ | (refine DW_if ?_ ?_ ?_; (· (simp [hnt, dNum, hlt, hq', c0, c1, hn1, hn2, hq]; done)); (try (rotate_left; (· (intro hc; (try simp [hnt, dNum, hlt, hq', c0, c1, hn1, hn2, hq] at hc); done))))) | (refine DW_ret ?_; simp [Try.results8, hnt, dNum, hlt, hq', c0, c1, hn1, hn2, hq]) | ((first | refine DW_exit ?_ | refine DW_skip ?_); simp [hnt, dNum, hlt, hq', c0, c1, hn1, hn2, hq]) | (intro hc; (try simp [hnt, dNum, hlt, hq', c0, c1, hn1, hn2, hq] at hc); (try (exfalso; omega))) | (refine ⟨?_, ?_⟩; · omega) | omega | apply_assumption -exfalso -symm | (exfalso; omega)))
      refine Again.mk ⟨0 + 1, by omega, hst⟩ (Sub.lit (by simp)) (by simp; omega)
      (repeat (first | refine DW_seq fun K hK => ?_ | (refine DW_r anBX38 Try.mixed (by kernel_rfl) ?_; simp [anBX38, hnt]; try simp (disch := omega) only [wrap64_in]) | refine DW_block ?_ | (refine DW_if ?_ ?_ ?_; (· (simp [hnt]; done)); (try (rotate_left; (· (intro hc; (try simp [hnt] at hc); done))))) | (refine DW_ret ?_; simp [Try.results8, hnt]) | ((first | refine DW_exit ?_ | refine DW_skip ?_); simp [hnt]) | (intro hc; (try simp [hnt] at hc); (try (exfalso; omega))) | (refine ⟨?_, ?_⟩; · omega) | omega | apply_assumption -exfalso -symm | (exfalso; omega)))
    | succ m =>
      obtain ⟨p, hp, hp', _⟩ := at_lt' (l := a.fin) (k := m) (by omega)
      have hm1 : (0 : Int) < (m : Int) + 1 := by omega
      have hm2 : m < a.fin.length := by omega
      have hm4 : IntKind.i64.wrap (m : Int) = m := wrap64_in (by omega) (by omega)
      by_cases c0 : q < 0
      · have hRf := hnf (okF_bad hq (stB_lo c0))
        subst hRf
        (repeat (first | refine DW_seq fun K hK => ?_ | (refine DW_r anBX38 Try.mixed (by kernel_rfl) ?_; simp [anBX38, hnt, dNum, hlt, hq', c0, hm1, hm2, hm4, hp', hp]; try simp (disch := omega) only [wrap64_in]) | refine DW_block ?_ | (refine DW_if ?_ ?_ ?_; (· (simp [hnt, dNum, hlt, hq', c0, hm1, hm2, hm4, hp', hp]; done)); (try (rotate_left; (· (intro hc; (try simp [hnt, dNum, hlt, hq', c0, hm1, hm2, hm4, hp', hp] at hc); done))))) | (refine DW_ret ?_; simp [Try.results8, hnt, dNum, hlt, hq', c0, hm1, hm2, hm4, hp', hp]) | ((first | refine DW_exit ?_ | refine DW_skip ?_); simp [hnt, dNum, hlt, hq', c0, hm1, hm2, hm4, hp', hp]) | (intro hc; (try simp [hnt, dNum, hlt, hq', c0, hm1, hm2, hm4, hp', hp] at hc); (try (exfalso; omega))) | (refine ⟨?_, ?_⟩; · omega) | omega | apply_assumption -exfalso -symm | (exfalso; omega)))
      by_cases c1 : a.st ≤ q
      · have hRf := hnf (okF_bad hq (stB_hi c1))
        subst hRf
        (repeat (first | refine DW_seq fun K hK => ?_ | (refine DW_r anBX38 Try.mixed (by kernel_rfl) ?_; simp [anBX38, hnt, dNum, hlt, hq', c0, c1, hm1, hm2, hm4, hp', hp]; try simp (disch := omega) only [wrap64_in]) | refine DW_block ?_ | (refine DW_if ?_ ?_ ?_; (· (simp [hnt, dNum, hlt, hq', c0, c1, hm1, hm2, hm4, hp', hp]; done)); (try (rotate_left; (· (intro hc; (try simp [hnt, dNum, hlt, hq', c0, c1, hm1, hm2, hm4, hp', hp] at hc); done))))) | (refine DW_ret ?_; simp [Try.results8, hnt, dNum, hlt, hq', c0, c1, hm1, hm2, hm4, hp', hp]) | ((first | refine DW_exit ?_ | refine DW_skip ?_); simp [hnt, dNum, hlt, hq', c0, c1, hm1, hm2, hm4, hp', hp]) | (intro hc; (try simp [hnt, dNum, hlt, hq', c0, c1, hm1, hm2, hm4, hp', hp] at hc); (try (exfalso; omega))) | (refine ⟨?_, ?_⟩; · omega) | omega | apply_assumption -exfalso -symm | (exfalso; omega)))
      have ho := okF_pos (s := a.st) (k := m + 1) (by omega) hq hp
      rw [stB_in c0 c1, Bool.true_and] at ho
      by_cases c2 : q ≤ p
      · have hRf := hnf (by rw [ho]; simp; omega)
        subst hRf
        (repeat (first | refine DW_seq fun K hK => ?_ | (refine DW_r anBX38 Try.mixed (by kernel_rfl) ?_; simp [anBX38, hnt, dNum, hlt, hq', c0, c1, c2, hm1, hm2, hm4, hp', hp]; try simp (disch := omega) only [wrap64_in]) | refine DW_block ?_ | (refine DW_if ?_ ?_ ?_; (· (simp [hnt, dNum, hlt, hq', c0, c1, c2, hm1, hm2, hm4, hp', hp]; done)); (try (rotate_left; (· (intro hc; (try simp [hnt, dNum, hlt, hq', c0, c1, c2, hm1, hm2, hm4, hp', hp] at hc); done))))) | (refine DW_ret ?_; simp [Try.results8, hnt, dNum, hlt, hq', c0, c1, c2, hm1, hm2, hm4, hp', hp]) | ((first | refine DW_exit ?_ | refine DW_skip ?_); simp [hnt, dNum, hlt, hq', c0, c1, c2, hm1, hm2, hm4, hp', hp]) | (intro hc; (try simp [hnt, dNum, hlt, hq', c0, c1, c2, hm1, hm2, hm4, hp', hp] at hc); (try (exfalso; omega))) | (refine ⟨?_, ?_⟩; · omega) | omega | apply_assumption -exfalso -symm | (exfalso; omega)))
      rw [ho, decide_eq_true (by omega)] at hst
      (repeat (first | refine DW_seq fun K hK => ?_ | (refine DW_r anBX38 Try.mixed (by kernel_rfl) ?_; simp [anBX38, hnt, dNum, hlt, hq', c0, c1, c2, hm1, hm2, hm4, hp', hp]; try simp (disch := omega) only [wrap64_in]) | refine DW_block ?_ | (refine DW_if ?_ ?_ ?_; (· (simp [hnt, dNum, hlt, hq', c0, c1, c2, hm1, hm2, hm4, hp', hp]; done)); (try (rotate_left; (· (intro hc; (try simp [hnt, dNum, hlt, hq', c0, c1, c2, hm1, hm2, hm4, hp', hp] at hc); done))))) | (refine DW_ret ?_; simp [Try.results8, hnt, dNum, hlt, hq', c0, c1, c2, hm1, hm2, hm4, hp', hp]) | ((first | refine DW_exit ?_ | refine DW_skip ?_); simp [hnt, dNum, hlt, hq', c0, c1, c2, hm1, hm2, hm4, hp', hp]) | (intro hc; (try simp [hnt, dNum, hlt, hq', c0, c1, c2, hm1, hm2, hm4, hp', hp] at hc); (try (exfalso; omega))) | (refine ⟨?_, ?_⟩; · omega) | omega | apply_assumption -exfalso -symm | (exfalso; omega)))
      refine Again.mk ⟨m + 1 + 1, by omega, hst⟩ (Sub.lit (by simp)) (by simp; omega)
      (repeat (first | refine DW_seq fun K hK => ?_ | (refine DW_r anBX38 Try.mixed (by kernel_rfl) ?_; simp [anBX38, hnt]; try simp (disch := omega) only [wrap64_in]) | refine DW_block ?_ | (refine DW_if ?_ ?_ ?_; (· (simp [hnt]; done)); (try (rotate_left; (· (intro hc; (try simp [hnt] at hc); done))))) | (refine DW_ret ?_; simp [Try.results8, hnt]) | ((first | refine DW_exit ?_ | refine DW_skip ?_); simp [hnt]) | (intro hc; (try simp [hnt] at hc); (try (exfalso; omega))) | (refine ⟨?_, ?_⟩; · omega) | omega | apply_assumption -exfalso -symm | (exfalso; omega)))
  · have hkk : k = a.fin.length := by omega
    subst hkk
    (repeat (first | refine DW_seq fun K hK => ?_ | (refine DW_r anBX38 Try.mixed (by kernel_rfl) ?_; simp [anBX38, hnt]; try simp (disch := omega) only [wrap64_in]) | refine DW_block ?_ | (refine DW_if ?_ ?_ ?_; (· (simp [hnt]; done)); (try (rotate_left; (· (intro hc; (try simp [hnt] at hc); done))))) | (refine DW_ret ?_; simp [Try.results8, hnt]) | ((first | refine DW_exit ?_ | refine DW_skip ?_); simp [hnt]) | (intro hc; (try simp [hnt] at hc); (try (exfalso; omega))) | (refine ⟨?_, ?_⟩; · omega) | omega | apply_assumption -exfalso -symm | (exfalso; omega)))
    refine DW_loop (X := {k : Nat // k ≤ a.arcs.length ∧ (List.range k).all (okA a.st a.arcs) = true}) (fun k => ⟨[(1, .ref [.int .i64 a.st, dNums a.fin, dArcs a.arcs]), (5, .int .i64 k.1)], []⟩) (fun k => a.arcs.length - k.1) ⟨0, by simp⟩ (Sub.lit (by simp)) ?_
    rintro ⟨k, hk, hall2⟩
    simp only
    by_cases hlt : k < a.arcs.length
    · obtain ⟨x, hq, hq', hqm⟩ := at_lt' hlt
      have hst := range_all_succ (n := k) (okA a.st a.arcs)
      rw [hall2, Bool.true_and] at hst
      have hnf : okA a.st a.arcs k = false → R = false := fun h => by rw [hR]; unfold autoOK; rw [range_all_stop (n := a.arcs.length) hlt h]; simp
      by_cases c0 : x.fr < 0
      · have hRf := hnf (okA_bad hq (by unfold arcOK; rw [stB_lo c0]; simp))
        subst hRf
        (repeat (first | refine DW_seq fun K hK => ?_ | (refine DW_r anBX38 Try.mixed (by kernel_rfl) ?_; simp [anBX38, hnt, dArc, hlt, hq', c0]; try simp (disch := omega) only [wrap64_in]) | refine DW_block ?_ | (refine DW_if ?_ ?_ ?_; (· (simp [hnt, dArc, hlt, hq', c0]; done)); (try (rotate_left; (· (intro hc; (try simp [hnt, dArc, hlt, hq', c0] at hc); done))))) | (refine DW_ret ?_; simp [Try.results8, hnt, dArc, hlt, hq', c0]) | ((first | refine DW_exit ?_ | refine DW_skip ?_); simp [hnt, dArc, hlt, hq', c0]) | (intro hc; (try simp [hnt, dArc, hlt, hq', c0] at hc); (try (exfalso; omega))) | (refine ⟨?_, ?_⟩; · omega) | omega | apply_assumption -exfalso -symm | (exfalso; omega)))
      by_cases c1 : a.st ≤ x.fr
      · have hRf := hnf (okA_bad hq (by unfold arcOK; rw [stB_hi c1]; simp))
        subst hRf
        (repeat (first | refine DW_seq fun K hK => ?_ | (refine DW_r anBX38 Try.mixed (by kernel_rfl) ?_; simp [anBX38, hnt, dArc, hlt, hq', c0, c1]; try simp (disch := omega) only [wrap64_in]) | refine DW_block ?_ | (refine DW_if ?_ ?_ ?_; (· (simp [hnt, dArc, hlt, hq', c0, c1]; done)); (try (rotate_left; (· (intro hc; (try simp [hnt, dArc, hlt, hq', c0, c1] at hc); done))))) | (refine DW_ret ?_; simp [Try.results8, hnt, dArc, hlt, hq', c0, c1]) | ((first | refine DW_exit ?_ | refine DW_skip ?_); simp [hnt, dArc, hlt, hq', c0, c1]) | (intro hc; (try simp [hnt, dArc, hlt, hq', c0, c1] at hc); (try (exfalso; omega))) | (refine ⟨?_, ?_⟩; · omega) | omega | apply_assumption -exfalso -symm | (exfalso; omega)))
      by_cases c2 : x.to < 0
      · have hRf := hnf (okA_bad hq (by unfold arcOK; rw [stB_lo c2]; simp))
        subst hRf
        (repeat (first | refine DW_seq fun K hK => ?_ | (refine DW_r anBX38 Try.mixed (by kernel_rfl) ?_; simp [anBX38, hnt, dArc, hlt, hq', c0, c1, c2]; try simp (disch := omega) only [wrap64_in]) | refine DW_block ?_ | (refine DW_if ?_ ?_ ?_; (· (simp [hnt, dArc, hlt, hq', c0, c1, c2]; done)); (try (rotate_left; (· (intro hc; (try simp [hnt, dArc, hlt, hq', c0, c1, c2] at hc); done))))) | (refine DW_ret ?_; simp [Try.results8, hnt, dArc, hlt, hq', c0, c1, c2]) | ((first | refine DW_exit ?_ | refine DW_skip ?_); simp [hnt, dArc, hlt, hq', c0, c1, c2]) | (intro hc; (try simp [hnt, dArc, hlt, hq', c0, c1, c2] at hc); (try (exfalso; omega))) | (refine ⟨?_, ?_⟩; · omega) | omega | apply_assumption -exfalso -symm | (exfalso; omega)))
      by_cases c3 : a.st ≤ x.to
      · have hRf := hnf (okA_bad hq (by unfold arcOK; rw [stB_hi c3]; simp))
        subst hRf
        (repeat (first | refine DW_seq fun K hK => ?_ | (refine DW_r anBX38 Try.mixed (by kernel_rfl) ?_; simp [anBX38, hnt, dArc, hlt, hq', c0, c1, c2, c3]; try simp (disch := omega) only [wrap64_in]) | refine DW_block ?_ | (refine DW_if ?_ ?_ ?_; (· (simp [hnt, dArc, hlt, hq', c0, c1, c2, c3]; done)); (try (rotate_left; (· (intro hc; (try simp [hnt, dArc, hlt, hq', c0, c1, c2, c3] at hc); done))))) | (refine DW_ret ?_; simp [Try.results8, hnt, dArc, hlt, hq', c0, c1, c2, c3]) | ((first | refine DW_exit ?_ | refine DW_skip ?_); simp [hnt, dArc, hlt, hq', c0, c1, c2, c3]) | (intro hc; (try simp [hnt, dArc, hlt, hq', c0, c1, c2, c3] at hc); (try (exfalso; omega))) | (refine ⟨?_, ?_⟩; · omega) | omega | apply_assumption -exfalso -symm | (exfalso; omega)))
      by_cases c4 : x.sy.n < 0
      · have hRf := hnf (okA_bad hq (by unfold arcOK; rw [decide_eq_false (p := 0 ≤ x.sy.n) (by omega)]; simp))
        subst hRf
        (repeat (first | refine DW_seq fun K hK => ?_ | (refine DW_r anBX38 Try.mixed (by kernel_rfl) ?_; simp [anBX38, hnt, dArc, hlt, hq', c0, c1, c2, c3, c4]; try simp (disch := omega) only [wrap64_in]) | refine DW_block ?_ | (refine DW_if ?_ ?_ ?_; (· (simp [hnt, dArc, hlt, hq', c0, c1, c2, c3, c4]; done)); (try (rotate_left; (· (intro hc; (try simp [hnt, dArc, hlt, hq', c0, c1, c2, c3, c4] at hc); done))))) | (refine DW_ret ?_; simp [Try.results8, hnt, dArc, hlt, hq', c0, c1, c2, c3, c4]) | ((first | refine DW_exit ?_ | refine DW_skip ?_); simp [hnt, dArc, hlt, hq', c0, c1, c2, c3, c4]) | (intro hc; (try simp [hnt, dArc, hlt, hq', c0, c1, c2, c3, c4] at hc); (try (exfalso; omega))) | (refine ⟨?_, ?_⟩; · omega) | omega | apply_assumption -exfalso -symm | (exfalso; omega)))
      have hok : arcOK a.st x = true := by unfold arcOK; rw [stB_in c0 c1, stB_in c2 c3, decide_eq_true (by omega)]; rfl
      cases k with
      | zero =>
        rw [okA_zero hq, hok] at hst
        (repeat (first | refine DW_seq fun K hK => ?_ | (refine DW_r anBX38 Try.mixed (by kernel_rfl) ?_; simp [anBX38, hnt, dArc, hlt, hq', c0, c1, c2, c3, c4, hn1, hn2, hq]; try simp (disch := omega) only [wrap64_in]) | refine DW_block ?_ | (refine DW_if ?_ ?_ ?_; (· (simp [hnt, dArc, hlt, hq', c0, c1, c2, c3, c4, hn1, hn2, hq]; done)); (try (rotate_left; (· (intro hc; (try simp [hnt, dArc, hlt, hq', c0, c1, c2, c3, c4, hn1, hn2, hq] at hc); done))))) | (refine DW_ret ?_; simp [Try.results8, hnt, dArc, hlt, hq', c0, c1, c2, c3, c4, hn1, hn2, hq]) | ((first | refine DW_exit ?_ | refine DW_skip ?_); simp [hnt, dArc, hlt, hq', c0, c1, c2, c3, c4, hn1, hn2, hq]) | (intro hc; (try simp [hnt, dArc, hlt, hq', c0, c1, c2, c3, c4, hn1, hn2, hq] at hc); (try (exfalso; omega))) | (refine ⟨?_, ?_⟩; · omega) | omega | apply_assumption -exfalso -symm | (exfalso; omega)))
        refine Again.mk ⟨0 + 1, by omega, hst⟩ (Sub.lit (by simp)) (by simp; omega)
        (repeat (first | refine DW_seq fun K hK => ?_ | (refine DW_r anBX38 Try.mixed (by kernel_rfl) ?_; simp [anBX38, hnt]; try simp (disch := omega) only [wrap64_in]) | refine DW_block ?_ | (refine DW_if ?_ ?_ ?_; (· (simp [hnt]; done)); (try (rotate_left; (· (intro hc; (try simp [hnt] at hc); done))))) | (refine DW_ret ?_; simp [Try.results8, hnt]) | ((first | refine DW_exit ?_ | refine DW_skip ?_); simp [hnt]) | (intro hc; (try simp [hnt] at hc); (try (exfalso; omega))) | (refine ⟨?_, ?_⟩; · omega) | omega | apply_assumption -exfalso -symm | (exfalso; omega)))
      | succ m =>
        obtain ⟨p, hp, hp', _⟩ := at_lt' (l := a.arcs) (k := m) (by omega)
        have hm1 : (0 : Int) < (m : Int) + 1 := by omega
        have hm2 : m < a.arcs.length := by omega
        have hm4 : IntKind.i64.wrap (m : Int) = m := wrap64_in (by omega) (by omega)
        have ho := okA_pos (s := a.st) (k := m + 1) (by omega) hq hp
        rw [hok, Bool.true_and] at ho
        have e3 := less17_pure p x
        simp only [dArc] at e3
        cases hL : arcLess p x
        · have hRf := hnf (by rw [ho, hL])
          subst hRf
          rw [hL] at e3
          (repeat (first | refine DW_seq fun K hK => ?_ | (refine DW_r anBX38 Try.mixed (by kernel_rfl) ?_; simp [anBX38, hnt, dArc, hlt, hq', c0, c1, c2, c3, c4, hm1, hm2, hm4, hp', hp]; try simp (disch := omega) only [wrap64_in]) | refine DW_block ?_ | (refine DW_if ?_ ?_ ?_; (· (simp [hnt, dArc, hlt, hq', c0, c1, c2, c3, c4, hm1, hm2, hm4, hp', hp]; done)); (try (rotate_left; (· (intro hc; (try simp [hnt, dArc, hlt, hq', c0, c1, c2, c3, c4, hm1, hm2, hm4, hp', hp] at hc); done))))) | (refine DW_ret ?_; simp [Try.results8, hnt, dArc, hlt, hq', c0, c1, c2, c3, c4, hm1, hm2, hm4, hp', hp]) | ((first | refine DW_exit ?_ | refine DW_skip ?_); simp [hnt, dArc, hlt, hq', c0, c1, c2, c3, c4, hm1, hm2, hm4, hp', hp]) | (intro hc; (try simp [hnt, dArc, hlt, hq', c0, c1, c2, c3, c4, hm1, hm2, hm4, hp', hp] at hc); (try (exfalso; omega))) | ((first | refine callP_mk (e3) ?_ | (refine callP_wk (e3) ?_ ?_; (· (simp; done)))); try simp [hnt, dArc, hlt, hq', c0, c1, c2, c3, c4, hm1, hm2, hm4, hp', hp]) | (refine ⟨?_, ?_⟩; · omega) | omega | apply_assumption -exfalso -symm | (exfalso; omega)))
        rw [ho, hL] at hst
        rw [hL] at e3
        (repeat (first | refine DW_seq fun K hK => ?_ | (refine DW_r anBX38 Try.mixed (by kernel_rfl) ?_; simp [anBX38, hnt, dArc, hlt, hq', c0, c1, c2, c3, c4, hm1, hm2, hm4, hp', hp]; try simp (disch := omega) only [wrap64_in]) | refine DW_block ?_ | (refine DW_if ?_ ?_ ?_; (· (simp [hnt, dArc, hlt, hq', c0, c1, c2, c3, c4, hm1, hm2, hm4, hp', hp]; done)); (try (rotate_left; (· (intro hc; (try simp [hnt, dArc, hlt, hq', c0, c1, c2, c3, c4, hm1, hm2, hm4, hp', hp] at hc); done))))) | (refine DW_ret ?_; simp [Try.results8, hnt, dArc, hlt, hq', c0, c1, c2, c3, c4, hm1, hm2, hm4, hp', hp]) | ((first | refine DW_exit ?_ | refine DW_skip ?_); simp [hnt, dArc, hlt, hq', c0, c1, c2, c3, c4, hm1, hm2, hm4, hp', hp]) | (intro hc; (try simp [hnt, dArc, hlt, hq', c0, c1, c2, c3, c4, hm1, hm2, hm4, hp', hp] at hc); (try (exfalso; omega))) | ((first | refine callP_mk (e3) ?_ | (refine callP_wk (e3) ?_ ?_; (· (simp; done)))); try simp [hnt, dArc, hlt, hq', c0, c1, c2, c3, c4, hm1, hm2, hm4, hp', hp]) | (refine ⟨?_, ?_⟩; · omega) | omega | apply_assumption -exfalso -symm | (exfalso; omega)))
        refine Again.mk ⟨m + 1 + 1, by omega, hst⟩ (Sub.lit (by simp)) (by simp; omega)
        (repeat (first | refine DW_seq fun K hK => ?_ | (refine DW_r anBX38 Try.mixed (by kernel_rfl) ?_; simp [anBX38, hnt]; try simp (disch := omega) only [wrap64_in]) | refine DW_block ?_ | (refine DW_if ?_ ?_ ?_; (· (simp [hnt]; done)); (try (rotate_left; (· (intro hc; (try simp [hnt] at hc); done))))) | (refine DW_ret ?_; simp [Try.results8, hnt]) | ((first | refine DW_exit ?_ | refine DW_skip ?_); simp [hnt]) | (intro hc; (try simp [hnt] at hc); (try (exfalso; omega))) | ((first | refine callP_mk (e3) ?_ | (refine callP_wk (e3) ?_ ?_; (· (simp; done)))); try simp [hnt]) | (refine ⟨?_, ?_⟩; · omega) | omega | apply_assumption -exfalso -symm | (exfalso; omega)))
    · have hkk : k = a.arcs.length := by omega
      subst hkk
      have hRt : R = true := by rw [hR]; unfold autoOK; rw [hall, hall2, decide_eq_true (by omega), decide_eq_true (by omega)]; rfl
      subst hRt
      (repeat (first | refine DW_seq fun K hK => ?_ | (refine DW_r anBX38 Try.mixed (by kernel_rfl) ?_; simp [anBX38, hnt]; try simp (disch := omega) only [wrap64_in]) | refine DW_block ?_ | (refine DW_if ?_ ?_ ?_; (· (simp [hnt]; done)); (try (rotate_left; (· (intro hc; (try simp [hnt] at hc); done))))) | (refine DW_ret ?_; simp [Try.results8, hnt]) | ((first | refine DW_exit ?_ | refine DW_skip ?_); simp [hnt]) | (intro hc; (try simp [hnt] at hc); (try (exfalso; omega))) | (refine ⟨?_, ?_⟩; · omega) | omega | apply_assumption -exfalso -symm | (exfalso; omega)))
end Go.Proofs.Ytnmbgbeajacpfaa
end

section
/- 'BoxChecks': the statement answers true -/


set_option linter.unusedSimpArgs false
set_option linter.unusedVariables false
namespace Go.Proofs.Ytnmbgbeajacpfaa
open Go Go.Dm
attribute [local irreducible] DW callP callS
set_option maxRecDepth 100000

def anBX514 : Ann := ⟨[], [⟨16, [13], [], []⟩, ⟨17, [14], [], []⟩, ⟨30, [20], [], []⟩]⟩
theorem ofNil_pure : DPure Try.prog 14 [.nilp, .nilsl] (.tup [.agg [.int .i64 0, .nilsl, .nilsl], .int .i64 1]) := by
  refine DPure_introF [] (fn := Try.f14) Try.func14 rfl Try.call14 (by simp [Try.ntmps14]) (by simp [mx]) ?_
  intro hwf B hnt
  simp only [Try.ntmps14] at hnt
  simp only [argS]
  (repeat (first | refine DW_seq fun K hK => ?_ | (refine DW_r anBX514 Try.mixed (by kernel_rfl) ?_; simp [anBX514, hnt]; try simp (disch := omega) only [wrap64_in]) | refine DW_block ?_ | (refine DW_if ?_ ?_ ?_; (· (simp [hnt]; done)); (try (rotate_left; (· (intro hc; (try simp [hnt] at hc); done))))) | (refine DW_ret ?_; simp [Try.results14, hnt]) | ((first | refine DW_exit ?_ | refine DW_skip ?_); simp [hnt]) | (intro hc; (try simp [hnt] at hc); (try (exfalso; omega))) | (refine ⟨?_, ?_⟩; · omega) | omega | apply_assumption -exfalso -symm | (exfalso; omega)))
def anBX56 : Ann := ⟨[], [⟨1, [1], [], []⟩]⟩
theorem head_pure : DPure Try.prog 6 [] (.bool true) := by
  refine DPure_introF [] (fn := Try.f6) Try.func6 rfl Try.call6 (by simp [Try.ntmps6]) (by simp [mx]) ?_
  intro hwf B hnt
  simp only [Try.ntmps6] at hnt
  simp only [argS]
  have c1 := check7_pure ⟨0, [], []⟩
  have c2 := check7_pure ⟨1, [], []⟩
  rw [show autoOK ⟨0, [], []⟩ = false from rfl] at c1
  rw [show autoOK ⟨1, [], []⟩ = true from rfl] at c2
  simp only [dAuto, dNums, dArcs, List.map_nil] at c1 c2
  (repeat (first | refine DW_seq fun K hK => ?_ | (refine DW_r anBX56 Try.mixed (by kernel_rfl) ?_; simp [anBX56, hnt]; try simp (disch := omega) only [wrap64_in]) | refine DW_block ?_ | (refine DW_if ?_ ?_ ?_; (· (simp [hnt]; done)); (try (rotate_left; (· (intro hc; (try simp [hnt] at hc); done))))) | (refine DW_ret ?_; simp [Try.results6, hnt]) | ((first | refine DW_exit ?_ | refine DW_skip ?_); simp [hnt]) | (intro hc; (try simp [hnt] at hc); (try (exfalso; omega))) | ((first | refine callP_mk (ofNil_pure) ?_ | refine callP_mk (c1) ?_ | refine callP_mk (c2) ?_ | (refine callP_wk (ofNil_pure) ?_ ?_; (· (simp; done))) | (refine callP_wk (c1) ?_ ?_; (· (simp; done))) | (refine callP_wk (c2) ?_ ?_; (· (simp; done)))); try simp [hnt]) | (refine ⟨?_, ?_⟩; · omega) | omega | apply_assumption -exfalso -symm | (exfalso; omega)))
end Go.Proofs.Ytnmbgbeajacpfaa
end

section
/- steps of automata -/

set_option linter.unusedSimpArgs false
set_option linter.unusedVariables false
namespace Go.Proofs.Ytnmbgbeajacpfaa
open Go Go.Dm
attribute [local irreducible] DW callP callS
set_option maxRecDepth 100000

@[simp] theorem bD_tail (l : List Bool) (v : Nat) (h : v < (bD l).length) : ((bD l)[v]'h).tail = [] := by simp [bD, dBl]
theorem mx_rep (n : Nat) (b : Bool) : mxR (List.replicate n [DVal.bool b]) = 0 := by have := mx_bD (List.replicate n b); rwa [bD_rep] at this
theorem bAt_nat {l : List Bool} {u : Nat} {b : Bool} (h : l[u]? = some b) : bAt l (u : Int) = b := by
  unfold bAt; rw [Int.toNat_natCast, h]; rfl
theorem sym_ne {x y : Sym} (h : ¬ x = y) : (x.label == y.label && x.n == y.n) = false := by
  rw [Bool.eq_false_iff]
  intro hh
  simp only [Bool.and_eq_true, beq_iff_eq] at hh
  apply h
  cases x
  cases y
  simp only at hh
  rw [hh.1, hh.2]
def anBX419 : Ann := ⟨[], [⟨4, [9], [], []⟩]⟩
set_option maxHeartbeats 4000000 in
theorem step19_pure (a : Auto) (fr : List Bool) (s : Sym) (hok : autoOK a = true) (hf : fr.length = a.st.toNat) : DPure Try.prog 19 [.agg (dAuto a), dBls fr, .agg (dSym s)] (dBls (stepF a fr s)) := by
  refine DPure_introF [12] (fn := Try.f19) Try.func19 rfl Try.call19 (by simp [Try.ntmps19]) (by simp [mx]) ?_
  intro hwf B hnt
  simp only [Try.ntmps19] at hnt
  have hw3 := len_arcs (l := a.arcs) (by have := hwf.1; simp only [dAuto, wfD, wfL] at this; exact this.2.2.1)
  clear hwf
  obtain ⟨hs1, hs2⟩ := ok_st hok
  have hsz : a.st.toNat * 1 ≤ 150000000000000 := by omega
  have hsz2 : a.st.toNat ≤ 9223372036854775807 := by omega
  have hst0 : 0 ≤ a.st := by omega
  have hst1 : a.st ≤ 150000000000000 := by omega
  have hst2 : a.st ≤ 9223372036854775807 := by omega
  simp only [argS]
  (repeat (first | refine DW_seq fun K hK => ?_ | (refine DW_r anBX419 Try.mixed (by kernel_rfl) ?_; simp [anBX419, hnt, dAuto, dSym, hst0, hst1, hst2]; try simp (disch := omega) only [wrap64_in]) | refine DW_block ?_ | (refine DW_if ?_ ?_ ?_; (· (simp [hnt, dAuto, dSym, hst0, hst1, hst2]; done)); (try (rotate_left; (· (intro hc; (try simp [hnt, dAuto, dSym, hst0, hst1, hst2] at hc); done))))) | (refine DW_ret ?_; simp [Try.results19, hnt, dAuto, dSym, hst0, hst1, hst2]) | ((first | refine DW_exit ?_ | refine DW_skip ?_); simp [hnt, dAuto, dSym, hst0, hst1, hst2]) | (intro hc; (try simp [hnt, dAuto, dSym, hst0, hst1, hst2] at hc); (try (exfalso; omega))) | (refine ⟨?_, ?_⟩; · omega) | omega | apply_assumption -exfalso -symm | (exfalso; omega)))
  refine DW_loop (X := {k : Nat // k ≤ a.arcs.length}) (fun k => ⟨[(1, dBls fr), (3, .ref [.int .i64 a.st, dNums a.fin, dArcs a.arcs]), (5, .ref (dSym s)), (7, .osl 12 1), (14, dArcs a.arcs), (15, .int .i64 a.arcs.length), (16, .int .i64 k.1)], [⟨12, 1, .row 4 1 1 (bD (stepK a fr s k.1))⟩]⟩) (fun k => a.arcs.length - k.1) ⟨0, by simp⟩ (Sub.lit (by simp [dSym, stepK, bD_rep, mx_rep])) ?_
  rintro ⟨k, hk⟩
  simp only
  by_cases hlt : k < a.arcs.length
  · obtain ⟨x, hx, hx', hxm⟩ := at_lt' hlt
    obtain ⟨b1, b2, b3, b4⟩ := ok_arc hok hxm
    obtain ⟨u, hu⟩ : ∃ u : Nat, x.fr = (u : Int) := ⟨x.fr.toNat, by omega⟩
    obtain ⟨v, hv⟩ : ∃ v : Nat, x.to = (v : Int) := ⟨x.to.toNat, by omega⟩
    have hul : u < fr.length := by omega
    have hvl : v < (stepK a fr s k).length := by rw [stepK_len]; omega
    obtain ⟨b, hb, hb', _⟩ := at_lt' hul
    have hnx := stepK_next (a := a) (fr := fr) (s := s) hx
    unfold stepG at hnx
    rw [hu, hv, bAt_nat hb, Int.toNat_natCast] at hnx
    cases b
    · simp only [Bool.false_and, Bool.false_eq_true, if_false] at hnx
      (repeat (first | refine DW_seq fun K hK => ?_ | (refine DW_r anBX419 Try.mixed (by kernel_rfl) ?_; simp [anBX419, hnt, dArc, dSym, dBl, hlt, hx', hu, hv, hul, hvl, hb, hb']; try simp (disch := omega) only [wrap64_in]) | refine DW_block ?_ | (refine DW_if ?_ ?_ ?_; (· (simp [hnt, dArc, dSym, dBl, hlt, hx', hu, hv, hul, hvl, hb, hb']; done)); (try (rotate_left; (· (intro hc; (try simp [hnt, dArc, dSym, dBl, hlt, hx', hu, hv, hul, hvl, hb, hb'] at hc); done))))) | (refine DW_ret ?_; simp [Try.results19, hnt, dArc, dSym, dBl, hlt, hx', hu, hv, hul, hvl, hb, hb']) | ((first | refine DW_exit ?_ | refine DW_skip ?_); simp [hnt, dArc, dSym, dBl, hlt, hx', hu, hv, hul, hvl, hb, hb']) | (intro hc; (try simp [hnt, dArc, dSym, dBl, hlt, hx', hu, hv, hul, hvl, hb, hb'] at hc); (try (exfalso; omega))) | (refine ⟨?_, ?_⟩; · omega) | omega | apply_assumption -exfalso -symm | (exfalso; omega)))
      refine Again.mk ⟨k + 1, by omega⟩ (Sub.lit (by simp [hnx, dSym])) (by simp; omega)
      (repeat (first | refine DW_seq fun K hK => ?_ | (refine DW_r anBX419 Try.mixed (by kernel_rfl) ?_; simp [anBX419, hnt]; try simp (disch := omega) only [wrap64_in]) | refine DW_block ?_ | (refine DW_if ?_ ?_ ?_; (· (simp [hnt]; done)); (try (rotate_left; (· (intro hc; (try simp [hnt] at hc); done))))) | (refine DW_ret ?_; simp [Try.results19, hnt]) | ((first | refine DW_exit ?_ | refine DW_skip ?_); simp [hnt]) | (intro hc; (try simp [hnt] at hc); (try (exfalso; omega))) | (refine ⟨?_, ?_⟩; · omega) | omega | apply_assumption -exfalso -symm | (exfalso; omega)))
    · by_cases he : x.sy = s
      · rw [decide_eq_true he] at hnx
        simp only [Bool.and_self, if_true] at hnx
        have e1 : x.sy.label = s.label := by rw [he]
        have e2 : x.sy.n = s.n := by rw [he]
        (repeat (first | refine DW_seq fun K hK => ?_ | (refine DW_r anBX419 Try.mixed (by kernel_rfl) ?_; simp [anBX419, hnt, dArc, dSym, dBl, hlt, hx', hu, hv, hul, hvl, hb, hb', e1, e2, bD_len]; try simp (disch := omega) only [wrap64_in]) | refine DW_block ?_ | (refine DW_if ?_ ?_ ?_; (· (simp [hnt, dArc, dSym, dBl, hlt, hx', hu, hv, hul, hvl, hb, hb', e1, e2, bD_len]; done)); (try (rotate_left; (· (intro hc; (try simp [hnt, dArc, dSym, dBl, hlt, hx', hu, hv, hul, hvl, hb, hb', e1, e2, bD_len] at hc); done))))) | (refine DW_ret ?_; simp [Try.results19, hnt, dArc, dSym, dBl, hlt, hx', hu, hv, hul, hvl, hb, hb', e1, e2, bD_len]) | ((first | refine DW_exit ?_ | refine DW_skip ?_); simp [hnt, dArc, dSym, dBl, hlt, hx', hu, hv, hul, hvl, hb, hb', e1, e2, bD_len]) | (intro hc; (try simp [hnt, dArc, dSym, dBl, hlt, hx', hu, hv, hul, hvl, hb, hb', e1, e2, bD_len] at hc); (try (exfalso; omega))) | (refine ⟨?_, ?_⟩; · omega) | omega | apply_assumption -exfalso -symm | (exfalso; omega)))
        refine Again.mk ⟨k + 1, by omega⟩ (Sub.lit (by simp [hnx, dSym, bD_set])) (by simp; omega)
        (repeat (first | refine DW_seq fun K hK => ?_ | (refine DW_r anBX419 Try.mixed (by kernel_rfl) ?_; simp [anBX419, hnt]; try simp (disch := omega) only [wrap64_in]) | refine DW_block ?_ | (refine DW_if ?_ ?_ ?_; (· (simp [hnt]; done)); (try (rotate_left; (· (intro hc; (try simp [hnt] at hc); done))))) | (refine DW_ret ?_; simp [Try.results19, hnt]) | ((first | refine DW_exit ?_ | refine DW_skip ?_); simp [hnt]) | (intro hc; (try simp [hnt] at hc); (try (exfalso; omega))) | (refine ⟨?_, ?_⟩; · omega) | omega | apply_assumption -exfalso -symm | (exfalso; omega)))
      · rw [decide_eq_false he] at hnx
        simp only [Bool.and_false, Bool.false_eq_true, if_false] at hnx
        have e3 := sym_ne he
        (repeat (first | refine DW_seq fun K hK => ?_ | (refine DW_r anBX419 Try.mixed (by kernel_rfl) ?_; simp [anBX419, hnt, dArc, dSym, dBl, hlt, hx', hu, hv, hul, hvl, hb, hb', e3]; try simp (disch := omega) only [wrap64_in]) | refine DW_block ?_ | (refine DW_if ?_ ?_ ?_; (· (simp [hnt, dArc, dSym, dBl, hlt, hx', hu, hv, hul, hvl, hb, hb', e3]; done)); (try (rotate_left; (· (intro hc; (try simp [hnt, dArc, dSym, dBl, hlt, hx', hu, hv, hul, hvl, hb, hb', e3] at hc); done))))) | (refine DW_ret ?_; simp [Try.results19, hnt, dArc, dSym, dBl, hlt, hx', hu, hv, hul, hvl, hb, hb', e3]) | ((first | refine DW_exit ?_ | refine DW_skip ?_); simp [hnt, dArc, dSym, dBl, hlt, hx', hu, hv, hul, hvl, hb, hb', e3]) | (intro hc; (try simp [hnt, dArc, dSym, dBl, hlt, hx', hu, hv, hul, hvl, hb, hb', e3] at hc); (try (exfalso; omega))) | (refine ⟨?_, ?_⟩; · omega) | omega | apply_assumption -exfalso -symm | (exfalso; omega)))
        refine Again.mk ⟨k + 1, by omega⟩ (Sub.lit (by simp [hnx, dSym])) (by simp; omega)
        (repeat (first | refine DW_seq fun K hK => ?_ | (refine DW_r anBX419 Try.mixed (by kernel_rfl) ?_; simp [anBX419, hnt]; try simp (disch := omega) only [wrap64_in]) | refine DW_block ?_ | (refine DW_if ?_ ?_ ?_; (· (simp [hnt]; done)); (try (rotate_left; (· (intro hc; (try simp [hnt] at hc); done))))) | (refine DW_ret ?_; simp [Try.results19, hnt]) | ((first | refine DW_exit ?_ | refine DW_skip ?_); simp [hnt]) | (intro hc; (try simp [hnt] at hc); (try (exfalso; omega))) | (refine ⟨?_, ?_⟩; · omega) | omega | apply_assumption -exfalso -symm | (exfalso; omega)))
  · have hkk : k = a.arcs.length := by omega
    subst hkk
    have hall := stepK_all a fr s
    (repeat (first | refine DW_seq fun K hK => ?_ | (refine DW_r anBX419 Try.mixed (by kernel_rfl) ?_; simp [anBX419, hnt, hall, bD]; try simp (disch := omega) only [wrap64_in]) | refine DW_block ?_ | (refine DW_if ?_ ?_ ?_; (· (simp [hnt, hall, bD]; done)); (try (rotate_left; (· (intro hc; (try simp [hnt, hall, bD] at hc); done))))) | (refine DW_ret ?_; simp [Try.results19, hnt, hall, bD]) | ((first | refine DW_exit ?_ | refine DW_skip ?_); simp [hnt, hall, bD]) | (intro hc; (try simp [hnt, hall, bD] at hc); (try (exfalso; omega))) | (refine ⟨?_, ?_⟩; · omega) | omega | apply_assumption -exfalso -symm | (exfalso; omega)))
end Go.Proofs.Ytnmbgbeajacpfaa
end

section
/- steps of automata: the document's, sets and their numbers -/

set_option linter.unusedSimpArgs false
set_option linter.unusedVariables false
namespace Go.Proofs.Ytnmbgbeajacpfaa
open Go Go.Dm
attribute [local irreducible] DW callP callS
set_option maxRecDepth 100000

def anBX610 : Ann := ⟨[], [⟨5, [9], [], []⟩]⟩
set_option maxHeartbeats 4000000 in
theorem step10_pure (a : Auto) (fr : List Bool) (s : Sym) (hok : autoOK a = true) (hf : fr.length = a.st.toNat) : DPure Try.prog 10 [.agg (dAuto a), dBls fr, .agg (dSym s)] (dBls (stepF a fr s)) := by
  refine DPure_introF [12] (fn := Try.f10) Try.func10 rfl Try.call10 (by simp [Try.ntmps10]) (by simp [mx]) ?_
  intro hwf B hnt
  simp only [Try.ntmps10] at hnt
  have hw3 := len_arcs (l := a.arcs) (by have := hwf.1; simp only [dAuto, wfD, wfL] at this; exact this.2.2.1)
  clear hwf
  obtain ⟨hs1, hs2⟩ := ok_st hok
  have hst0 : 0 ≤ a.st := by omega
  have hst1 : a.st ≤ 150000000000000 := by omega
  have hst2 : a.st ≤ 9223372036854775807 := by omega
  simp only [argS]
  (repeat (first | refine DW_seq fun K hK => ?_ | (refine DW_r anBX610 Try.mixed (by kernel_rfl) ?_; simp [anBX610, hnt, dAuto, dSym, hst0, hst1, hst2]; try simp (disch := omega) only [wrap64_in]) | refine DW_block ?_ | (refine DW_if ?_ ?_ ?_; (· (simp [hnt, dAuto, dSym, hst0, hst1, hst2]; done)); (try (rotate_left; (· (intro hc; (try simp [hnt, dAuto, dSym, hst0, hst1, hst2] at hc); done))))) | (refine DW_ret ?_; simp [Try.results10, hnt, dAuto, dSym, hst0, hst1, hst2]) | ((first | refine DW_exit ?_ | refine DW_skip ?_); simp [hnt, dAuto, dSym, hst0, hst1, hst2]) | (intro hc; (try simp [hnt, dAuto, dSym, hst0, hst1, hst2] at hc); (try (exfalso; omega))) | (refine ⟨?_, ?_⟩; · omega) | omega | apply_assumption -exfalso -symm | (exfalso; omega)))
  refine DW_loop (X := {k : Nat // k ≤ a.arcs.length}) (fun k => ⟨[(1, dBls fr), (3, .ref [.int .i64 a.st, dNums a.fin, dArcs a.arcs]), (5, .ref (dSym s)), (7, .osl 12 1), (8, .int .i64 k.1)], [⟨12, 1, .row 4 1 1 (bD (stepK a fr s k.1))⟩]⟩) (fun k => a.arcs.length - k.1) ⟨0, by simp⟩ (Sub.lit (by simp [dSym, stepK, bD_rep, mx_rep])) ?_
  rintro ⟨k, hk⟩
  simp only
  by_cases hlt : k < a.arcs.length
  · obtain ⟨x, hx, hx', hxm⟩ := at_lt' hlt
    obtain ⟨b1, b2, b3, b4⟩ := ok_arc hok hxm
    obtain ⟨u, hu⟩ : ∃ u : Nat, x.fr = (u : Int) := ⟨x.fr.toNat, by omega⟩
    obtain ⟨v, hv⟩ : ∃ v : Nat, x.to = (v : Int) := ⟨x.to.toNat, by omega⟩
    have hul : u < fr.length := by omega
    have hvl : v < (stepK a fr s k).length := by rw [stepK_len]; omega
    obtain ⟨b, hb, hb', _⟩ := at_lt' hul
    have hnx := stepK_next (a := a) (fr := fr) (s := s) hx
    unfold stepG at hnx
    rw [hu, hv, bAt_nat hb, Int.toNat_natCast] at hnx
    cases b
    · simp only [Bool.false_and, Bool.false_eq_true, if_false] at hnx
      (repeat (first | refine DW_seq fun K hK => ?_ | (refine DW_r anBX610 Try.mixed (by kernel_rfl) ?_; simp [anBX610, hnt, dArc, dSym, dBl, hlt, hx', hu, hv, hul, hvl, hb, hb']; try simp (disch := omega) only [wrap64_in]) | refine DW_block ?_ | (refine DW_if ?_ ?_ ?_; (· (simp [hnt, dArc, dSym, dBl, hlt, hx', hu, hv, hul, hvl, hb, hb']; done)); (try (rotate_left; (· (intro hc; (try simp [hnt, dArc, dSym, dBl, hlt, hx', hu, hv, hul, hvl, hb, hb'] at hc); done))))) | (refine DW_ret ?_; simp [Try.results10, hnt, dArc, dSym, dBl, hlt, hx', hu, hv, hul, hvl, hb, hb']) | ((first | refine DW_exit ?_ | refine DW_skip ?_); simp [hnt, dArc, dSym, dBl, hlt, hx', hu, hv, hul, hvl, hb, hb']) | (intro hc; (try simp [hnt, dArc, dSym, dBl, hlt, hx', hu, hv, hul, hvl, hb, hb'] at hc); (try (exfalso; omega))) | (refine ⟨?_, ?_⟩; · omega) | omega | apply_assumption -exfalso -symm | (exfalso; omega)))
      refine Again.mk ⟨k + 1, by omega⟩ (Sub.lit (by simp [hnx, dSym])) (by simp; omega)
      (repeat (first | refine DW_seq fun K hK => ?_ | (refine DW_r anBX610 Try.mixed (by kernel_rfl) ?_; simp [anBX610, hnt]; try simp (disch := omega) only [wrap64_in]) | refine DW_block ?_ | (refine DW_if ?_ ?_ ?_; (· (simp [hnt]; done)); (try (rotate_left; (· (intro hc; (try simp [hnt] at hc); done))))) | (refine DW_ret ?_; simp [Try.results10, hnt]) | ((first | refine DW_exit ?_ | refine DW_skip ?_); simp [hnt]) | (intro hc; (try simp [hnt] at hc); (try (exfalso; omega))) | (refine ⟨?_, ?_⟩; · omega) | omega | apply_assumption -exfalso -symm | (exfalso; omega)))
    · by_cases he : x.sy = s
      · rw [decide_eq_true he] at hnx
        simp only [Bool.and_self, if_true] at hnx
        have e1 : x.sy.label = s.label := by rw [he]
        have e2 : x.sy.n = s.n := by rw [he]
        (repeat (first | refine DW_seq fun K hK => ?_ | (refine DW_r anBX610 Try.mixed (by kernel_rfl) ?_; simp [anBX610, hnt, dArc, dSym, dBl, hlt, hx', hu, hv, hul, hvl, hb, hb', e1, e2, bD_len]; try simp (disch := omega) only [wrap64_in]) | refine DW_block ?_ | (refine DW_if ?_ ?_ ?_; (· (simp [hnt, dArc, dSym, dBl, hlt, hx', hu, hv, hul, hvl, hb, hb', e1, e2, bD_len]; done)); (try (rotate_left; (· (intro hc; (try simp [hnt, dArc, dSym, dBl, hlt, hx', hu, hv, hul, hvl, hb, hb', e1, e2, bD_len] at hc); done))))) | (refine DW_ret ?_; simp [Try.results10, hnt, dArc, dSym, dBl, hlt, hx', hu, hv, hul, hvl, hb, hb', e1, e2, bD_len]) | ((first | refine DW_exit ?_ | refine DW_skip ?_); simp [hnt, dArc, dSym, dBl, hlt, hx', hu, hv, hul, hvl, hb, hb', e1, e2, bD_len]) | (intro hc; (try simp [hnt, dArc, dSym, dBl, hlt, hx', hu, hv, hul, hvl, hb, hb', e1, e2, bD_len] at hc); (try (exfalso; omega))) | (refine ⟨?_, ?_⟩; · omega) | omega | apply_assumption -exfalso -symm | (exfalso; omega)))
        refine Again.mk ⟨k + 1, by omega⟩ (Sub.lit (by simp [hnx, dSym, bD_set])) (by simp; omega)
        (repeat (first | refine DW_seq fun K hK => ?_ | (refine DW_r anBX610 Try.mixed (by kernel_rfl) ?_; simp [anBX610, hnt]; try simp (disch := omega) only [wrap64_in]) | refine DW_block ?_ | (refine DW_if ?_ ?_ ?_; (· (simp [hnt]; done)); (try (rotate_left; (· (intro hc; (try simp [hnt] at hc); done))))) | (refine DW_ret ?_; simp [Try.results10, hnt]) | ((first | refine DW_exit ?_ | refine DW_skip ?_); simp [hnt]) | (intro hc; (try simp [hnt] at hc); (try (exfalso; omega))) | (refine ⟨?_, ?_⟩; · omega) | omega | apply_assumption -exfalso -symm | (exfalso; omega)))
      · rw [decide_eq_false he] at hnx
        simp only [Bool.and_false, Bool.false_eq_true, if_false] at hnx
        have e3 := sym_ne he
        (repeat (first | refine DW_seq fun K hK => ?_ | (refine DW_r anBX610 Try.mixed (by kernel_rfl) ?_; simp [anBX610, hnt, dArc, dSym, dBl, hlt, hx', hu, hv, hul, hvl, hb, hb', e3]; try simp (disch := omega) only [wrap64_in]) | refine DW_block ?_ | (refine DW_if ?_ ?_ ?_; (· (simp [hnt, dArc, dSym, dBl, hlt, hx', hu, hv, hul, hvl, hb, hb', e3]; done)); (try (rotate_left; (· (intro hc; (try simp [hnt, dArc, dSym, dBl, hlt, hx', hu, hv, hul, hvl, hb, hb', e3] at hc); done))))) | (refine DW_ret ?_; simp [Try.results10, hnt, dArc, dSym, dBl, hlt, hx', hu, hv, hul, hvl, hb, hb', e3]) | ((first | refine DW_exit ?_ | refine DW_skip ?_); simp [hnt, dArc, dSym, dBl, hlt, hx', hu, hv, hul, hvl, hb, hb', e3]) | (intro hc; (try simp [hnt, dArc, dSym, dBl, hlt, hx', hu, hv, hul, hvl, hb, hb', e3] at hc); (try (exfalso; omega))) | (refine ⟨?_, ?_⟩; · omega) | omega | apply_assumption -exfalso -symm | (exfalso; omega)))
        refine Again.mk ⟨k + 1, by omega⟩ (Sub.lit (by simp [hnx, dSym])) (by simp; omega)
        (repeat (first | refine DW_seq fun K hK => ?_ | (refine DW_r anBX610 Try.mixed (by kernel_rfl) ?_; simp [anBX610, hnt]; try simp (disch := omega) only [wrap64_in]) | refine DW_block ?_ | (refine DW_if ?_ ?_ ?_; (· (simp [hnt]; done)); (try (rotate_left; (· (intro hc; (try simp [hnt] at hc); done))))) | (refine DW_ret ?_; simp [Try.results10, hnt]) | ((first | refine DW_exit ?_ | refine DW_skip ?_); simp [hnt]) | (intro hc; (try simp [hnt] at hc); (try (exfalso; omega))) | (refine ⟨?_, ?_⟩; · omega) | omega | apply_assumption -exfalso -symm | (exfalso; omega)))
  · have hkk : k = a.arcs.length := by omega
    subst hkk
    have hall := stepK_all a fr s
    (repeat (first | refine DW_seq fun K hK => ?_ | (refine DW_r anBX610 Try.mixed (by kernel_rfl) ?_; simp [anBX610, hnt, hall, bD]; try simp (disch := omega) only [wrap64_in]) | refine DW_block ?_ | (refine DW_if ?_ ?_ ?_; (· (simp [hnt, hall, bD]; done)); (try (rotate_left; (· (intro hc; (try simp [hnt, hall, bD] at hc); done))))) | (refine DW_ret ?_; simp [Try.results10, hnt, hall, bD]) | ((first | refine DW_exit ?_ | refine DW_skip ?_); simp [hnt, hall, bD]) | (intro hc; (try simp [hnt, hall, bD] at hc); (try (exfalso; omega))) | (refine ⟨?_, ?_⟩; · omega) | omega | apply_assumption -exfalso -symm | (exfalso; omega)))

/-- numbers of a set -/
def numD (l : List Int) : List (List DVal) := l.map dNum
theorem numD_len (l : List Int) : (numD l).length = l.length := by unfold numD; rw [List.length_map]
@[simp] theorem mx_numD (l : List Int) : mxR (numD l) = 0 := mx_dNums l
theorem numD_snoc (l : List Int) (n : Int) : numD (l ++ [n]) = numD l ++ [[.int .i64 n]] := by unfold numD; rw [List.map_append]; rfl
theorem numD_zero (S : List Bool) : numD (numsK S 0) = [] := rfl
def anBX618 : Ann := ⟨[], []⟩
set_option maxHeartbeats 4000000 in
theorem numbers_pure (S : List Bool) (hS : S.length ≤ 1000) : DPure Try.prog 18 [dBls S] (dNums (numsB S)) := by
  refine DPure_introF [50] (fn := Try.f18) Try.func18 rfl Try.call18 (by simp [Try.ntmps18]) (by simp [mx]) ?_
  intro hwf B hnt
  simp only [Try.ntmps18] at hnt
  clear hwf
  simp only [argS]
  (repeat (first | refine DW_seq fun K hK => ?_ | (refine DW_r anBX618 Try.mixed (by kernel_rfl) ?_; simp [anBX618, hnt]; try simp (disch := omega) only [wrap64_in]) | refine DW_block ?_ | (refine DW_if ?_ ?_ ?_; (· (simp [hnt]; done)); (try (rotate_left; (· (intro hc; (try simp [hnt] at hc); done))))) | (refine DW_ret ?_; simp [Try.results18, hnt]) | ((first | refine DW_exit ?_ | refine DW_skip ?_); simp [hnt]) | (intro hc; (try simp [hnt] at hc); (try (exfalso; omega))) | (refine ⟨?_, ?_⟩; · omega) | omega | apply_assumption -exfalso -symm | (exfalso; omega)))
  refine DW_adoptS 3 50 3 1 8 (by simp [hnt, Try.results18, anBX618]) (fun n => ?_)
  refine DW_loop (X := {k : Nat // k ≤ S.length}) (fun k => ⟨[(3, .osl 50 1), (6, dBls S), (7, .int .i64 S.length), (8, .int .i64 k.1)], [⟨50, 1, .row 3 1 8 (numD (numsK S k.1))⟩]⟩) (fun k => S.length - k.1) ⟨0, by simp⟩ (Sub.lit (by simp [numD_zero])) ?_
  rintro ⟨k, hk⟩
  simp only
  by_cases hlt : k < S.length
  · obtain ⟨b, hb, hb', _⟩ := at_lt' hlt
    have hnx := numsK_next hb
    have hl := numsK_len S k
    have hz : (numD (numsK S k)).length + 1 ≤ 2000 := by rw [numD_len]; omega
    cases b
    · simp only [Bool.false_eq_true, if_false, List.append_nil] at hnx
      (repeat (first | refine DW_seq fun K hK => ?_ | (refine DW_r anBX618 Try.mixed (by kernel_rfl) ?_; simp [anBX618, hnt, dBl, hlt, hb, hb']; try simp (disch := omega) only [wrap64_in]) | refine DW_block ?_ | (refine DW_if ?_ ?_ ?_; (· (simp [hnt, dBl, hlt, hb, hb']; done)); (try (rotate_left; (· (intro hc; (try simp [hnt, dBl, hlt, hb, hb'] at hc); done))))) | (refine DW_ret ?_; simp [Try.results18, hnt, dBl, hlt, hb, hb']) | ((first | refine DW_exit ?_ | refine DW_skip ?_); simp [hnt, dBl, hlt, hb, hb']) | (intro hc; (try simp [hnt, dBl, hlt, hb, hb'] at hc); (try (exfalso; omega))) | (refine ⟨?_, ?_⟩; · omega) | omega | apply_assumption -exfalso -symm | (exfalso; omega)))
      refine Again.mk ⟨k + 1, by omega⟩ (Sub.lit (by simp [hnx])) (by simp; omega)
      (repeat (first | refine DW_seq fun K hK => ?_ | (refine DW_r anBX618 Try.mixed (by kernel_rfl) ?_; simp [anBX618, hnt]; try simp (disch := omega) only [wrap64_in]) | refine DW_block ?_ | (refine DW_if ?_ ?_ ?_; (· (simp [hnt]; done)); (try (rotate_left; (· (intro hc; (try simp [hnt] at hc); done))))) | (refine DW_ret ?_; simp [Try.results18, hnt]) | ((first | refine DW_exit ?_ | refine DW_skip ?_); simp [hnt]) | (intro hc; (try simp [hnt] at hc); (try (exfalso; omega))) | (refine ⟨?_, ?_⟩; · omega) | omega | apply_assumption -exfalso -symm | (exfalso; omega)))
    · simp only [if_true] at hnx
      (repeat (first | refine DW_seq fun K hK => ?_ | (refine DW_r anBX618 Try.mixed (by kernel_rfl) ?_; simp [anBX618, hnt, dBl, hlt, hb, hb']; try simp (disch := omega) only [wrap64_in]) | refine DW_block ?_ | (refine DW_if ?_ ?_ ?_; (· (simp [hnt, dBl, hlt, hb, hb']; done)); (try (rotate_left; (· (intro hc; (try simp [hnt, dBl, hlt, hb, hb'] at hc); done))))) | (refine DW_ret ?_; simp [Try.results18, hnt, dBl, hlt, hb, hb']) | ((first | refine DW_exit ?_ | refine DW_skip ?_); simp [hnt, dBl, hlt, hb, hb']) | (intro hc; (try simp [hnt, dBl, hlt, hb, hb'] at hc); (try (exfalso; omega))) | (refine ⟨?_, ?_⟩; · omega) | omega | apply_assumption -exfalso -symm | (exfalso; omega)))
      refine Again.mk ⟨k + 1, by omega⟩ (Sub.lit (by simp [hnx, numD_snoc])) (by simp; omega)
      (repeat (first | refine DW_seq fun K hK => ?_ | (refine DW_r anBX618 Try.mixed (by kernel_rfl) ?_; simp [anBX618, hnt]; try simp (disch := omega) only [wrap64_in]) | refine DW_block ?_ | (refine DW_if ?_ ?_ ?_; (· (simp [hnt]; done)); (try (rotate_left; (· (intro hc; (try simp [hnt] at hc); done))))) | (refine DW_ret ?_; simp [Try.results18, hnt]) | ((first | refine DW_exit ?_ | refine DW_skip ?_); simp [hnt]) | (intro hc; (try simp [hnt] at hc); (try (exfalso; omega))) | (refine ⟨?_, ?_⟩; · omega) | omega | apply_assumption -exfalso -symm | (exfalso; omega)))
  · have hkk : k = S.length := by omega
    subst hkk
    have hall := numsK_all S
    (repeat (first | refine DW_seq fun K hK => ?_ | (refine DW_r anBX618 Try.mixed (by kernel_rfl) ?_; simp [anBX618, hnt, hall, numD]; try simp (disch := omega) only [wrap64_in]) | refine DW_block ?_ | (refine DW_if ?_ ?_ ?_; (· (simp [hnt, hall, numD]; done)); (try (rotate_left; (· (intro hc; (try simp [hnt, hall, numD] at hc); done))))) | (refine DW_ret ?_; simp [Try.results18, hnt, hall, numD]) | ((first | refine DW_exit ?_ | refine DW_skip ?_); simp [hnt, hall, numD]) | (intro hc; (try simp [hnt, hall, numD] at hc); (try (exfalso; omega))) | (refine ⟨?_, ?_⟩; · omega) | omega | apply_assumption -exfalso -symm | (exfalso; omega)))

def anBX611 : Ann := ⟨[], []⟩
theorem sameInts_refl (l : List Int) : DPure Try.prog 11 [dNums l, dNums l] (.bool true) := by
  refine DPure_introF [] (fn := Try.f11) Try.func11 rfl Try.call11 (by simp [Try.ntmps11]) (by simp [mx]) ?_
  intro hwf B hnt
  simp only [Try.ntmps11] at hnt
  have hl := len_nums hwf.1
  clear hwf
  simp only [argS]
  (repeat (first | refine DW_seq fun K hK => ?_ | (refine DW_r anBX611 Try.mixed (by kernel_rfl) ?_; simp [anBX611, hnt]; try simp (disch := omega) only [wrap64_in]) | refine DW_block ?_ | (refine DW_if ?_ ?_ ?_; (· (simp [hnt]; done)); (try (rotate_left; (· (intro hc; (try simp [hnt] at hc); done))))) | (refine DW_ret ?_; simp [Try.results11, hnt]) | ((first | refine DW_exit ?_ | refine DW_skip ?_); simp [hnt]) | (intro hc; (try simp [hnt] at hc); (try (exfalso; omega))) | (refine ⟨?_, ?_⟩; · omega) | omega | apply_assumption -exfalso -symm | (exfalso; omega)))
  refine DW_loop (X := {k : Nat // k ≤ l.length}) (fun k => ⟨[(0, dNums l), (1, dNums l), (5, .int .i64 k.1)], []⟩) (fun k => l.length - k.1) ⟨0, by simp⟩ (Sub.lit (by simp)) ?_
  rintro ⟨k, hk⟩
  simp only
  by_cases hlt : k < l.length
  · obtain ⟨q, hq, hq', _⟩ := at_lt' hlt
    (repeat (first | refine DW_seq fun K hK => ?_ | (refine DW_r anBX611 Try.mixed (by kernel_rfl) ?_; simp [anBX611, hnt, dNum, hlt, hq, hq']; try simp (disch := omega) only [wrap64_in]) | refine DW_block ?_ | (refine DW_if ?_ ?_ ?_; (· (simp [hnt, dNum, hlt, hq, hq']; done)); (try (rotate_left; (· (intro hc; (try simp [hnt, dNum, hlt, hq, hq'] at hc); done))))) | (refine DW_ret ?_; simp [Try.results11, hnt, dNum, hlt, hq, hq']) | ((first | refine DW_exit ?_ | refine DW_skip ?_); simp [hnt, dNum, hlt, hq, hq']) | (intro hc; (try simp [hnt, dNum, hlt, hq, hq'] at hc); (try (exfalso; omega))) | (refine ⟨?_, ?_⟩; · omega) | omega | apply_assumption -exfalso -symm | (exfalso; omega)))
    refine Again.mk ⟨k + 1, by omega⟩ (Sub.lit (by simp)) (by simp; omega)
    (repeat (first | refine DW_seq fun K hK => ?_ | (refine DW_r anBX611 Try.mixed (by kernel_rfl) ?_; simp [anBX611, hnt]; try simp (disch := omega) only [wrap64_in]) | refine DW_block ?_ | (refine DW_if ?_ ?_ ?_; (· (simp [hnt]; done)); (try (rotate_left; (· (intro hc; (try simp [hnt] at hc); done))))) | (refine DW_ret ?_; simp [Try.results11, hnt]) | ((first | refine DW_exit ?_ | refine DW_skip ?_); simp [hnt]) | (intro hc; (try simp [hnt] at hc); (try (exfalso; omega))) | (refine ⟨?_, ?_⟩; · omega) | omega | apply_assumption -exfalso -symm | (exfalso; omega)))
  · have hkk : k = l.length := by omega
    subst hkk
    (repeat (first | refine DW_seq fun K hK => ?_ | (refine DW_r anBX611 Try.mixed (by kernel_rfl) ?_; simp [anBX611, hnt]; try simp (disch := omega) only [wrap64_in]) | refine DW_block ?_ | (refine DW_if ?_ ?_ ?_; (· (simp [hnt]; done)); (try (rotate_left; (· (intro hc; (try simp [hnt] at hc); done))))) | (refine DW_ret ?_; simp [Try.results11, hnt]) | ((first | refine DW_exit ?_ | refine DW_skip ?_); simp [hnt]) | (intro hc; (try simp [hnt] at hc); (try (exfalso; omega))) | (refine ⟨?_, ?_⟩; · omega) | omega | apply_assumption -exfalso -symm | (exfalso; omega)))
end Go.Proofs.Ytnmbgbeajacpfaa
end

section
/- box.Step, and 'BoxSteps' -/


set_option linter.unusedSimpArgs false
set_option linter.unusedVariables false
namespace Go.Proofs.Ytnmbgbeajacpfaa
open Go Go.Dm
attribute [local irreducible] DW callP callS
set_option maxRecDepth 100000

/-- a set of states -/
def setK (a : Auto) (l : List Int) (k : Nat) : List Bool := (l.take k).foldl (fun S q => S.set q.toNat true) (List.replicate a.st.toNat false)
def setF (a : Auto) (l : List Int) : List Bool := setK a l l.length
theorem foldS_len : ∀ (l : List Int) (S : List Bool), (l.foldl (fun S q => S.set q.toNat true) S).length = S.length
  | [], _ => rfl
  | q :: l, S => by rw [List.foldl_cons, foldS_len l, List.length_set]
theorem setK_len (a : Auto) (l : List Int) (k : Nat) : (setK a l k).length = a.st.toNat := by unfold setK; rw [foldS_len, List.length_replicate]
theorem setK_next {a : Auto} {l : List Int} {k : Nat} {q : Int} (h : l[k]? = some q) : setK a l (k + 1) = (setK a l k).set q.toNat true := by
  unfold setK
  rw [List.take_add_one, h, List.foldl_append]
  rfl
theorem setK_zero (a : Auto) (l : List Int) : bD (setK a l 0) = List.replicate a.st.toNat [.bool false] := bD_rep _ _
theorem all_bad {s : Int} {l : List Int} {q : Int} (hq : q ∈ l) (h : stB s q = false) : l.all (stB s) = false := by
  rw [Bool.eq_false_iff]; intro hh; rw [List.all_eq_true] at hh; have := hh q hq; rw [h] at this; exact absurd this (by simp)
theorem all_good {s : Int} {l : List Int} (h : ∀ i q, i < l.length → l[i]? = some q → stB s q = true) : l.all (stB s) = true := by
  rw [List.all_eq_true]; intro q hq; obtain ⟨k, hk, rfl⟩ := List.getElem_of_mem hq; exact h k _ hk (List.getElem?_eq_getElem hk)
theorem pre_next {l : List Int} {s : Int} {k : Nat} {q : Int} (h : ∀ i p, i < k → l[i]? = some p → stB s p = true) (hq : l[k]? = some q) (hs : stB s q = true) : ∀ i p, i < k + 1 → l[i]? = some p → stB s p = true := by
  intro i p hi hp
  by_cases hik : i = k
  · subst hik; rw [hq] at hp; simp only [Option.some.injEq] at hp; subst hp; exact hs
  · exact h i p (by omega) hp

def anBX79 : Ann := ⟨[], []⟩
theorem step9_bad (a : Auto) (l : List Int) (s : Sym) (hok : autoOK a = false) : DPure Try.prog 9 [.agg (dAuto a), dNums l, .agg (dSym s)] (.tup [.nilsl, .int .i64 200]) := by
  refine DPure_introF [] (fn := Try.f9) Try.func9 rfl Try.call9 (by simp [Try.ntmps9]) (by simp [mx]) ?_
  intro hwf B hnt
  simp only [Try.ntmps9] at hnt
  clear hwf
  simp only [argS]
  have c1 := check7_pure a
  rw [hok] at c1
  simp only [dAuto] at c1
  (repeat (first | refine DW_seq fun K hK => ?_ | (refine DW_r anBX79 Try.mixed (by kernel_rfl) ?_; simp [anBX79, hnt, dAuto, dSym]; try simp (disch := omega) only [wrap64_in]) | refine DW_block ?_ | (refine DW_if ?_ ?_ ?_; (· (simp [hnt, dAuto, dSym]; done)); (try (rotate_left; (· (intro hc; (try simp [hnt, dAuto, dSym] at hc); done))))) | (refine DW_ret ?_; simp [Try.results9, hnt, dAuto, dSym]) | ((first | refine DW_exit ?_ | refine DW_skip ?_); simp [hnt, dAuto, dSym]) | (intro hc; (try simp [hnt, dAuto, dSym] at hc); (try (exfalso; omega))) | ((first | refine callP_mk (c1) ?_ | (refine callP_wk (c1) ?_ ?_; (· (simp; done)))); try simp [hnt, dAuto, dSym]) | (refine ⟨?_, ?_⟩; · omega) | omega | apply_assumption -exfalso -symm | (exfalso; omega)))

set_option maxHeartbeats 4000000 in
theorem step9_ok (a : Auto) (l : List Int) (s : Sym) (hok : autoOK a = true) (L : List Int) (e : Int) (hg : l.all (stB a.st) = true → L = numsB (stepF a (setF a l) s) ∧ e = 0) (hb : l.all (stB a.st) = false → L = [] ∧ e = 2) : DPure Try.prog 9 [.agg (dAuto a), dNums l, .agg (dSym s)] (.tup [dNums L, .int .i64 e]) := by
  refine DPure_introF [] (fn := Try.f9) Try.func9 rfl Try.call9 (by simp [Try.ntmps9]) (by simp [mx]) ?_
  intro hwf B hnt
  simp only [Try.ntmps9] at hnt
  have hwl := len_nums hwf.2.1
  clear hwf
  obtain ⟨hs1, hs2⟩ := ok_st hok
  have hst0 : 0 ≤ a.st := by omega
  have hst1 : a.st ≤ 150000000000000 := by omega
  have hst2 : a.st ≤ 9223372036854775807 := by omega
  simp only [argS]
  have c1 := check7_pure a
  have c2 := step19_pure a (setF a l) s hok (setK_len a l _)
  have c3 := numbers_pure (stepF a (setF a l) s) (by rw [stepF_len]; omega)
  rw [hok] at c1
  simp only [dAuto, dSym] at c1 c2 c3
  (repeat (first | refine DW_seq fun K hK => ?_ | (refine DW_r anBX79 Try.mixed (by kernel_rfl) ?_; simp [anBX79, hnt, dAuto, dSym, hst0, hst1, hst2]; try simp (disch := omega) only [wrap64_in]) | refine DW_block ?_ | (refine DW_if ?_ ?_ ?_; (· (simp [hnt, dAuto, dSym, hst0, hst1, hst2]; done)); (try (rotate_left; (· (intro hc; (try simp [hnt, dAuto, dSym, hst0, hst1, hst2] at hc); done))))) | (refine DW_ret ?_; simp [Try.results9, hnt, dAuto, dSym, hst0, hst1, hst2]) | ((first | refine DW_exit ?_ | refine DW_skip ?_); simp [hnt, dAuto, dSym, hst0, hst1, hst2]) | (intro hc; (try simp [hnt, dAuto, dSym, hst0, hst1, hst2] at hc); (try (exfalso; omega))) | ((first | refine callP_mk (c1) ?_ | refine callP_mk (c2) ?_ | refine callP_mk (c3) ?_ | (refine callP_wk (c1) ?_ ?_; (· (simp; done))) | (refine callP_wk (c2) ?_ ?_; (· (simp; done))) | (refine callP_wk (c3) ?_ ?_; (· (simp; done)))); try simp [hnt, dAuto, dSym, hst0, hst1, hst2]) | (refine ⟨?_, ?_⟩; · omega) | omega | apply_assumption -exfalso -symm | (exfalso; omega)))
  refine DW_loop (X := {k : Nat // k ≤ l.length ∧ ∀ i q, i < k → l[i]? = some q → stB a.st q = true}) (fun k => ⟨[(3, .ref [.int .i64 a.st, dNums a.fin, dArcs a.arcs]), (5, .ref (dSym s)), (8, .osl 16 1), (17, dNums l), (18, .int .i64 l.length), (19, .int .i64 k.1)], [⟨16, 1, .row 4 1 1 (bD (setK a l k.1))⟩]⟩) (fun k => l.length - k.1) ⟨0, by simp⟩ (Sub.lit (by simp [dSym, setK_zero, mx_rep])) ?_
  rintro ⟨k, hk, hpre⟩
  simp only
  by_cases hlt : k < l.length
  · obtain ⟨q, hq, hq', hqm⟩ := at_lt' hlt
    by_cases c0 : q < 0
    · obtain ⟨rfl, rfl⟩ := hb (all_bad hqm (stB_lo c0))
      (repeat (first | refine DW_seq fun K hK => ?_ | (refine DW_r anBX79 Try.mixed (by kernel_rfl) ?_; simp [anBX79, hnt, dNum, hlt, hq', c0]; try simp (disch := omega) only [wrap64_in]) | refine DW_block ?_ | (refine DW_if ?_ ?_ ?_; (· (simp [hnt, dNum, hlt, hq', c0]; done)); (try (rotate_left; (· (intro hc; (try simp [hnt, dNum, hlt, hq', c0] at hc); done))))) | (refine DW_ret ?_; simp [Try.results9, hnt, dNum, hlt, hq', c0]) | ((first | refine DW_exit ?_ | refine DW_skip ?_); simp [hnt, dNum, hlt, hq', c0]) | (intro hc; (try simp [hnt, dNum, hlt, hq', c0] at hc); (try (exfalso; omega))) | ((first | refine callP_mk (c1) ?_ | refine callP_mk (c2) ?_ | refine callP_mk (c3) ?_ | (refine callP_wk (c1) ?_ ?_; (· (simp; done))) | (refine callP_wk (c2) ?_ ?_; (· (simp; done))) | (refine callP_wk (c3) ?_ ?_; (· (simp; done)))); try simp [hnt, dNum, hlt, hq', c0]) | (refine ⟨?_, ?_⟩; · omega) | omega | apply_assumption -exfalso -symm | (exfalso; omega)))
    by_cases c1 : a.st ≤ q
    · obtain ⟨rfl, rfl⟩ := hb (all_bad hqm (stB_hi c1))
      (repeat (first | refine DW_seq fun K hK => ?_ | (refine DW_r anBX79 Try.mixed (by kernel_rfl) ?_; simp [anBX79, hnt, dNum, hlt, hq', c0, c1]; try simp (disch := omega) only [wrap64_in]) | refine DW_block ?_ | (refine DW_if ?_ ?_ ?_; (· (simp [hnt, dNum, hlt, hq', c0, c1]; done)); (try (rotate_left; (· (intro hc; (try simp [hnt, dNum, hlt, hq', c0, c1] at hc); done))))) | (refine DW_ret ?_; simp [Try.results9, hnt, dNum, hlt, hq', c0, c1]) | ((first | refine DW_exit ?_ | refine DW_skip ?_); simp [hnt, dNum, hlt, hq', c0, c1]) | (intro hc; (try simp [hnt, dNum, hlt, hq', c0, c1] at hc); (try (exfalso; omega))) | ((first | refine callP_mk (c1) ?_ | refine callP_mk (c2) ?_ | refine callP_mk (c3) ?_ | (refine callP_wk (c1) ?_ ?_; (· (simp; done))) | (refine callP_wk (c2) ?_ ?_; (· (simp; done))) | (refine callP_wk (c3) ?_ ?_; (· (simp; done)))); try simp [hnt, dNum, hlt, hq', c0, c1]) | (refine ⟨?_, ?_⟩; · omega) | omega | apply_assumption -exfalso -symm | (exfalso; omega)))
    obtain ⟨v, rfl⟩ : ∃ v : Nat, q = (v : Int) := ⟨q.toNat, by omega⟩
    have hvl : v < (setK a l k).length := by rw [setK_len]; omega
    have hnx := setK_next (a := a) hq
    rw [Int.toNat_natCast] at hnx
    have hst3 : ¬ a.st ≤ (v : Int) := c1
    (repeat (first | refine DW_seq fun K hK => ?_ | (refine DW_r anBX79 Try.mixed (by kernel_rfl) ?_; simp [anBX79, hnt, dNum, hlt, hq', c1, hvl, bD_len]; try simp (disch := omega) only [wrap64_in]) | refine DW_block ?_ | (refine DW_if ?_ ?_ ?_; (· (simp [hnt, dNum, hlt, hq', c1, hvl, bD_len]; done)); (try (rotate_left; (· (intro hc; (try simp [hnt, dNum, hlt, hq', c1, hvl, bD_len] at hc); done))))) | (refine DW_ret ?_; simp [Try.results9, hnt, dNum, hlt, hq', c1, hvl, bD_len]) | ((first | refine DW_exit ?_ | refine DW_skip ?_); simp [hnt, dNum, hlt, hq', c1, hvl, bD_len]) | (intro hc; (try simp [hnt, dNum, hlt, hq', c1, hvl, bD_len] at hc); (try (exfalso; omega))) | ((first | refine callP_mk (c1) ?_ | refine callP_mk (c2) ?_ | refine callP_mk (c3) ?_ | (refine callP_wk (c1) ?_ ?_; (· (simp; done))) | (refine callP_wk (c2) ?_ ?_; (· (simp; done))) | (refine callP_wk (c3) ?_ ?_; (· (simp; done)))); try simp [hnt, dNum, hlt, hq', c1, hvl, bD_len]) | (refine ⟨?_, ?_⟩; · omega) | omega | apply_assumption -exfalso -symm | (exfalso; omega)))
    refine Again.mk ⟨k + 1, by omega, pre_next hpre hq (stB_in c0 c1)⟩ (Sub.lit (by simp [hnx, dSym, bD_set])) (by simp; omega)
    (repeat (first | refine DW_seq fun K hK => ?_ | (refine DW_r anBX79 Try.mixed (by kernel_rfl) ?_; simp [anBX79, hnt]; try simp (disch := omega) only [wrap64_in]) | refine DW_block ?_ | (refine DW_if ?_ ?_ ?_; (· (simp [hnt]; done)); (try (rotate_left; (· (intro hc; (try simp [hnt] at hc); done))))) | (refine DW_ret ?_; simp [Try.results9, hnt]) | ((first | refine DW_exit ?_ | refine DW_skip ?_); simp [hnt]) | (intro hc; (try simp [hnt] at hc); (try (exfalso; omega))) | ((first | refine callP_mk (c1) ?_ | refine callP_mk (c2) ?_ | refine callP_mk (c3) ?_ | (refine callP_wk (c1) ?_ ?_; (· (simp; done))) | (refine callP_wk (c2) ?_ ?_; (· (simp; done))) | (refine callP_wk (c3) ?_ ?_; (· (simp; done)))); try simp [hnt]) | (refine ⟨?_, ?_⟩; · omega) | omega | apply_assumption -exfalso -symm | (exfalso; omega)))
  · have hkk : k = l.length := by omega
    subst hkk
    obtain ⟨rfl, rfl⟩ := hg (all_good hpre)
    refine DW_sub (Sub.freezeL [16] _) ?_
    simp [bD]
    (repeat (first | refine DW_seq fun K hK => ?_ | (refine DW_r anBX79 Try.mixed (by kernel_rfl) ?_; simp [anBX79, hnt, dSym, setF, bD]; try simp (disch := omega) only [wrap64_in]) | refine DW_block ?_ | (refine DW_if ?_ ?_ ?_; (· (simp [hnt, dSym, setF, bD]; done)); (try (rotate_left; (· (intro hc; (try simp [hnt, dSym, setF, bD] at hc); done))))) | (refine DW_ret ?_; simp [Try.results9, hnt, dSym, setF, bD]) | ((first | refine DW_exit ?_ | refine DW_skip ?_); simp [hnt, dSym, setF, bD]) | (intro hc; (try simp [hnt, dSym, setF, bD] at hc); (try (exfalso; omega))) | ((first | refine callP_mk (c1) ?_ | refine callP_mk (c2) ?_ | refine callP_mk (c3) ?_ | (refine callP_wk (c1) ?_ ?_; (· (simp; done))) | (refine callP_wk (c2) ?_ ?_; (· (simp; done))) | (refine callP_wk (c3) ?_ ?_; (· (simp; done)))); try simp [hnt, dSym, setF, bD]) | (refine ⟨?_, ?_⟩; · omega) | omega | apply_assumption -exfalso -symm | (exfalso; omega)))

def anBX74 : Ann := ⟨[], []⟩
set_option maxHeartbeats 4000000 in
theorem boxSteps_pure (a : Auto) (l : List Int) (s : Sym) : DPure Try.prog 4 [.agg (dAuto a), dNums l, .agg (dSym s)] (.bool true) := by
  refine DPure_introF [] (fn := Try.f4) Try.func4 rfl Try.call4 (by simp [Try.ntmps4]) (by simp [mx]) ?_
  intro hwf B hnt
  simp only [Try.ntmps4] at hnt
  have hwl := len_nums hwf.2.1
  clear hwf
  simp only [argS]
  have c2 := check8_pure a
  cases hok : autoOK a
  · have c1 := step9_bad a l s hok
    rw [hok] at c2
    simp only [dAuto, dSym] at c1 c2
    (repeat (first | refine DW_seq fun K hK => ?_ | (refine DW_r anBX74 Try.mixed (by kernel_rfl) ?_; simp [anBX74, hnt, dAuto, dSym]; try simp (disch := omega) only [wrap64_in]) | refine DW_block ?_ | (refine DW_if ?_ ?_ ?_; (· (simp [hnt, dAuto, dSym]; done)); (try (rotate_left; (· (intro hc; (try simp [hnt, dAuto, dSym] at hc); done))))) | (refine DW_ret ?_; simp [Try.results4, hnt, dAuto, dSym]) | ((first | refine DW_exit ?_ | refine DW_skip ?_); simp [hnt, dAuto, dSym]) | (intro hc; (try simp [hnt, dAuto, dSym] at hc); (try (exfalso; omega))) | ((first | refine callP_mk (head_pure) ?_ | refine callP_mk (c1) ?_ | refine callP_mk (c2) ?_ | (refine callP_wk (head_pure) ?_ ?_; (· (simp; done))) | (refine callP_wk (c1) ?_ ?_; (· (simp; done))) | (refine callP_wk (c2) ?_ ?_; (· (simp; done)))); try simp [hnt, dAuto, dSym]) | (refine ⟨?_, ?_⟩; · omega) | omega | apply_assumption -exfalso -symm | (exfalso; omega)))
  obtain ⟨hs1, hs2⟩ := ok_st hok
  have hst0 : 0 ≤ a.st := by omega
  have hst1 : a.st ≤ 150000000000000 := by omega
  have hst2 : a.st ≤ 9223372036854775807 := by omega
  obtain ⟨L, e0, hg, hb⟩ : ∃ (L : List Int) (e0 : Int), (l.all (stB a.st) = true → L = numsB (stepF a (setF a l) s) ∧ e0 = 0) ∧ (l.all (stB a.st) = false → L = [] ∧ e0 = 2) := by
    cases h : l.all (stB a.st)
    · exact ⟨[], 2, by simp, by simp⟩
    · exact ⟨_, 0, fun _ => ⟨rfl, rfl⟩, by simp⟩
  have c1 := step9_ok a l s hok L e0 hg hb
  have c3 := step10_pure a (setF a l) s hok (setK_len a l _)
  have c4 := sameInts_refl (numsB (stepF a (setF a l) s))
  rw [hok] at c2
  simp only [dAuto, dSym] at c1 c2 c3
  (repeat (first | refine DW_seq fun K hK => ?_ | (refine DW_r anBX74 Try.mixed (by kernel_rfl) ?_; simp [anBX74, hnt, dAuto, dSym, hst0, hst1, hst2]; try simp (disch := omega) only [wrap64_in]) | refine DW_block ?_ | (refine DW_if ?_ ?_ ?_; (· (simp [hnt, dAuto, dSym, hst0, hst1, hst2]; done)); (try (rotate_left; (· (intro hc; (try simp [hnt, dAuto, dSym, hst0, hst1, hst2] at hc); done))))) | (refine DW_ret ?_; simp [Try.results4, hnt, dAuto, dSym, hst0, hst1, hst2]) | ((first | refine DW_exit ?_ | refine DW_skip ?_); simp [hnt, dAuto, dSym, hst0, hst1, hst2]) | (intro hc; (try simp [hnt, dAuto, dSym, hst0, hst1, hst2] at hc); (try (exfalso; omega))) | ((first | refine callP_mk (head_pure) ?_ | refine callP_mk (c1) ?_ | refine callP_mk (c2) ?_ | refine callP_mk (c3) ?_ | refine callP_mk (c4) ?_ | (refine callP_wk (head_pure) ?_ ?_; (· (simp; done))) | (refine callP_wk (c1) ?_ ?_; (· (simp; done))) | (refine callP_wk (c2) ?_ ?_; (· (simp; done))) | (refine callP_wk (c3) ?_ ?_; (· (simp; done))) | (refine callP_wk (c4) ?_ ?_; (· (simp; done)))); try simp [hnt, dAuto, dSym, hst0, hst1, hst2]) | (refine ⟨?_, ?_⟩; · omega) | omega | apply_assumption -exfalso -symm | (exfalso; omega)))
  refine DW_loop (X := {k : Nat // k ≤ l.length ∧ ∀ i q, i < k → l[i]? = some q → stB a.st q = true}) (fun k => ⟨[(1, dNums l), (3, .ref [.int .i64 a.st, dNums a.fin, dArcs a.arcs]), (5, .ref (dSym s)), (7, dNums L), (8, .int .i64 e0), (9, .osl 29 1), (10, .int .i64 k.1)], [⟨29, 1, .row 4 1 1 (bD (setK a l k.1))⟩]⟩) (fun k => l.length - k.1) ⟨0, by simp⟩ (Sub.lit (by simp [dSym, setK_zero, mx_rep])) ?_
  rintro ⟨k, hk, hpre⟩
  simp only
  by_cases hlt : k < l.length
  · obtain ⟨q, hq, hq', hqm⟩ := at_lt' hlt
    by_cases c0 : q < 0
    · obtain ⟨rfl, rfl⟩ := hb (all_bad hqm (stB_lo c0))
      (repeat (first | refine DW_seq fun K hK => ?_ | (refine DW_r anBX74 Try.mixed (by kernel_rfl) ?_; simp [anBX74, hnt, dNum, hlt, hq', c0]; try simp (disch := omega) only [wrap64_in]) | refine DW_block ?_ | (refine DW_if ?_ ?_ ?_; (· (simp [hnt, dNum, hlt, hq', c0]; done)); (try (rotate_left; (· (intro hc; (try simp [hnt, dNum, hlt, hq', c0] at hc); done))))) | (refine DW_ret ?_; simp [Try.results4, hnt, dNum, hlt, hq', c0]) | ((first | refine DW_exit ?_ | refine DW_skip ?_); simp [hnt, dNum, hlt, hq', c0]) | (intro hc; (try simp [hnt, dNum, hlt, hq', c0] at hc); (try (exfalso; omega))) | ((first | refine callP_mk (head_pure) ?_ | refine callP_mk (c1) ?_ | refine callP_mk (c2) ?_ | refine callP_mk (c3) ?_ | refine callP_mk (c4) ?_ | (refine callP_wk (head_pure) ?_ ?_; (· (simp; done))) | (refine callP_wk (c1) ?_ ?_; (· (simp; done))) | (refine callP_wk (c2) ?_ ?_; (· (simp; done))) | (refine callP_wk (c3) ?_ ?_; (· (simp; done))) | (refine callP_wk (c4) ?_ ?_; (· (simp; done)))); try simp [hnt, dNum, hlt, hq', c0]) | (refine ⟨?_, ?_⟩; · omega) | omega | apply_assumption -exfalso -symm | (exfalso; omega)))
    by_cases c1 : a.st ≤ q
    · obtain ⟨rfl, rfl⟩ := hb (all_bad hqm (stB_hi c1))
      (repeat (first | refine DW_seq fun K hK => ?_ | (refine DW_r anBX74 Try.mixed (by kernel_rfl) ?_; simp [anBX74, hnt, dNum, hlt, hq', c0, c1]; try simp (disch := omega) only [wrap64_in]) | refine DW_block ?_ | (refine DW_if ?_ ?_ ?_; (· (simp [hnt, dNum, hlt, hq', c0, c1]; done)); (try (rotate_left; (· (intro hc; (try simp [hnt, dNum, hlt, hq', c0, c1] at hc); done))))) | (refine DW_ret ?_; simp [Try.results4, hnt, dNum, hlt, hq', c0, c1]) | ((first | refine DW_exit ?_ | refine DW_skip ?_); simp [hnt, dNum, hlt, hq', c0, c1]) | (intro hc; (try simp [hnt, dNum, hlt, hq', c0, c1] at hc); (try (exfalso; omega))) | ((first | refine callP_mk (head_pure) ?_ | refine callP_mk (c1) ?_ | refine callP_mk (c2) ?_ | refine callP_mk (c3) ?_ | refine callP_mk (c4) ?_ | (refine callP_wk (head_pure) ?_ ?_; (· (simp; done))) | (refine callP_wk (c1) ?_ ?_; (· (simp; done))) | (refine callP_wk (c2) ?_ ?_; (· (simp; done))) | (refine callP_wk (c3) ?_ ?_; (· (simp; done))) | (refine callP_wk (c4) ?_ ?_; (· (simp; done)))); try simp [hnt, dNum, hlt, hq', c0, c1]) | (refine ⟨?_, ?_⟩; · omega) | omega | apply_assumption -exfalso -symm | (exfalso; omega)))
    obtain ⟨v, rfl⟩ : ∃ v : Nat, q = (v : Int) := ⟨q.toNat, by omega⟩
    have hvl : v < (setK a l k).length := by rw [setK_len]; omega
    have hnx := setK_next (a := a) hq
    rw [Int.toNat_natCast] at hnx
    (repeat (first | refine DW_seq fun K hK => ?_ | (refine DW_r anBX74 Try.mixed (by kernel_rfl) ?_; simp [anBX74, hnt, dNum, hlt, hq', c1, hvl, bD_len]; try simp (disch := omega) only [wrap64_in]) | refine DW_block ?_ | (refine DW_if ?_ ?_ ?_; (· (simp [hnt, dNum, hlt, hq', c1, hvl, bD_len]; done)); (try (rotate_left; (· (intro hc; (try simp [hnt, dNum, hlt, hq', c1, hvl, bD_len] at hc); done))))) | (refine DW_ret ?_; simp [Try.results4, hnt, dNum, hlt, hq', c1, hvl, bD_len]) | ((first | refine DW_exit ?_ | refine DW_skip ?_); simp [hnt, dNum, hlt, hq', c1, hvl, bD_len]) | (intro hc; (try simp [hnt, dNum, hlt, hq', c1, hvl, bD_len] at hc); (try (exfalso; omega))) | ((first | refine callP_mk (head_pure) ?_ | refine callP_mk (c1) ?_ | refine callP_mk (c2) ?_ | refine callP_mk (c3) ?_ | refine callP_mk (c4) ?_ | (refine callP_wk (head_pure) ?_ ?_; (· (simp; done))) | (refine callP_wk (c1) ?_ ?_; (· (simp; done))) | (refine callP_wk (c2) ?_ ?_; (· (simp; done))) | (refine callP_wk (c3) ?_ ?_; (· (simp; done))) | (refine callP_wk (c4) ?_ ?_; (· (simp; done)))); try simp [hnt, dNum, hlt, hq', c1, hvl, bD_len]) | (refine ⟨?_, ?_⟩; · omega) | omega | apply_assumption -exfalso -symm | (exfalso; omega)))
    refine Again.mk ⟨k + 1, by omega, pre_next hpre hq (stB_in c0 c1)⟩ (Sub.lit (by simp [hnx, dSym, bD_set])) (by simp; omega)
    (repeat (first | refine DW_seq fun K hK => ?_ | (refine DW_r anBX74 Try.mixed (by kernel_rfl) ?_; simp [anBX74, hnt]; try simp (disch := omega) only [wrap64_in]) | refine DW_block ?_ | (refine DW_if ?_ ?_ ?_; (· (simp [hnt]; done)); (try (rotate_left; (· (intro hc; (try simp [hnt] at hc); done))))) | (refine DW_ret ?_; simp [Try.results4, hnt]) | ((first | refine DW_exit ?_ | refine DW_skip ?_); simp [hnt]) | (intro hc; (try simp [hnt] at hc); (try (exfalso; omega))) | ((first | refine callP_mk (head_pure) ?_ | refine callP_mk (c1) ?_ | refine callP_mk (c2) ?_ | refine callP_mk (c3) ?_ | refine callP_mk (c4) ?_ | (refine callP_wk (head_pure) ?_ ?_; (· (simp; done))) | (refine callP_wk (c1) ?_ ?_; (· (simp; done))) | (refine callP_wk (c2) ?_ ?_; (· (simp; done))) | (refine callP_wk (c3) ?_ ?_; (· (simp; done))) | (refine callP_wk (c4) ?_ ?_; (· (simp; done)))); try simp [hnt]) | (refine ⟨?_, ?_⟩; · omega) | omega | apply_assumption -exfalso -symm | (exfalso; omega)))
  · have hkk : k = l.length := by omega
    subst hkk
    obtain ⟨rfl, rfl⟩ := hg (all_good hpre)
    refine DW_sub (Sub.freezeL [29] _) ?_
    simp [bD]
    (repeat (first | refine DW_seq fun K hK => ?_ | (refine DW_r anBX74 Try.mixed (by kernel_rfl) ?_; simp [anBX74, hnt, dSym, setF, bD]; try simp (disch := omega) only [wrap64_in]) | refine DW_block ?_ | (refine DW_if ?_ ?_ ?_; (· (simp [hnt, dSym, setF, bD]; done)); (try (rotate_left; (· (intro hc; (try simp [hnt, dSym, setF, bD] at hc); done))))) | (refine DW_ret ?_; simp [Try.results4, hnt, dSym, setF, bD]) | ((first | refine DW_exit ?_ | refine DW_skip ?_); simp [hnt, dSym, setF, bD]) | (intro hc; (try simp [hnt, dSym, setF, bD] at hc); (try (exfalso; omega))) | ((first | refine callP_mk (head_pure) ?_ | refine callP_mk (c1) ?_ | refine callP_mk (c2) ?_ | refine callP_mk (c3) ?_ | refine callP_mk (c4) ?_ | (refine callP_wk (head_pure) ?_ ?_; (· (simp; done))) | (refine callP_wk (c1) ?_ ?_; (· (simp; done))) | (refine callP_wk (c2) ?_ ?_; (· (simp; done))) | (refine callP_wk (c3) ?_ ?_; (· (simp; done))) | (refine callP_wk (c4) ?_ ?_; (· (simp; done)))); try simp [hnt, dSym, setF, bD]) | (refine ⟨?_, ?_⟩; · omega) | omega | apply_assumption -exfalso -symm | (exfalso; omega)))
    refine DW_adoptS 11 60 3 1 8 (by simp [hnt, Try.results4, anBX74]) (fun n => ?_)
    obtain ⟨S, hSe⟩ : ∃ S, S = stepF a (setK a l l.length) s := ⟨_, rfl⟩
    have hS : S.length ≤ 1000 := by rw [hSe, stepF_len]; omega
    have hSf : stepF a (setF a l) s = S := by rw [hSe]; rfl
    rw [hSf] at c4
    simp only [hSf, ← hSe]
    refine DW_loop (X := {k : Nat // k ≤ S.length}) (fun k => ⟨[(7, dNums (numsB S)), (8, .int .i64 0), (9, dBls S), (11, .osl 60 1), (12, .int .i64 k.1)], [⟨60, 1, .row 3 1 8 (numD (numsK S k.1))⟩]⟩) (fun k => S.length - k.1) ⟨0, by simp⟩ (Sub.lit (by simp [numD_zero])) ?_
    rintro ⟨k, hk⟩
    simp only
    by_cases hlt : k < S.length
    · obtain ⟨b, hb, hb', _⟩ := at_lt' hlt
      have hnx := numsK_next hb
      have hl := numsK_len S k
      have hz : (numD (numsK S k)).length + 1 ≤ 2000 := by rw [numD_len]; omega
      have hz2 : S.length < 9223372036854775807 := by omega
      cases b
      · simp only [Bool.false_eq_true, if_false, List.append_nil] at hnx
        (repeat (first | refine DW_seq fun K hK => ?_ | (refine DW_r anBX74 Try.mixed (by kernel_rfl) ?_; simp [anBX74, hnt, dBl, hlt, hb, hb']; try simp (disch := omega) only [wrap64_in]) | refine DW_block ?_ | (refine DW_if ?_ ?_ ?_; (· (simp [hnt, dBl, hlt, hb, hb']; done)); (try (rotate_left; (· (intro hc; (try simp [hnt, dBl, hlt, hb, hb'] at hc); done))))) | (refine DW_ret ?_; simp [Try.results4, hnt, dBl, hlt, hb, hb']) | ((first | refine DW_exit ?_ | refine DW_skip ?_); simp [hnt, dBl, hlt, hb, hb']) | (intro hc; (try simp [hnt, dBl, hlt, hb, hb'] at hc); (try (exfalso; omega))) | ((first | refine callP_mk (head_pure) ?_ | refine callP_mk (c1) ?_ | refine callP_mk (c2) ?_ | refine callP_mk (c3) ?_ | refine callP_mk (c4) ?_ | (refine callP_wk (head_pure) ?_ ?_; (· (simp; done))) | (refine callP_wk (c1) ?_ ?_; (· (simp; done))) | (refine callP_wk (c2) ?_ ?_; (· (simp; done))) | (refine callP_wk (c3) ?_ ?_; (· (simp; done))) | (refine callP_wk (c4) ?_ ?_; (· (simp; done)))); try simp [hnt, dBl, hlt, hb, hb']) | (refine ⟨?_, ?_⟩; · omega) | omega | apply_assumption -exfalso -symm | (exfalso; omega)))
        refine Again.mk ⟨k + 1, by omega⟩ (Sub.lit (by simp [hnx])) (by simp; omega)
        (repeat (first | refine DW_seq fun K hK => ?_ | (refine DW_r anBX74 Try.mixed (by kernel_rfl) ?_; simp [anBX74, hnt]; try simp (disch := omega) only [wrap64_in]) | refine DW_block ?_ | (refine DW_if ?_ ?_ ?_; (· (simp [hnt]; done)); (try (rotate_left; (· (intro hc; (try simp [hnt] at hc); done))))) | (refine DW_ret ?_; simp [Try.results4, hnt]) | ((first | refine DW_exit ?_ | refine DW_skip ?_); simp [hnt]) | (intro hc; (try simp [hnt] at hc); (try (exfalso; omega))) | ((first | refine callP_mk (head_pure) ?_ | refine callP_mk (c1) ?_ | refine callP_mk (c2) ?_ | refine callP_mk (c3) ?_ | refine callP_mk (c4) ?_ | (refine callP_wk (head_pure) ?_ ?_; (· (simp; done))) | (refine callP_wk (c1) ?_ ?_; (· (simp; done))) | (refine callP_wk (c2) ?_ ?_; (· (simp; done))) | (refine callP_wk (c3) ?_ ?_; (· (simp; done))) | (refine callP_wk (c4) ?_ ?_; (· (simp; done)))); try simp [hnt]) | (refine ⟨?_, ?_⟩; · omega) | omega | apply_assumption -exfalso -symm | (exfalso; omega)))
      · simp only [if_true] at hnx
        (repeat (first | refine DW_seq fun K hK => ?_ | (refine DW_r anBX74 Try.mixed (by kernel_rfl) ?_; simp [anBX74, hnt, dBl, hlt, hb, hb']; try simp (disch := omega) only [wrap64_in]) | refine DW_block ?_ | (refine DW_if ?_ ?_ ?_; (· (simp [hnt, dBl, hlt, hb, hb']; done)); (try (rotate_left; (· (intro hc; (try simp [hnt, dBl, hlt, hb, hb'] at hc); done))))) | (refine DW_ret ?_; simp [Try.results4, hnt, dBl, hlt, hb, hb']) | ((first | refine DW_exit ?_ | refine DW_skip ?_); simp [hnt, dBl, hlt, hb, hb']) | (intro hc; (try simp [hnt, dBl, hlt, hb, hb'] at hc); (try (exfalso; omega))) | ((first | refine callP_mk (head_pure) ?_ | refine callP_mk (c1) ?_ | refine callP_mk (c2) ?_ | refine callP_mk (c3) ?_ | refine callP_mk (c4) ?_ | (refine callP_wk (head_pure) ?_ ?_; (· (simp; done))) | (refine callP_wk (c1) ?_ ?_; (· (simp; done))) | (refine callP_wk (c2) ?_ ?_; (· (simp; done))) | (refine callP_wk (c3) ?_ ?_; (· (simp; done))) | (refine callP_wk (c4) ?_ ?_; (· (simp; done)))); try simp [hnt, dBl, hlt, hb, hb']) | (refine ⟨?_, ?_⟩; · omega) | omega | apply_assumption -exfalso -symm | (exfalso; omega)))
        refine Again.mk ⟨k + 1, by omega⟩ (Sub.lit (by simp [hnx, numD_snoc])) (by simp; omega)
        (repeat (first | refine DW_seq fun K hK => ?_ | (refine DW_r anBX74 Try.mixed (by kernel_rfl) ?_; simp [anBX74, hnt]; try simp (disch := omega) only [wrap64_in]) | refine DW_block ?_ | (refine DW_if ?_ ?_ ?_; (· (simp [hnt]; done)); (try (rotate_left; (· (intro hc; (try simp [hnt] at hc); done))))) | (refine DW_ret ?_; simp [Try.results4, hnt]) | ((first | refine DW_exit ?_ | refine DW_skip ?_); simp [hnt]) | (intro hc; (try simp [hnt] at hc); (try (exfalso; omega))) | ((first | refine callP_mk (head_pure) ?_ | refine callP_mk (c1) ?_ | refine callP_mk (c2) ?_ | refine callP_mk (c3) ?_ | refine callP_mk (c4) ?_ | (refine callP_wk (head_pure) ?_ ?_; (· (simp; done))) | (refine callP_wk (c1) ?_ ?_; (· (simp; done))) | (refine callP_wk (c2) ?_ ?_; (· (simp; done))) | (refine callP_wk (c3) ?_ ?_; (· (simp; done))) | (refine callP_wk (c4) ?_ ?_; (· (simp; done)))); try simp [hnt]) | (refine ⟨?_, ?_⟩; · omega) | omega | apply_assumption -exfalso -symm | (exfalso; omega)))
    · have hkk : k = S.length := by omega
      subst hkk
      have hall := numsK_all S
      rw [hall]
      refine DW_sub (Sub.freezeL [60] _) ?_
      simp [numD]
      (repeat (first | refine DW_seq fun K hK => ?_ | (refine DW_r anBX74 Try.mixed (by kernel_rfl) ?_; simp [anBX74, hnt]; try simp (disch := omega) only [wrap64_in]) | refine DW_block ?_ | (refine DW_if ?_ ?_ ?_; (· (simp [hnt]; done)); (try (rotate_left; (· (intro hc; (try simp [hnt] at hc); done))))) | (refine DW_ret ?_; simp [Try.results4, hnt]) | ((first | refine DW_exit ?_ | refine DW_skip ?_); simp [hnt]) | (intro hc; (try simp [hnt] at hc); (try (exfalso; omega))) | ((first | refine callP_mk (head_pure) ?_ | refine callP_mk (c1) ?_ | refine callP_mk (c2) ?_ | refine callP_mk (c3) ?_ | refine callP_mk (c4) ?_ | (refine callP_wk (head_pure) ?_ ?_; (· (simp; done))) | (refine callP_wk (c1) ?_ ?_; (· (simp; done))) | (refine callP_wk (c2) ?_ ?_; (· (simp; done))) | (refine callP_wk (c3) ?_ ?_; (· (simp; done))) | (refine callP_wk (c4) ?_ ?_; (· (simp; done)))); try simp [hnt]) | (refine ⟨?_, ?_⟩; · omega) | omega | apply_assumption -exfalso -symm | (exfalso; omega)))
end Go.Proofs.Ytnmbgbeajacpfaa
end

section
/- The data machine, second make, part U: what an argument that came in reads as: the given reading turned into data. -/





set_option linter.unusedSimpArgs false
set_option linter.unusedVariables false
namespace Go.Dm

/-- The shape of a datum. -/
inductive Sh where
  | b
  | i (k : IntKind)
  | s
  | sl (k bs : Nat) (c : List Sh)

mutual
def HasS (L : Nat) : Sh → DVal → Prop
  | .b, d => ∃ b, d = .bool b
  | .i k, d => ∃ n, d = .int k n
  | .s, d => ∃ x : ByteArray, d = .str x ∧ x.size ≤ L
  | .sl k bs c, d => ∃ es, d = .sl k bs es ∧ es.length * bs ≤ L ∧ ∀ e ∈ es, HasL L c e
def HasL (L : Nat) : List Sh → List DVal → Prop
  | [], ds => ds = []
  | x :: r, ds => ∃ d t, ds = d :: t ∧ HasS L x d ∧ HasL L r t
end

theorem HasL_append {L : Nat} : ∀ {a b : List Sh} {x y : List DVal}, HasL L a x → HasL L b y → HasL L (a ++ b) (x ++ y)
  | [], b, x, y, h, k => by simp only [HasL] at h; subst h; exact k
  | a :: r, b, x, y, h, k => by
    simp only [HasL] at h
    obtain ⟨d, t, rfl, h1, h2⟩ := h
    simp only [List.cons_append, HasL]
    exact ⟨d, t ++ y, rfl, h1, HasL_append h2 k⟩

def shF (g : TypeId → Option (List Sh)) (cells : TypeId → Nat) : List Field → Nat → Option (List Sh × Nat)
  | [], off => some ([], off)
  | f :: r, off => if f.offset = off then
      (match g f.type, shF g cells r (off + cells f.type) with
      | some c, some (l, e) => some (c ++ l, e)
      | _, _ => none) else none

/-- The shape of a type. -/
def shOf (P : Program) : Nat → TypeId → Option (List Sh)
  | 0, _ => none
  | n + 1, t => match P.underlying t with
    | some .bool => some [.b]
    | some (.int k) => some [.i k]
    | some .string => some [.s]
    | some (.slice e) => if 0 < P.cellsOf e then (shOf P n e).map fun c => [.sl (P.cellsOf e) (P.bytesOf e) c] else none
    | some (.struct fs) => match shF (shOf P n) P.cellsOf fs.toList 0 with
      | some (l, e) => if e = P.cellsOf t then some l else none
      | none => none
    | _ => none

theorem mapM_some {α β : Type} {f : α → Option β} : ∀ {l : List α} {r : List β}, l.mapM f = some r → r.length = l.length ∧ ∀ (i : Nat) (x : α), l[i]? = some x → ∃ y, r[i]? = some y ∧ f x = some y
  | [], r, h => by simp at h; subst h; simp
  | a :: l, r, h => by
    rw [List.mapM_cons] at h
    cases hf : f a with
    | none => rw [hf] at h; simp at h
    | some y =>
      rw [hf] at h
      cases hm : l.mapM f with
      | none => rw [hm] at h; simp at h
      | some r' =>
        rw [hm] at h
        simp at h
        subst h
        obtain ⟨h1, h2⟩ := mapM_some hm
        refine ⟨by simp [h1], fun i x hx => ?_⟩
        cases i with
        | zero => simp only [List.getElem?_cons_zero, Option.some.injEq] at hx; subst hx; exact ⟨y, rfl, hf⟩
        | succ i => simp only [List.getElem?_cons_succ] at hx ⊢; exact h2 i x hx

theorem rdV_len {cur : Cur} {M : List Nat} {h : Array Obj} : ∀ {a : List DVal} {x : List Value}, rdV cur M h a x → a.length = x.length
  | [], x, h1 => by simp only [rdV] at h1; subst h1; rfl
  | d :: a, x, h1 => by
    simp only [rdV] at h1
    obtain ⟨v, r, rfl, h3, h4⟩ := h1
    simp [rdV_len h4]

theorem rdC_of_rdV {cur : Cur} {M : List Nat} {h : Array Obj} {arr : Array Value} : ∀ {a : List DVal} {x : List Value} {o : Nat}, rdV cur M h a x → (∀ v ∈ x, v.oneCell' = true) → (∀ (j : Nat) v, x[j]? = some v → arr[o + j]? = some v) → rdC cur M h a arr o
  | [], x, o, h1, _, _ => by simp [rdC]
  | d :: a, x, o, h1, h2, h3 => by
    simp only [rdV] at h1
    obtain ⟨v, r, rfl, h4, h5⟩ := h1
    simp only [rdC]
    refine ⟨⟨v, by simpa using h3 0 v rfl, h2 v (by simp), h4⟩, rdC_of_rdV h5 (fun u hu => h2 u (by simp [hu])) fun j u hu => ?_⟩
    have := h3 (j + 1) u (by simpa using hu)
    rw [← this]; congr 1; omega

theorem rows_of {L : Nat} {cur : Cur} {M : List Nat} {h : Array Obj} {arr : Array Value} {k : Nat} {c : List Sh} : ∀ (len off : Nat), (∀ i, i < len → ∃ ds, ds.length = k ∧ rdC cur M h ds arr (off + i * k) ∧ HasL L c ds) →
    ∃ es, es.length = len ∧ rdR cur M h k es arr off ∧ ∀ e ∈ es, HasL L c e
  | 0, off, _ => ⟨[], rfl, by simp [rdR], by simp⟩
  | len + 1, off, hh => by
    obtain ⟨ds, h1, h2, h3⟩ := hh 0 (by omega)
    obtain ⟨es, h4, h5, h6⟩ := rows_of len (off + k) (fun i hi => by
      obtain ⟨ds, h1, h2, h3⟩ := hh (i + 1) (by omega)
      refine ⟨ds, h1, ?_, h3⟩
      have : off + k + i * k = off + (i + 1) * k := by rw [Nat.add_mul]; omega
      rw [this]; exact h2)
    refine ⟨ds :: es, by simp [h4], ?_, ?_⟩
    · simp only [rdR]; exact ⟨h1, by simpa using h2, h5⟩
    · intro e he
      rcases List.mem_cons.1 he with rfl | he
      · exact h3
      · exact h6 e he

theorem inR_of_wf {k : IntKind} {n : Int} (h : (Lit.int k n).wf = true) : inR k n := by
  cases k <;> simpa [Lit.wf, IntKind.min, IntKind.max, IntKind.signed, IntKind.bits, inR] using h

theorem shF_mono {g : TypeId → Option (List Sh)} {cells : TypeId → Nat} : ∀ {fs : List Field} {off e : Nat} {l : List Sh}, shF g cells fs off = some (l, e) → off ≤ e
  | [], off, e, l, h => by simp only [shF, Option.some.injEq, Prod.mk.injEq] at h; omega
  | f :: r, off, e, l, h => by
    simp only [shF] at h
    split at h
    · split at h
      · rename_i c l' e' h1 h2
        simp only [Option.some.injEq, Prod.mk.injEq] at h
        have := shF_mono h2
        omega
      · simp at h
    · simp at h

section
variable {H : Type} {enc : TypeId × Value → H} {P : Program} {w : World} {cur : Cur}

def RdArg (L : Nat) (P : Program) (cur : Cur) (w : World) (cs : List Value) (shs : List Sh) : Prop :=
  ∃ ds, rdV cur [] w.heap ds cs ∧ (∀ v ∈ cs, v.oneCell' = true) ∧ HasL L shs ds

theorem fields_rd {L fuel n : Nat} (ih : ∀ {t : TypeId} {cs : List Value} {d : DataW H} {ps : List MemPlace} {shs : List Sh}, DataW.trod enc P w 0 (fun _ => true) true fuel t cs = some (d, ps) → shOf P n t = some shs → (∀ x ∈ d.weights P t, x ≤ L) → RdArg L P cur w cs shs)
    (cs : List Value) : ∀ (fs : List Field) (off e : Nat) (l : List Sh) (xs : List (DataW H × List MemPlace)),
      fs.mapM (fun f => DataW.trod enc P w 0 (fun _ => true) true fuel f.type ((cs.drop f.offset).take (P.cellsOf f.type))) = some xs → shF (shOf P n) P.cellsOf fs off = some (l, e) →
      (∀ x ∈ DataW.weightsEach P (fs.map (·.type)) (xs.map (·.1)), x ≤ L) → RdArg L P cur w ((cs.drop off).take (e - off)) l
  | [], off, e, l, xs, h1, h2, h3 => by
    simp only [shF, Option.some.injEq, Prod.mk.injEq] at h2
    obtain ⟨rfl, rfl⟩ := h2
    exact ⟨[], by simp [rdV], by simp, by simp [HasL]⟩
  | f :: fs, off, e, l, xs, h1, h2, h3 => by
    rw [List.mapM_cons] at h1
    simp only [shF] at h2
    split at h2
    · rename_i hoff
      split at h2
      · rename_i c l' e' h4 h5
        simp only [Option.some.injEq, Prod.mk.injEq] at h2
        obtain ⟨rfl, rfl⟩ := h2
        have hm := shF_mono h5
        cases hf : DataW.trod enc P w 0 (fun _ => true) true fuel f.type ((cs.drop f.offset).take (P.cellsOf f.type)) with
        | none => rw [hf] at h1; simp at h1
        | some x =>
          rw [hf] at h1
          cases hr : fs.mapM (fun f => DataW.trod enc P w 0 (fun _ => true) true fuel f.type ((cs.drop f.offset).take (P.cellsOf f.type))) with
          | none => rw [hr] at h1; simp at h1
          | some xr =>
            rw [hr] at h1
            simp at h1
            subst h1
            simp only [List.map_cons, DataW.weightsEach, List.mem_append] at h3
            obtain ⟨d1, a1, a2, a3⟩ := ih hf h4 (fun y hy => h3 y (.inl hy))
            obtain ⟨d2, b1, b2, b3⟩ := fields_rd ih cs fs (off + P.cellsOf f.type) e' l' xr hr h5 (fun y hy => h3 y (.inr hy))
            have hsp : (cs.drop off).take (e' - off) = (cs.drop f.offset).take (P.cellsOf f.type) ++ (cs.drop (off + P.cellsOf f.type)).take (e' - (off + P.cellsOf f.type)) := by
              rw [hoff, ← List.drop_drop, show e' - off = P.cellsOf f.type + (e' - (off + P.cellsOf f.type)) by omega, List.take_add]
            rw [hsp]
            exact ⟨d1 ++ d2, rdV_append _ _ _ _ a1 b1, fun v hv => (List.mem_append.1 hv).elim (a2 v) (b2 v), HasL_append a3 b3⟩
      · simp at h2
    · simp at h2

theorem weightsAll_mem {e : TypeId} : ∀ {l : List (DataW H)} {d : DataW H}, d ∈ l → ∀ x ∈ d.weights P e, x ∈ DataW.weightsAll P e l
  | a :: l, d, hd, x, hx => by
    simp only [DataW.weightsAll, List.mem_append]
    rcases List.mem_cons.1 hd with rfl | hd
    · exact .inl hx
    · exact .inr (weightsAll_mem hd x hx)

theorem cells_get {a : Addr} {n : Nat} {cs : List Value} (h : w.cells? 0 a n = some cs) : cs.length = n ∧ ∀ (j : Nat) v, cs[j]? = some v → w.cell? (a.add j) = some v := by
  unfold World.cells? at h
  rw [if_pos (Nat.zero_le _)] at h
  obtain ⟨h1, h2⟩ := mapM_some h
  rw [List.length_range] at h1
  refine ⟨h1, fun j v hv => ?_⟩
  have hj : j < n := by rw [← h1]; exact (List.getElem?_eq_some_iff.1 hv).1
  obtain ⟨y, hy, hy'⟩ := h2 j j (by rw [List.getElem?_range hj])
  rw [hv] at hy
  rw [hy', hy]

theorem add_none (b o n : Nat) : (⟨b, o, none⟩ : Addr).add n = ⟨b, o + n, none⟩ := by
  unfold Addr.add
  split
  · rename_i h; subst h; rfl
  · rfl

theorem trod_rd {L : Nat} (hL : L ≤ 140737488355328) : ∀ {fuel n : Nat} {t : TypeId} {cs : List Value} {d : DataW H} {ps : List MemPlace} {shs : List Sh}, DataW.trod enc P w 0 (fun _ => true) true fuel t cs = some (d, ps) → shOf P n t = some shs →
    (∀ x ∈ d.weights P t, x ≤ L) → RdArg L P cur w cs shs
  | 0, n, t, cs, d, ps, shs, h, hs, hw => by simp [DataW.trod] at h
  | fuel + 1, 0, t, cs, d, ps, shs, h, hs, hw => by simp [shOf] at hs
  | fuel + 1, n + 1, t, cs, d, ps, shs, h, hs, hw => by
    unfold DataW.trod at h
    split at h
    · rename_i b hu
      simp only [shOf, hu, Option.some.injEq] at hs
      subst hs
      exact ⟨[.bool b], by simp [rdV, rd], by simp [Value.oneCell'], by simp [HasL, HasS]⟩
    · rename_i k k' n' hu
      simp only [shOf, hu, Option.some.injEq] at hs
      subst hs
      split at h
      · rename_i hk
        obtain ⟨rfl, hk⟩ := hk
        exact ⟨[.int k' n'], by simp [rdV, rd, inR_of_wf hk], by simp [Value.oneCell'], by simp [HasL, HasS]⟩
      · simp at h
    · rename_i hu; simp [shOf, hu] at hs
    · rename_i x hu
      simp only [shOf, hu, Option.some.injEq] at hs
      subst hs
      split at h
      · rename_i hk
        simp only [Option.some.injEq, Prod.mk.injEq] at h
        obtain ⟨rfl, _⟩ := h
        have hsz := hw x.data.toList.length (by simp [DataW.weights])
        exact ⟨[.str x], by simp [rdV, rd, hk], by simp [Value.oneCell'], by simp only [HasL, HasS]; exact ⟨_, _, rfl, ⟨x, rfl, by rw [Array.length_toList] at hsz; exact hsz⟩, rfl⟩⟩
      · simp at h
    · rename_i hu; simp [shOf, hu] at hs
    · rename_i hu; simp [shOf, hu] at hs
    · rename_i e hu
      simp only [shOf, hu] at hs
      split at hs
      rotate_left
      · simp at hs
      rename_i hk0
      rw [Option.map_eq_some_iff] at hs
      obtain ⟨c, hc, rfl⟩ := hs
      exact ⟨[.sl (P.cellsOf e) (P.bytesOf e) []], by simp only [rdV, rd]; exact ⟨_, _, rfl, ⟨none, 0, rfl, Nat.le_refl _, Nat.zero_le _, by simp, .inl ⟨trivial, fun _ => rfl⟩⟩, rfl⟩, by simp [Value.oneCell'], by simp [HasL, HasS]⟩
    · rename_i e a len cap hu
      simp only [shOf, hu] at hs
      split at hs
      rotate_left
      · simp at hs
      rename_i hk0
      rw [Option.map_eq_some_iff] at hs
      obtain ⟨c, hc, rfl⟩ := hs
      simp only at h
      split at h
      · rename_i hb
        obtain ⟨_, hb1, hb2⟩ := hb
        cases hm : (List.range len).mapM (fun i => (w.cells? 0 (a.add (i * P.cellsOf e)) (P.cellsOf e)).bind (DataW.trod enc P w 0 (fun _ => true) true fuel e)) with
        | none => rw [hm] at h; simp at h
        | some elems =>
          rw [hm] at h
          simp only [Option.bind_some, if_true, Option.map_eq_some_iff] at h
          obtain ⟨rest, hr, h⟩ := h
          simp only [Prod.mk.injEq] at h
          obtain ⟨rfl, rfl⟩ := h
          simp only [DataW.weights, hu, List.mem_cons, List.mem_append, List.length_map] at hw
          obtain ⟨m1, m2⟩ := mapM_some hm
          rw [List.length_range] at m1
          have hsz := hw _ (.inl rfl)
          have hlen : len * P.bytesOf e ≤ L := Nat.le_trans (Nat.mul_le_mul_right _ (by omega)) hsz
          have hel : ∀ i, i < len → ∃ cs ds, w.cells? 0 (a.add (i * P.cellsOf e)) (P.cellsOf e) = some cs ∧ rdV cur [] w.heap ds cs ∧ (∀ v ∈ cs, v.oneCell' = true) ∧ HasL L c ds := by
            intro i hi
            obtain ⟨y, hy, hy'⟩ := m2 i i (by rw [List.getElem?_range hi])
            rw [Option.bind_eq_some_iff] at hy'
            obtain ⟨cs, hcs, hy'⟩ := hy'
            obtain ⟨d', p'⟩ := y
            have hmem : d' ∈ elems.map (·.1) := List.mem_map.2 ⟨_, List.mem_of_getElem? hy, rfl⟩
            obtain ⟨ds, b1, b2, b3⟩ := trod_rd hL hy' hc (fun x hx => hw x (.inr (.inl (weightsAll_mem hmem x hx))))
            exact ⟨cs, ds, hcs, b1, b2, b3⟩
          by_cases h0 : len = 0
          · subst h0
            exact ⟨[.sl (P.cellsOf e) (P.bytesOf e) []], by simp only [rdV, rd]; exact ⟨_, _, rfl, ⟨some a, cap, rfl, Nat.zero_le _, hb2, by simp, .inl ⟨trivial, fun hh => by simp at hh⟩⟩, rfl⟩, by simp [Value.oneCell'], by simp [HasL, HasS]⟩
          · obtain ⟨blk, off, spot⟩ := a
            obtain ⟨cs0, ds0, hcs0, _, _, _⟩ := hel 0 (by omega)
            obtain ⟨l1, l2⟩ := cells_get hcs0
            obtain ⟨v, hv⟩ : ∃ v, cs0[0]? = some v := ⟨_, List.getElem?_eq_getElem (by omega)⟩
            have hc0 : w.cell? ⟨blk, off, spot⟩ = some v := by simpa [Addr.add] using l2 0 v hv
            obtain ⟨arr, ty, fz, hblk, hspot⟩ : ∃ arr ty fz, w.heap[blk]? = some (.cells arr ty fz) ∧ spot = none := by
              simp only [World.cell?] at hc0
              split at hc0
              · rename_i arr ty fz hb
                split at hc0
                · simp at hc0
                · rename_i hsp
                  exact ⟨arr, ty, fz, hb, by simpa using hsp⟩
              · simp at hc0
            subst hspot
            obtain ⟨es, e1, e2, e3⟩ := rows_of (cur := cur) (M := []) (h := w.heap) (arr := arr) (k := P.cellsOf e) (c := c) len off (fun i hi => by
              obtain ⟨cs, ds, hcs, b1, b2, b3⟩ := hel i hi
              obtain ⟨l1, l2⟩ := cells_get hcs
              refine ⟨ds, by rw [rdV_len b1, l1], rdC_of_rdV b1 b2 fun j u hu => ?_, b3⟩
              have := l2 j u hu
              rw [add_none, add_none] at this
              simpa [World.cell?, hblk] using this)
            refine ⟨[.sl (P.cellsOf e) (P.bytesOf e) es], ?_, by simp [Value.oneCell'], by simp only [HasL, HasS]; exact ⟨_, _, rfl, ⟨es, rfl, by rw [e1]; exact hlen, e3⟩, rfl⟩⟩
            simp only [rdV, rd]
            exact ⟨_, _, rfl, ⟨_, _, by rw [e1], by omega, hb2, by rw [e1]; omega, .inr ⟨blk, off, arr, ty, fz, rfl, by simp, hblk, e2⟩⟩, rfl⟩
      · simp at h
    · rename_i fs hu
      simp only [shOf, hu] at hs
      split at hs
      · rename_i l e hf
        split at hs
        · rename_i he
          simp only [Option.some.injEq] at hs
          subst hs
          subst he
          split at h
          · rename_i hlen
            simp only [Option.map_eq_some_iff] at h
            obtain ⟨xs, hxs, h⟩ := h
            simp only [Prod.mk.injEq] at h
            obtain ⟨rfl, rfl⟩ := h
            simp only [DataW.weights, hu] at hw
            have := fields_rd (cur := cur) (fun h1 h2 h3 => trod_rd hL h1 h2 h3) _ fs.toList 0 (P.cellsOf t) l xs hxs hf hw
            simpa [← hlen] using this
          · simp at h
        · simp at hs
      · simp at hs
    all_goals first | (simp at h; done) | (rename_i hu; simp [shOf, hu] at hs; done)

/-- An argument of a shape that is known: the datum that it reads as. -/
def isAggT (P : Program) (t : TypeId) : Bool := match P.underlying t with | some (.struct _) => true | _ => false
theorem arg_rd {L base n : Nat} (hL : L ≤ 140737488355328) {t : TypeId} {v : Value} {d : DataW H} {ps : List MemPlace} {shs : List Sh} (hv : Value.okWide P w .any base t v) (h : DataW.Trod enc P w 0 (fun _ => true) true t v d ps) (hs : shOf P n t = some shs)
    (hw : ∀ x ∈ d.weights P t, x ≤ L) : ∃ ds, HasL L shs ds ∧ if isAggT P t then rd cur [] w.heap (.agg ds) v else rdV cur [] w.heap ds [v] := by
  obtain ⟨fuel, h⟩ := h
  obtain ⟨ds, h1, h2, h3⟩ := trod_rd (cur := cur) hL h hs hw
  refine ⟨ds, h3, ?_⟩
  unfold isAggT
  split
  · rename_i fs hu
    simp only [if_true]
    simp only [Value.okWide, hu] at hv
    obtain ⟨cs, rfl, _, _⟩ := hv
    simp only [rd]
    exact ⟨cs, rfl, h1⟩
  · rename_i hu
    have hag : v.cells = #[v] := by
      cases n with
      | zero => simp [shOf] at hs
      | succ n =>
        cases v <;> first | rfl | skip
        rename_i cs
        unfold shOf at hs
        unfold Value.okWide at hv
        cases hu' : P.underlying t with
        | none => simp [hu'] at hs
        | some ty =>
          rw [hu'] at hs hv
          cases ty <;> simp [Cell.okWide, Cell.ok, hu'] at hs hv
          exact absurd hu' (hu _)
    rw [hag] at h1
    simpa using h1

/-- All arguments at once. -/
def HasArgs (L : Nat) (P : Program) : List TypeId → List (List Sh) → List DVal → Prop
  | [], [], a => a = []
  | t :: ts, x :: xs, a => ∃ ds r, HasL L x ds ∧ a = (if isAggT P t then .agg ds else ds.headD .any) :: r ∧ HasArgs L P ts xs r
  | _, _, _ => False

theorem args_rd0 {L base n : Nat} (hL : L ≤ 140737488355328) : ∀ {ts : List TypeId} {vs : List Value} {ds : List (DataW H)} {ps : List MemPlace} {shs : List (List Sh)}, (∀ (j : Nat) t v, ts[j]? = some t → vs[j]? = some v → Value.okWide P w .any base t v) →
    DataW.TrodAll enc P w 0 (fun _ => true) true ts vs ds ps → ts.map (shOf P n) = shs.map some → (∀ x ∈ DataW.weightsEach P ts ds, x ≤ L) → ∃ das, rdV cur [] w.heap das vs ∧ HasArgs L P ts shs das
  | [], vs, ds, ps, shs, hv, hA, hs, hw => by
    obtain ⟨rfl, rfl, rfl⟩ := ChangeShapes.trodAll_nil hA
    cases shs with
    | nil => exact ⟨[], by simp [rdV], by simp [HasArgs]⟩
    | cons a b => simp at hs
  | t :: ts, vs, ds, ps, shs, hv, hA, hs, hw => by
    obtain ⟨v, vr, d, dr, p, q, rfl, rfl, rfl, h0, hr⟩ := ChangeShapes.trodAll_cons hA
    cases shs with
    | nil => simp at hs
    | cons x xs =>
      simp only [List.map_cons, List.cons.injEq] at hs
      simp only [DataW.weightsEach, List.mem_append] at hw
      obtain ⟨das, a1, a2⟩ := args_rd0 hL (fun j t v h1 h2 => hv (j + 1) t v (by simpa using h1) (by simpa using h2)) hr hs.2 (fun y hy => hw y (.inr hy))
      obtain ⟨dd, b1, b2⟩ := arg_rd (cur := cur) hL (hv 0 t v rfl rfl) h0 hs.1 (fun y hy => hw y (.inl hy))
      refine ⟨(if isAggT P t then .agg dd else dd.headD .any) :: das, ?_, by simp only [HasArgs]; exact ⟨dd, das, b1, rfl, a2⟩⟩
      simp only [rdV]
      refine ⟨v, vr, rfl, ?_, a1⟩
      split
      · rename_i h; rw [if_pos h] at b2; exact b2
      · rename_i h
        rw [if_neg h] at b2
        cases dd with
        | nil => simp [rdV] at b2
        | cons d0 dr =>
          simp only [rdV] at b2
          obtain ⟨u, r, hu, hd0, _⟩ := b2
          simp only [List.cons.injEq] at hu
          rw [hu.1]
          simpa using hd0

theorem args_rd {L base n : Nat} {ts : List TypeId} {vs : List Value} {ds : List (DataW H)} {ps : List MemPlace} {shs : List (List Sh)} (h1 : ∀ (j : Nat) t v, ts[j]? = some t → vs[j]? = some v → Value.okWide P w .any base t v)
    (h2 : DataW.TrodAll enc P w 0 (fun _ => true) true ts vs ds ps) (h3 : ts.map (shOf P n) = shs.map some) (h4 : ∀ x ∈ DataW.weightsEach P ts ds, x ≤ L) (hL : L ≤ 140737488355328 := by omega) : ∃ das, rdV cur [] w.heap das vs ∧ HasArgs L P ts shs das := args_rd0 hL h1 h2 h3 h4

theorem Upd.below {a b : World} (h : Upd [] a b) : RowKit.Below a.heap.size a b := ⟨h.os, h.tape, h.output, h.size, fun k hk => h.blk k hk (by simp)⟩

theorem trodAll_stays (hl : laidOutB P = true) {W W' : World} {sp : Nat → Bool} : ∀ {ts : List TypeId} {vs : List Value} {ds : List (DataW H)} {ps : List MemPlace}, (∀ t ∈ ts, P.readableRec t = true ∧ t < P.types.size) →
    DataW.TrodAll enc P W 0 (fun _ => true) true ts vs ds ps → (∀ p ∈ ps, W.sameAt W' p) → (∀ p ∈ ps, sp p.block = true) → DataW.TrodAll enc P W' 0 sp true ts vs ds ps
  | [], vs, ds, ps, ht, hA, h1, h2 => by
    obtain ⟨rfl, rfl, rfl⟩ := ChangeShapes.trodAll_nil hA
    rfl
  | t :: ts, vs, ds, ps, ht, hA, h1, h2 => by
    obtain ⟨v, vr, d, dr, p, q, rfl, rfl, rfl, h0, hr⟩ := ChangeShapes.trodAll_cons hA
    obtain ⟨k1, k2⟩ := ht t (by simp)
    exact ⟨p, q, WideElems.Trod_stays hl k1 k2 h0 (fun x hx => h1 x (by simp [hx])) (fun x hx => h2 x (by simp [hx])), trodAll_stays hl (fun t h => ht t (by simp [h])) hr (fun x hx => h1 x (by simp [hx])) (fun x hx => h2 x (by simp [hx])), rfl⟩

/-- What a law's row asks behind the call, where the law answers true and leaves what it read as it was. -/
theorem law_post {fn : Func} {s : ChangeSpec} {fresh handsOn : Bool} {tb : TypeId} {W W' : World} {args : Array Value} {ds gs : List (DataW H)} {before : List MemPlace} (hl : laidOutB P = true)
    (hall : ∀ t ∈ fn.params.toList, P.readableRec t = true ∧ t < P.types.size) (hr : fn.resultTypes = #[tb]) (hub : P.underlying tb = some .bool) (hvars : s.vars = [])
    (hs : s.fn H (ds ++ gs) = { results := [.lit (.bool true)], args := ds }) (hW : DataW.Whole enc P fn.params.toList s.vars false W args.toList ds gs before) (hu : Upd [] W W') :
    s.post enc P fn false fresh handsOn false W args (.bool true) W' := by
  have hW' := hW
  obtain ⟨p, q, hA, hV, rfl, hfz, hnd⟩ := hW
  have hlt : ∀ x ∈ p, x.block < W.heap.size := fun x hx => hW'.lt x (by simp [hx])
  have hb := hu.below
  refine ⟨ds, gs, p ++ q, [], p, [], hW', ?_, ?_, ?_, hb.frame _, fun h => by cases h⟩
  · rw [hs, hr]
    exact ChangeShapes.trodAll_mk1 (RowKit.shut_bool hub true)
  · rw [hs]
    exact trodAll_stays hl hall hA (fun x hx => hb.same (hlt x hx)) (fun x hx => by simpa using hlt x hx)
  · rw [hs, hvars]
    rfl

theorem law_contract {f : FuncId} {fn : Func} {s : ChangeSpec} {fresh handsOn : Bool} {tb : TypeId} {W : World} {args : Array Value} {das : List DVal} {ds gs : List (DataW H)} {before : List MemPlace} (hl : laidOutB P = true)
    (hall : ∀ t ∈ fn.params.toList, P.readableRec t = true ∧ t < P.types.size) (hr : fn.resultTypes = #[tb]) (hub : P.underlying tb = some .bool) (hvars : s.vars = [])
    (hs : s.fn H (ds ++ gs) = { results := [.lit (.bool true)], args := ds }) (hW : DataW.Whole enc P fn.params.toList s.vars false W args.toList ds gs before)
    (hrd : rdV (fun _ _ => none) [] W.heap das args.toList) (hd : DPure P f das (.bool true)) :
    Calls P f args W fun e W' => ∃ v, e = .returned v ∧ s.post enc P fn false fresh handsOn false W args v W' := by
  refine (hd.2.2 _ [] W args (by simp) hrd).mono fun e W' ⟨v, he, hu, hv⟩ => ⟨.bool true, ?_, law_post hl hall hr hub hvars hs hW hu⟩
  simp only [rd] at hv
  rw [he, hv]
end

/-- A list of rows of one form. -/
theorem rows_form {α : Type} {f : α → List DVal} : ∀ {es : List (List DVal)}, (∀ e ∈ es, ∃ x, e = f x) → ∃ l : List α, es = l.map f
  | [], _ => ⟨[], rfl⟩
  | e :: es, h => by
    obtain ⟨x, rfl⟩ := h e (by simp)
    obtain ⟨l, rfl⟩ := rows_form (es := es) (f := f) (fun e he => h e (by simp [he]))
    exact ⟨x :: l, rfl⟩
end Go.Dm
end

section
/- What the statements share: shapes of the argument types. -/



set_option linter.unusedSimpArgs false
set_option linter.unusedVariables false
namespace Go.Proofs.Ytnmbgbeajacpfaa
open Go Go.Dm
open Go.ChangeShapes Go.WideShapes Go.ChangeAt Go.RowKit

theorem own : ownKnob Try.prog.godebug = none := by kernel_rfl
theorem laidOut : laidOutB Try.prog = true := by kernel_rfl

def shSym : List Sh := [.b, .i .i64]
theorem has_sym {L : Nat} {ds : List DVal} (h : HasL L shSym ds) : ∃ s : Sym, ds = dSym s := by
  simp only [shSym, HasL, HasS] at h
  obtain ⟨_, _, rfl, ⟨b, rfl⟩, _, _, rfl, ⟨n, rfl⟩, rfl⟩ := h
  exact ⟨⟨b, n⟩, rfl⟩
theorem reach_le {l : List Nat} (h : l.all (· ≤ reachBytes) = true) : ∀ x ∈ l, x ≤ 140737488355328 := fun x hx => by
  have := List.all_eq_true.1 h x hx
  have h2 := reachBytes_lt
  simp only [decide_eq_true_eq] at this
  omega

theorem has_int {L : Nat} {k : IntKind} {ds : List DVal} (h : HasL L [.i k] ds) : ∃ n : Int, ds = [.int k n] := by
  simp only [HasL, HasS] at h
  obtain ⟨_, _, rfl, ⟨n, rfl⟩, rfl⟩ := h
  exact ⟨n, rfl⟩
end Go.Proofs.Ytnmbgbeajacpfaa
end

section
/- Shapes of automata's argument types. -/


set_option linter.unusedSimpArgs false
set_option linter.unusedVariables false
namespace Go.Proofs.Ytnmbgbeajacpfaa
open Go Go.Dm
open Go.ChangeShapes Go.WideShapes Go.ChangeAt Go.RowKit

def shNum : List Sh := [.i .i64]
def shArc : List Sh := [.i .i64, .b, .i .i64, .i .i64]
def shAuto : List Sh := [.i .i64, .sl 1 8 shNum, .sl 4 32 shArc]
theorem has_num {L : Nat} {ds : List DVal} (h : HasL L shNum ds) : ∃ n : Int, ds = dNum n := has_int h
theorem has_arc {L : Nat} {ds : List DVal} (h : HasL L shArc ds) : ∃ x : Arc, ds = dArc x := by
  simp only [shArc, HasL, HasS] at h
  obtain ⟨_, _, rfl, ⟨a, rfl⟩, _, _, rfl, ⟨b, rfl⟩, _, _, rfl, ⟨n, rfl⟩, _, _, rfl, ⟨t, rfl⟩, rfl⟩ := h
  exact ⟨⟨a, ⟨b, n⟩, t⟩, rfl⟩
theorem has_auto {L : Nat} {ds : List DVal} (h : HasL L shAuto ds) : ∃ a : Auto, ds = dAuto a := by
  simp only [shAuto, HasL, HasS] at h
  obtain ⟨_, _, rfl, ⟨n, rfl⟩, _, _, rfl, ⟨e1, rfl, z1, h1⟩, _, _, rfl, ⟨e2, rfl, z2, h2⟩, rfl⟩ := h
  obtain ⟨l1, rfl⟩ := rows_form (fun e h => has_num (h1 e h))
  obtain ⟨l2, rfl⟩ := rows_form (fun e h => has_arc (h2 e h))
  exact ⟨⟨n, l1, l2⟩, rfl⟩
theorem has_nums {L : Nat} {ds : List DVal} (h : HasL L [.sl 1 8 shNum] ds) : ∃ l : List Int, ds = [dNums l] := by
  simp only [HasL, HasS] at h
  obtain ⟨_, _, rfl, ⟨e1, rfl, z1, h1⟩, rfl⟩ := h
  obtain ⟨l1, rfl⟩ := rows_form (fun e h => has_num (h1 e h))
  exact ⟨l1, rfl⟩
theorem has_syms {L : Nat} {ds : List DVal} (h : HasL L [.sl 2 16 shSym] ds) : ∃ l : List Sym, ds = [dSyms l] := by
  simp only [HasL, HasS] at h
  obtain ⟨_, _, rfl, ⟨e1, rfl, z1, h1⟩, rfl⟩ := h
  obtain ⟨l1, rfl⟩ := rows_form (fun e h => has_sym (h1 e h))
  exact ⟨l1, rfl⟩
end Go.Proofs.Ytnmbgbeajacpfaa
end

section
/- box.Has, and 'BoxHas' -/

set_option linter.unusedSimpArgs false
set_option linter.unusedVariables false
namespace Go.Proofs.Ytnmbgbeajacpfaa
open Go Go.Dm
attribute [local irreducible] DW callP callS
set_option maxRecDepth 100000

def anBX837 : Ann := ⟨[], []⟩
/-- IndexFunc at int: the first one that the closure says yes to -/
theorem indexFuncI_pure (g : FuncId) (us cs : List DVal) (l : List Int) (q : Int → Bool) (hq : ∀ x ∈ l, DPure Try.prog g (us ++ [.int .i64 x] ++ cs) (.bool (q x))) :
    DPure Try.prog 37 [dNums l, .fn (.func g) us cs] (.int .i64 (if l.any q then ((l.findIdx q : Nat) : Int) else -1)) := by
  refine DPure_introF [] (fn := Try.f37) Try.func37 rfl Try.call37 (by simp [Try.ntmps37]) (by simp [mx]) ?_
  intro hwf B hnt
  simp only [Try.ntmps37] at hnt
  have hw := len_nums hwf.1
  clear hwf
  simp only [argS]
  (repeat (first | refine DW_seq fun K hK => ?_ | (refine DW_r anBX837 Try.mixed (by kernel_rfl) ?_; simp [anBX837, hnt]; try simp (disch := omega) only [wrap64_in]) | refine DW_block ?_ | (refine DW_if ?_ ?_ ?_; (· (simp [hnt]; done)); (try (rotate_left; (· (intro hc; (try simp [hnt] at hc); done))))) | (refine DW_ret ?_; simp [Try.results37, hnt]) | ((first | refine DW_exit ?_ | refine DW_skip ?_); simp [hnt]) | (intro hc; (try simp [hnt] at hc); (try (exfalso; omega))) | (refine ⟨?_, ?_⟩; · omega) | omega | apply_assumption -exfalso -symm | (exfalso; omega)))
  refine DW_loop (X := {k : Nat // k ≤ l.length ∧ ∀ i x, i < k → l[i]? = some x → q x = false}) (fun x => ⟨[(0, dNums l), (1, .fn (.func g) us cs), (7, .int .i64 l.length), (8, .int .i64 x.1)], []⟩) (fun x => l.length - x.1) ⟨0, by simp⟩ (Sub.lit (by simp)) ?_
  rintro ⟨k, hk, hno⟩
  by_cases hlt : k < l.length
  · obtain ⟨x, hx, hx', hxm⟩ := at_lt' hlt
    have hqx := hq x hxm
    simp only [List.append_assoc, List.cons_append, List.nil_append] at hqx
    cases hb : q x
    · rw [hb] at hqx
      have hno' : ∀ i y, i < k + 1 → l[i]? = some y → q y = false := by
        intro i y hi hy
        by_cases hik : i = k
        · subst hik; rw [hx] at hy; simp only [Option.some.injEq] at hy; subst hy; exact hb
        · exact hno i y (by omega) hy
      (repeat (first | refine DW_seq fun K hK => ?_ | (refine DW_r anBX837 Try.mixed (by kernel_rfl) ?_; simp [anBX837, hnt, dNum, hlt, hx']; try simp (disch := omega) only [wrap64_in]) | refine DW_block ?_ | (refine DW_if ?_ ?_ ?_; (· (simp [hnt, dNum, hlt, hx']; done)); (try (rotate_left; (· (intro hc; (try simp [hnt, dNum, hlt, hx'] at hc); done))))) | (refine DW_ret ?_; simp [Try.results37, hnt, dNum, hlt, hx']) | ((first | refine DW_exit ?_ | refine DW_skip ?_); simp [hnt, dNum, hlt, hx']) | (intro hc; (try simp [hnt, dNum, hlt, hx'] at hc); (try (exfalso; omega))) | ((first | refine callP_mk (hqx) ?_ | (refine callP_wk (hqx) ?_ ?_; (· (simp; done)))); try simp [hnt, dNum, hlt, hx']) | (refine ⟨?_, ?_⟩; · omega) | omega | apply_assumption -exfalso -symm | (exfalso; omega)))
      exact Again.mk ⟨k + 1, by omega, hno'⟩ (Sub.lit (by simp [])) (by simp; omega)
      (repeat (first | refine DW_seq fun K hK => ?_ | (refine DW_r anBX837 Try.mixed (by kernel_rfl) ?_; simp [anBX837, hnt, dNum, hlt, hx']; try simp (disch := omega) only [wrap64_in]) | refine DW_block ?_ | (refine DW_if ?_ ?_ ?_; (· (simp [hnt, dNum, hlt, hx']; done)); (try (rotate_left; (· (intro hc; (try simp [hnt, dNum, hlt, hx'] at hc); done))))) | (refine DW_ret ?_; simp [Try.results37, hnt, dNum, hlt, hx']) | ((first | refine DW_exit ?_ | refine DW_skip ?_); simp [hnt, dNum, hlt, hx']) | (intro hc; (try simp [hnt, dNum, hlt, hx'] at hc); (try (exfalso; omega))) | ((first | refine callP_mk (hqx) ?_ | (refine callP_wk (hqx) ?_ ?_; (· (simp; done)))); try simp [hnt, dNum, hlt, hx']) | (refine ⟨?_, ?_⟩; · omega) | omega | apply_assumption -exfalso -symm | (exfalso; omega)))
    · rw [hb] at hqx
      have hany : l.any q = true := List.any_eq_true.2 ⟨x, hxm, hb⟩
      have hidx : l.findIdx q = k := by
        rw [List.findIdx_eq hlt]
        refine ⟨by rw [hx']; exact hb, fun i hi => ?_⟩
        exact hno i _ hi (List.getElem?_eq_getElem (by omega))
      (repeat (first | refine DW_seq fun K hK => ?_ | (refine DW_r anBX837 Try.mixed (by kernel_rfl) ?_; simp [anBX837, hnt, dNum, hlt, hx', hany, hidx]; try simp (disch := omega) only [wrap64_in]) | refine DW_block ?_ | (refine DW_if ?_ ?_ ?_; (· (simp [hnt, dNum, hlt, hx', hany, hidx]; done)); (try (rotate_left; (· (intro hc; (try simp [hnt, dNum, hlt, hx', hany, hidx] at hc); done))))) | (refine DW_ret ?_; simp [Try.results37, hnt, dNum, hlt, hx', hany, hidx]) | ((first | refine DW_exit ?_ | refine DW_skip ?_); simp [hnt, dNum, hlt, hx', hany, hidx]) | (intro hc; (try simp [hnt, dNum, hlt, hx', hany, hidx] at hc); (try (exfalso; omega))) | ((first | refine callP_mk (hqx) ?_ | (refine callP_wk (hqx) ?_ ?_; (· (simp; done)))); try simp [hnt, dNum, hlt, hx', hany, hidx]) | (refine ⟨?_, ?_⟩; · omega) | omega | apply_assumption -exfalso -symm | (exfalso; omega)))
  · have hkk : k = l.length := by omega
    have hany : l.any q = false := by
      rw [List.any_eq_false]
      intro x hx
      obtain ⟨i, hi, rfl⟩ := List.getElem_of_mem hx
      rw [hno i _ (by omega) (List.getElem?_eq_getElem hi)]
      simp
    (repeat (first | refine DW_seq fun K hK => ?_ | (refine DW_r anBX837 Try.mixed (by kernel_rfl) ?_; simp [anBX837, hnt, dNum, hkk, hany]; try simp (disch := omega) only [wrap64_in]) | refine DW_block ?_ | (refine DW_if ?_ ?_ ?_; (· (simp [hnt, dNum, hkk, hany]; done)); (try (rotate_left; (· (intro hc; (try simp [hnt, dNum, hkk, hany] at hc); done))))) | (refine DW_ret ?_; simp [Try.results37, hnt, dNum, hkk, hany]) | ((first | refine DW_exit ?_ | refine DW_skip ?_); simp [hnt, dNum, hkk, hany]) | (intro hc; (try simp [hnt, dNum, hkk, hany] at hc); (try (exfalso; omega))) | ((first | refine callP_mk (hqx) ?_ | (refine callP_wk (hqx) ?_ ?_; (· (simp; done)))); try simp [hnt, dNum, hkk, hany]) | (refine ⟨?_, ?_⟩; · omega) | omega | apply_assumption -exfalso -symm | (exfalso; omega)))

def anBX820 : Ann := ⟨[], []⟩
theorem containsFuncI_pure (g : FuncId) (us cs : List DVal) (l : List Int) (q : Int → Bool) (hq : ∀ x ∈ l, DPure Try.prog g (us ++ [.int .i64 x] ++ cs) (.bool (q x))) :
    DPure Try.prog 20 [dNums l, .fn (.func g) us cs] (.bool (l.any q)) := by
  refine DPure_introF [] (fn := Try.f20) Try.func20 rfl Try.call20 (by simp [Try.ntmps20]) (by simp [mx]) ?_
  intro hwf B hnt
  simp only [Try.ntmps20] at hnt
  simp only [argS]
  have hi := indexFuncI_pure g us cs l q hq
  have hge : (0 : Int) ≤ (l.findIdx q : Nat) := by omega
  cases hb : l.any q
  · rw [hb] at hi
    (repeat (first | refine DW_seq fun K hK => ?_ | (refine DW_r anBX820 Try.mixed (by kernel_rfl) ?_; simp [anBX820, hnt, hb]; try simp (disch := omega) only [wrap64_in]) | refine DW_block ?_ | (refine DW_if ?_ ?_ ?_; (· (simp [hnt, hb]; done)); (try (rotate_left; (· (intro hc; (try simp [hnt, hb] at hc); done))))) | (refine DW_ret ?_; simp [Try.results20, hnt, hb]) | ((first | refine DW_exit ?_ | refine DW_skip ?_); simp [hnt, hb]) | (intro hc; (try simp [hnt, hb] at hc); (try (exfalso; omega))) | ((first | refine callP_mk (hi) ?_ | (refine callP_wk (hi) ?_ ?_; (· (simp; done)))); try simp [hnt, hb]) | (refine ⟨?_, ?_⟩; · omega) | omega | apply_assumption -exfalso -symm | (exfalso; omega)))
  · rw [hb] at hi
    (repeat (first | refine DW_seq fun K hK => ?_ | (refine DW_r anBX820 Try.mixed (by kernel_rfl) ?_; simp [anBX820, hnt, hb]; try simp (disch := omega) only [wrap64_in]) | refine DW_block ?_ | (refine DW_if ?_ ?_ ?_; (· (simp [hnt, hb]; done)); (try (rotate_left; (· (intro hc; (try simp [hnt, hb] at hc); done))))) | (refine DW_ret ?_; simp [Try.results20, hnt, hb]) | ((first | refine DW_exit ?_ | refine DW_skip ?_); simp [hnt, hb]) | (intro hc; (try simp [hnt, hb] at hc); (try (exfalso; omega))) | ((first | refine callP_mk (hi) ?_ | (refine callP_wk (hi) ?_ ?_; (· (simp; done)))); try simp [hnt, hb]) | (refine ⟨?_, ?_⟩; · omega) | omega | apply_assumption -exfalso -symm | (exfalso; omega)))

def anBX821 : Ann := ⟨[], []⟩
theorem has21_pure (S : List Bool) (q : Int) (h0 : 0 ≤ q) (h1 : q.toNat < S.length) : DPure Try.prog 21 [.int .i64 q, .ref [dBls S]] (.bool (bAt S q)) := by
  obtain ⟨v, rfl⟩ : ∃ v : Nat, q = (v : Int) := ⟨q.toNat, by omega⟩
  rw [Int.toNat_natCast] at h1
  obtain ⟨b, hb, hb', _⟩ := at_lt' h1
  rw [bAt_nat hb]
  refine DPure_introF [] (fn := Try.f21) Try.func21 rfl Try.call21 (by simp [Try.ntmps21]) (by simp [mx]) ?_
  intro hwf B hnt
  simp only [Try.ntmps21] at hnt
  simp only [argS]
  (repeat (first | refine DW_seq fun K hK => ?_ | (refine DW_r anBX821 Try.mixed (by kernel_rfl) ?_; simp [anBX821, hnt, h1, hb, hb', dBl]; try simp (disch := omega) only [wrap64_in]) | refine DW_block ?_ | (refine DW_if ?_ ?_ ?_; (· (simp [hnt, h1, hb, hb', dBl]; done)); (try (rotate_left; (· (intro hc; (try simp [hnt, h1, hb, hb', dBl] at hc); done))))) | (refine DW_ret ?_; simp [Try.results21, hnt, h1, hb, hb', dBl]) | ((first | refine DW_exit ?_ | refine DW_skip ?_); simp [hnt, h1, hb, hb', dBl]) | (intro hc; (try simp [hnt, h1, hb, hb', dBl] at hc); (try (exfalso; omega))) | (refine ⟨?_, ?_⟩; · omega) | omega | apply_assumption -exfalso -symm | (exfalso; omega)))

/-- the states behind a word -/
def begB (a : Auto) : List Bool := (List.replicate a.st.toNat false).set 0 true
def hasK (a : Auto) (w : List Sym) (k : Nat) : List Bool := (w.take k).foldl (fun S s => stepF a S s) (begB a)
def hasF (a : Auto) (w : List Sym) : List Bool := hasK a w w.length
theorem foldH_len (a : Auto) : ∀ (w : List Sym) (S : List Bool), S.length = a.st.toNat → (w.foldl (fun S s => stepF a S s) S).length = a.st.toNat
  | [], _, h => h
  | s :: w, S, _ => foldH_len a w _ (stepF_len a S s)
theorem hasK_len (a : Auto) (w : List Sym) (k : Nat) : (hasK a w k).length = a.st.toNat := foldH_len a _ _ (by simp [begB])
theorem hasK_next {a : Auto} {w : List Sym} {k : Nat} {s : Sym} (h : w[k]? = some s) : hasK a w (k + 1) = stepF a (hasK a w k) s := by
  unfold hasK
  rw [List.take_add_one, h, List.foldl_append]
  rfl
theorem hasK_zero (a : Auto) (w : List Sym) : hasK a w 0 = begB a := rfl
theorem begB_D (a : Auto) : (List.replicate a.st.toNat [DVal.bool false]).set 0 [.bool true] = (begB a).map dBl := by
  have := bD_set (List.replicate a.st.toNat false) 0 true
  rw [bD_rep] at this
  exact this
def isIn (a : Auto) (w : List Sym) : Bool := a.fin.any (bAt (hasF a w))
def hasR (a : Auto) (w : List Sym) : Bool := autoOK a && decide (w.length ≤ 64) && isIn a w
def hasE (a : Auto) (w : List Sym) : Int := if autoOK a then (if w.length ≤ 64 then 0 else 3) else 200
theorem len_syms {l : List Sym} (h : wfD (dSyms l)) : l.length < 9223372036854775807 := by
  simp only [wfD, List.length_map] at h
  omega

def anBX812 : Ann := ⟨[], [⟨6, [19], [], []⟩, ⟨9, [8], [], []⟩]⟩
set_option maxHeartbeats 4000000 in
theorem has12_pure (a : Auto) (w : List Sym) : DPure Try.prog 12 [.agg (dAuto a), dSyms w] (.tup [.bool (hasR a w), .int .i64 (hasE a w)]) := by
  refine DPure_introF [] (fn := Try.f12) Try.func12 rfl Try.call12 (by simp [Try.ntmps12]) (by simp [mx]) ?_
  intro hwf B hnt
  simp only [Try.ntmps12] at hnt
  have hwl := len_syms hwf.2.1
  clear hwf
  simp only [argS]
  have c1 := check7_pure a
  unfold hasR hasE
  cases hok : autoOK a
  · rw [hok] at c1
    simp only [dAuto] at c1
    (repeat (first | refine DW_seq fun K hK => ?_ | (refine DW_r anBX812 Try.mixed (by kernel_rfl) ?_; simp [anBX812, hnt, dAuto]; try simp (disch := omega) only [wrap64_in]) | refine DW_block ?_ | (refine DW_if ?_ ?_ ?_; (· (simp [hnt, dAuto]; done)); (try (rotate_left; (· (intro hc; (try simp [hnt, dAuto] at hc); done))))) | (refine DW_ret ?_; simp [Try.results12, hnt, dAuto]) | ((first | refine DW_exit ?_ | refine DW_skip ?_); simp [hnt, dAuto]) | (intro hc; (try simp [hnt, dAuto] at hc); (try (exfalso; omega))) | ((first | refine callP_mk (c1) ?_ | (refine callP_wk (c1) ?_ ?_; (· (simp; done)))); try simp [hnt, dAuto]) | (refine ⟨?_, ?_⟩; · omega) | omega | apply_assumption -exfalso -symm | (exfalso; omega)))
  by_cases hlen : w.length ≤ 64
  · obtain ⟨hs1, hs2⟩ := ok_st hok
    have hst0 : 0 ≤ a.st := by omega
    have hst1 : a.st ≤ 150000000000000 := by omega
    have hst2 : a.st ≤ 9223372036854775807 := by omega
    have hst3 : 0 < a.st := by omega
    have hst4 : 0 < a.st.toNat := by omega
    have hlen' : ¬ (64 : Int) < (w.length : Int) := by omega
    rw [hok] at c1
    simp only [dAuto] at c1
    have c2 : DPure Try.prog 20 [dNums a.fin, .fn (.func 21) [] [.ref [dBls (hasF a w)]]] (.bool (isIn a w)) := containsFuncI_pure _ _ _ a.fin _ fun x hx => by
      obtain ⟨h1, h2⟩ := ok_fin hok hx
      exact has21_pure (hasF a w) x h1 (by unfold hasF; rw [hasK_len]; omega)
    (repeat (first | refine DW_seq fun K hK => ?_ | (refine DW_r anBX812 Try.mixed (by kernel_rfl) ?_; simp [anBX812, hnt, dAuto, hst0, hst1, hst2, hst3, hst4, hlen, hlen', mx_rep]; try simp (disch := omega) only [wrap64_in]) | refine DW_block ?_ | (refine DW_if ?_ ?_ ?_; (· (simp [hnt, dAuto, hst0, hst1, hst2, hst3, hst4, hlen, hlen', mx_rep]; done)); (try (rotate_left; (· (intro hc; (try simp [hnt, dAuto, hst0, hst1, hst2, hst3, hst4, hlen, hlen', mx_rep] at hc); done))))) | (refine DW_ret ?_; simp [Try.results12, hnt, dAuto, hst0, hst1, hst2, hst3, hst4, hlen, hlen', mx_rep]) | ((first | refine DW_exit ?_ | refine DW_skip ?_); simp [hnt, dAuto, hst0, hst1, hst2, hst3, hst4, hlen, hlen', mx_rep]) | (intro hc; (try simp [hnt, dAuto, hst0, hst1, hst2, hst3, hst4, hlen, hlen', mx_rep] at hc); (try (exfalso; omega))) | ((first | refine callP_mk (c1) ?_ | (refine callP_wk (c1) ?_ ?_; (· (simp; done)))); try simp [hnt, dAuto, hst0, hst1, hst2, hst3, hst4, hlen, hlen', mx_rep]) | (refine ⟨?_, ?_⟩; · omega) | omega | apply_assumption -exfalso -symm | (exfalso; omega)))
    refine DW_loop (X := {k : Nat // k ≤ w.length}) (fun k => ⟨[(2, .ref [.int .i64 a.st, dNums a.fin, dArcs a.arcs]), (6, .bx 6 1 0), (22, dSyms w), (23, .int .i64 w.length), (24, .int .i64 k.1)], [⟨6, 1, .box [dBls (hasK a w k.1)]⟩]⟩) (fun k => w.length - k.1) ⟨0, by simp⟩ (Sub.lit (by simp [hasK_zero, begB_D])) ?_
    rintro ⟨k, hk⟩
    simp only
    by_cases hlt : k < w.length
    · obtain ⟨s, hs, hs', _⟩ := at_lt' hlt
      have c3 := step19_pure a (hasK a w k) s hok (hasK_len a w k)
      have hnx := hasK_next (a := a) hs
      rw [← hnx] at c3
      simp only [dAuto, dSym] at c3
      (repeat (first | refine DW_seq fun K hK => ?_ | (refine DW_r anBX812 Try.mixed (by kernel_rfl) ?_; simp [anBX812, hnt, dSym, hlt, hs', hs]; try simp (disch := omega) only [wrap64_in]) | refine DW_block ?_ | (refine DW_if ?_ ?_ ?_; (· (simp [hnt, dSym, hlt, hs', hs]; done)); (try (rotate_left; (· (intro hc; (try simp [hnt, dSym, hlt, hs', hs] at hc); done))))) | (refine DW_ret ?_; simp [Try.results12, hnt, dSym, hlt, hs', hs]) | ((first | refine DW_exit ?_ | refine DW_skip ?_); simp [hnt, dSym, hlt, hs', hs]) | (intro hc; (try simp [hnt, dSym, hlt, hs', hs] at hc); (try (exfalso; omega))) | ((first | refine callP_mk (c3) ?_ | (refine callP_wk (c3) ?_ ?_; (· (simp; done)))); try simp [hnt, dSym, hlt, hs', hs]) | (refine ⟨?_, ?_⟩; · omega) | omega | apply_assumption -exfalso -symm | (exfalso; omega)))
      refine Again.mk ⟨k + 1, by omega⟩ (Sub.lit (by simp)) (by simp; omega)
      (repeat (first | refine DW_seq fun K hK => ?_ | (refine DW_r anBX812 Try.mixed (by kernel_rfl) ?_; simp [anBX812, hnt]; try simp (disch := omega) only [wrap64_in]) | refine DW_block ?_ | (refine DW_if ?_ ?_ ?_; (· (simp [hnt]; done)); (try (rotate_left; (· (intro hc; (try simp [hnt] at hc); done))))) | (refine DW_ret ?_; simp [Try.results12, hnt]) | ((first | refine DW_exit ?_ | refine DW_skip ?_); simp [hnt]) | (intro hc; (try simp [hnt] at hc); (try (exfalso; omega))) | ((first | refine callP_mk (c3) ?_ | (refine callP_wk (c3) ?_ ?_; (· (simp; done)))); try simp [hnt]) | (refine ⟨?_, ?_⟩; · omega) | omega | apply_assumption -exfalso -symm | (exfalso; omega)))
    · have hkk : k = w.length := by omega
      subst hkk
      refine DW_sub (Sub.freezeL [6] _) ?_
      simp
      (repeat (first | refine DW_seq fun K hK => ?_ | (refine DW_r anBX812 Try.mixed (by kernel_rfl) ?_; simp [anBX812, hnt, hlen, hasF]; try simp (disch := omega) only [wrap64_in]) | refine DW_block ?_ | (refine DW_if ?_ ?_ ?_; (· (simp [hnt, hlen, hasF]; done)); (try (rotate_left; (· (intro hc; (try simp [hnt, hlen, hasF] at hc); done))))) | (refine DW_ret ?_; simp [Try.results12, hnt, hlen, hasF]) | ((first | refine DW_exit ?_ | refine DW_skip ?_); simp [hnt, hlen, hasF]) | (intro hc; (try simp [hnt, hlen, hasF] at hc); (try (exfalso; omega))) | ((first | refine callP_mk (c2) ?_ | (refine callP_wk (c2) ?_ ?_; (· (simp; done)))); try simp [hnt, hlen, hasF]) | (refine ⟨?_, ?_⟩; · omega) | omega | apply_assumption -exfalso -symm | (exfalso; omega)))
  · rw [hok] at c1
    simp only [dAuto] at c1
    have hlen' : (64 : Int) < (w.length : Int) := by omega
    (repeat (first | refine DW_seq fun K hK => ?_ | (refine DW_r anBX812 Try.mixed (by kernel_rfl) ?_; simp [anBX812, hnt, dAuto, hlen, hlen']; try simp (disch := omega) only [wrap64_in]) | refine DW_block ?_ | (refine DW_if ?_ ?_ ?_; (· (simp [hnt, dAuto, hlen, hlen']; done)); (try (rotate_left; (· (intro hc; (try simp [hnt, dAuto, hlen, hlen'] at hc); done))))) | (refine DW_ret ?_; simp [Try.results12, hnt, dAuto, hlen, hlen']) | ((first | refine DW_exit ?_ | refine DW_skip ?_); simp [hnt, dAuto, hlen, hlen']) | (intro hc; (try simp [hnt, dAuto, hlen, hlen'] at hc); (try (exfalso; omega))) | ((first | refine callP_mk (c1) ?_ | (refine callP_wk (c1) ?_ ?_; (· (simp; done)))); try simp [hnt, dAuto, hlen, hlen']) | (refine ⟨?_, ?_⟩; · omega) | omega | apply_assumption -exfalso -symm | (exfalso; omega)))
end Go.Proofs.Ytnmbgbeajacpfaa
end

