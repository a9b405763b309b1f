/- Parts of a proof, laid together: BX2, BX3, BX5, EnU, PB, PX. -/
import Derived.SizedLaws
import Derived.ProofKit
import Derived.OpenShut
import Derived.Carry
import Derived.Test.YtnmbgbeajacpfaaRows
import Derived.Test.YtnmbgbeajacpfaaqBC6
section
/- may an automaton be? the program's answer -/

set_option linter.unusedSimpArgs false
set_option linter.unusedVariables false
namespace Go.Proofs.Ytnmbgbeajacpfaa
open Go Go.Dm
attribute [local irreducible] DW callP callS
set_option maxRecDepth 100000

def anBX27 : Ann := ⟨[], [⟨10, [8], [], []⟩]⟩
set_option maxHeartbeats 4000000 in
theorem check7_pure (a : Auto) : DPure Try.prog 7 [.agg (dAuto a)] (.int .i64 (if autoOK a then 0 else 200)) := by
  refine DPure_introF [] (fn := Try.f7) Try.func7 rfl Try.call7 (by simp [Try.ntmps7]) (by simp [mx]) ?_
  intro hwf B hnt
  simp only [Try.ntmps7] at hnt
  obtain ⟨_, hw2, hw3⟩ := w_auto (a := a) (by simpa only [wfL, wfD, and_true] using hwf)
  clear hwf
  have hn1 : (-1 : Int).toNat = 0 := rfl
  have hn2 : IntKind.i64.wrap (-1) = -1 := wrap64_in (by omega) (by omega)
  simp only [argS]
  obtain ⟨b0, hb0⟩ : ∃ b0 : Bool, b0 = (decide (1 ≤ a.st) && decide (a.st ≤ 65)) := ⟨_, rfl⟩
  have hfin : autoOK a = (b0 && ((List.range a.fin.length).all (okF a.st a.fin) && (List.range a.arcs.length).all (okA a.st a.arcs))) := by rw [hb0]; rfl
  (repeat (first | refine DW_seq fun K hK => ?_ | (refine DW_r anBX27 Try.mixed (by kernel_rfl) ?_; simp [anBX27, hnt, dAuto]; try simp (disch := omega) only [wrap64_in]) | refine DW_block ?_ | (refine DW_if ?_ ?_ ?_; (· (simp [hnt, dAuto]; done)); (try (rotate_left; (· (intro hc; (try simp [hnt, dAuto] at hc); done))))) | (refine DW_ret ?_; simp [Try.results7, hnt, dAuto]) | ((first | refine DW_exit ?_ | refine DW_skip ?_); simp [hnt, dAuto]) | (intro hc; (try simp [hnt, dAuto] at hc); (try (exfalso; omega))) | (refine ⟨?_, ?_⟩; · omega) | omega | apply_assumption -exfalso -symm | (exfalso; omega)))
  refine DW_loop (X := {k : Nat // k ≤ a.fin.length}) (fun k => ⟨[(1, .ref [.int .i64 a.st, dNums a.fin, dArcs a.arcs]), (3, .fn (.func 15) [] [.ref [.int .i64 a.st, dNums a.fin, dArcs a.arcs]]), (4, .bool (b0 && (List.range k.1).all (okF a.st a.fin))), (19, dNums a.fin), (20, .int .i64 a.fin.length), (21, .int .i64 k.1)], []⟩) (fun k => a.fin.length - k.1) ⟨0, by simp⟩ (Sub.lit (by simp [hb0])) ?_
  rintro ⟨k, hk⟩
  simp only
  by_cases hlt : k < a.fin.length
  · obtain ⟨q, hq, hq', hqm⟩ := at_lt' hlt
    have hst := range_all_succ (n := k) (okF a.st a.fin)
    obtain ⟨b, hb⟩ : ∃ b : Bool, b = (b0 && (List.range k).all (okF a.st a.fin)) := ⟨_, rfl⟩
    have hb1 : (b0 && (List.range (k + 1)).all (okF a.st a.fin)) = (b && okF a.st a.fin k) := by rw [hst, hb, Bool.and_assoc]
    have e1 := state15_pure a q
    simp only [dAuto] at e1
    simp only [← hb]
    cases k with
    | zero =>
      have ho := okF_zero (s := a.st) hq
      rw [ho] at hb1
      cases b <;> (repeat (first | refine DW_seq fun K hK => ?_ | (refine DW_r anBX27 Try.mixed (by kernel_rfl) ?_; simp [anBX27, hnt, dNum, hlt, hq', hn1, hn2, hq]; try simp (disch := omega) only [wrap64_in]) | refine DW_block ?_ | (refine DW_if ?_ ?_ ?_; (· (simp [hnt, dNum, hlt, hq', hn1, hn2, hq]; done)); (try (rotate_left; (· (intro hc; (try simp [hnt, dNum, hlt, hq', hn1, hn2, hq] at hc); done))))) | (refine DW_ret ?_; simp [Try.results7, hnt, dNum, hlt, hq', hn1, hn2, hq]) | ((first | refine DW_exit ?_ | refine DW_skip ?_); simp [hnt, dNum, hlt, hq', hn1, hn2, hq]) | (intro hc; (try simp [hnt, dNum, hlt, hq', hn1, hn2, hq] at hc); (try (exfalso; omega))) | ((first | refine callP_mk (e1) ?_ | (refine callP_wk (e1) ?_ ?_; (· (simp; done)))); try simp [hnt, dNum, hlt, hq', hn1, hn2, hq]) | (refine ⟨?_, ?_⟩; · omega) | omega | apply_assumption -exfalso -symm | (exfalso; omega)))
      all_goals
        refine Again.mk ⟨0 + 1, by omega⟩ (Sub.lit (by simp only [hb1]; simp)) (by simp; omega)
      (repeat (first | refine DW_seq fun K hK => ?_ | (refine DW_r anBX27 Try.mixed (by kernel_rfl) ?_; simp [anBX27, hnt]; try simp (disch := omega) only [wrap64_in]) | refine DW_block ?_ | (refine DW_if ?_ ?_ ?_; (· (simp [hnt]; done)); (try (rotate_left; (· (intro hc; (try simp [hnt] at hc); done))))) | (refine DW_ret ?_; simp [Try.results7, hnt]) | ((first | refine DW_exit ?_ | refine DW_skip ?_); simp [hnt]) | (intro hc; (try simp [hnt] at hc); (try (exfalso; omega))) | ((first | refine callP_mk (e1) ?_ | (refine callP_wk (e1) ?_ ?_; (· (simp; done)))); try simp [hnt]) | (refine ⟨?_, ?_⟩; · omega) | omega | apply_assumption -exfalso -symm | (exfalso; omega)))
    | succ m =>
      obtain ⟨p, hp, hp', _⟩ := at_lt' (l := a.fin) (k := m) (by omega)
      have ho := okF_pos (s := a.st) (k := m + 1) (by omega) hq hp
      rw [ho] at hb1
      have hm1 : ¬ (m : Int) + 1 = 0 := by omega
      have hm2 : m < a.fin.length := by omega
      have hm5 : (m : Int) + 1 < (a.fin.length : Int) := by omega
      have hm3 : (((m : Int) + 1) == 0) = false := by simpa using hm1
      have hm4 : IntKind.i64.wrap (m : Int) = m := wrap64_in (by omega) (by omega)
      cases b <;> (repeat (first | refine DW_seq fun K hK => ?_ | (refine DW_r anBX27 Try.mixed (by kernel_rfl) ?_; simp [anBX27, hnt, dNum, hlt, hq', hm1, hm2, hm3, hm4, hm5, hp', hp]; try simp (disch := omega) only [wrap64_in]) | refine DW_block ?_ | (refine DW_if ?_ ?_ ?_; (· (simp [hnt, dNum, hlt, hq', hm1, hm2, hm3, hm4, hm5, hp', hp]; done)); (try (rotate_left; (· (intro hc; (try simp [hnt, dNum, hlt, hq', hm1, hm2, hm3, hm4, hm5, hp', hp] at hc); done))))) | (refine DW_ret ?_; simp [Try.results7, hnt, dNum, hlt, hq', hm1, hm2, hm3, hm4, hm5, hp', hp]) | ((first | refine DW_exit ?_ | refine DW_skip ?_); simp [hnt, dNum, hlt, hq', hm1, hm2, hm3, hm4, hm5, hp', hp]) | (intro hc; (try simp [hnt, dNum, hlt, hq', hm1, hm2, hm3, hm4, hm5, hp', hp] at hc); (try (exfalso; omega))) | ((first | refine callP_mk (e1) ?_ | (refine callP_wk (e1) ?_ ?_; (· (simp; done)))); try simp [hnt, dNum, hlt, hq', hm1, hm2, hm3, hm4, hm5, hp', hp]) | (refine ⟨?_, ?_⟩; · omega) | omega | apply_assumption -exfalso -symm | (exfalso; omega)))
      all_goals
        refine Again.mk ⟨m + 1 + 1, by omega⟩ (Sub.lit (by simp only [hb1]; simp)) (by simp; omega)
      (repeat (first | refine DW_seq fun K hK => ?_ | (refine DW_r anBX27 Try.mixed (by kernel_rfl) ?_; simp [anBX27, hnt]; try simp (disch := omega) only [wrap64_in]) | refine DW_block ?_ | (refine DW_if ?_ ?_ ?_; (· (simp [hnt]; done)); (try (rotate_left; (· (intro hc; (try simp [hnt] at hc); done))))) | (refine DW_ret ?_; simp [Try.results7, hnt]) | ((first | refine DW_exit ?_ | refine DW_skip ?_); simp [hnt]) | (intro hc; (try simp [hnt] at hc); (try (exfalso; omega))) | ((first | refine callP_mk (e1) ?_ | (refine callP_wk (e1) ?_ ?_; (· (simp; done)))); try simp [hnt]) | (refine ⟨?_, ?_⟩; · omega) | omega | apply_assumption -exfalso -symm | (exfalso; omega)))
  · have hkk : k = a.fin.length := by omega
    subst hkk
    obtain ⟨b1, hb1⟩ : ∃ b : Bool, b = (b0 && (List.range a.fin.length).all (okF a.st a.fin)) := ⟨_, rfl⟩
    rw [← Bool.and_assoc, ← hb1] at hfin
    rw [← hb1]
    (repeat (first | refine DW_seq fun K hK => ?_ | (refine DW_r anBX27 Try.mixed (by kernel_rfl) ?_; simp [anBX27, hnt]; try simp (disch := omega) only [wrap64_in]) | refine DW_block ?_ | (refine DW_if ?_ ?_ ?_; (· (simp [hnt]; done)); (try (rotate_left; (· (intro hc; (try simp [hnt] at hc); done))))) | (refine DW_ret ?_; simp [Try.results7, hnt]) | ((first | refine DW_exit ?_ | refine DW_skip ?_); simp [hnt]) | (intro hc; (try simp [hnt] at hc); (try (exfalso; omega))) | (refine ⟨?_, ?_⟩; · omega) | omega | apply_assumption -exfalso -symm | (exfalso; omega)))
    refine DW_loop (X := {k : Nat // k ≤ a.arcs.length}) (fun k => ⟨[(1, .ref [.int .i64 a.st, dNums a.fin, dArcs a.arcs]), (3, .fn (.func 15) [] [.ref [.int .i64 a.st, dNums a.fin, dArcs a.arcs]]), (4, .bool (b1 && (List.range k.1).all (okA a.st a.arcs))), (48, dArcs a.arcs), (49, .int .i64 a.arcs.length), (50, .int .i64 k.1)], []⟩) (fun k => a.arcs.length - k.1) ⟨0, by simp⟩ (Sub.lit (by simp)) ?_
    rintro ⟨k, hk⟩
    simp only
    by_cases hlt : k < a.arcs.length
    · obtain ⟨x, hq, hq', hqm⟩ := at_lt' hlt
      have hst := range_all_succ (n := k) (okA a.st a.arcs)
      obtain ⟨b, hb⟩ : ∃ b : Bool, b = (b1 && (List.range k).all (okA a.st a.arcs)) := ⟨_, rfl⟩
      have hb2 : (b1 && (List.range (k + 1)).all (okA a.st a.arcs)) = (b && okA a.st a.arcs k) := by rw [hst, hb, Bool.and_assoc]
      have e1 := state15_pure a x.fr
      have e2 := state15_pure a x.to
      simp only [dAuto] at e1 e2
      simp only [← hb]
      cases k with
      | zero =>
        have ho := okA_zero (s := a.st) hq
        rw [ho] at hb2
        unfold arcOK at hb2
        cases b
        · (repeat (first | refine DW_seq fun K hK => ?_ | (refine DW_r anBX27 Try.mixed (by kernel_rfl) ?_; simp [anBX27, hnt, dArc, hlt, hq', hn1, hn2, hq]; try simp (disch := omega) only [wrap64_in]) | refine DW_block ?_ | (refine DW_if ?_ ?_ ?_; (· (simp [hnt, dArc, hlt, hq', hn1, hn2, hq]; done)); (try (rotate_left; (· (intro hc; (try simp [hnt, dArc, hlt, hq', hn1, hn2, hq] at hc); done))))) | (refine DW_ret ?_; simp [Try.results7, hnt, dArc, hlt, hq', hn1, hn2, hq]) | ((first | refine DW_exit ?_ | refine DW_skip ?_); simp [hnt, dArc, hlt, hq', hn1, hn2, hq]) | (intro hc; (try simp [hnt, dArc, hlt, hq', hn1, hn2, hq] at hc); (try (exfalso; omega))) | ((first | refine callP_mk (e1) ?_ | refine callP_mk (e2) ?_ | (refine callP_wk (e1) ?_ ?_; (· (simp; done))) | (refine callP_wk (e2) ?_ ?_; (· (simp; done)))); try simp [hnt, dArc, hlt, hq', hn1, hn2, hq]) | (refine ⟨?_, ?_⟩; · omega) | omega | apply_assumption -exfalso -symm | (exfalso; omega)))
          refine Again.mk ⟨0 + 1, by omega⟩ (Sub.lit (by simp only [hb2]; simp)) (by simp; omega)
          (repeat (first | refine DW_seq fun K hK => ?_ | (refine DW_r anBX27 Try.mixed (by kernel_rfl) ?_; simp [anBX27, hnt]; try simp (disch := omega) only [wrap64_in]) | refine DW_block ?_ | (refine DW_if ?_ ?_ ?_; (· (simp [hnt]; done)); (try (rotate_left; (· (intro hc; (try simp [hnt] at hc); done))))) | (refine DW_ret ?_; simp [Try.results7, hnt]) | ((first | refine DW_exit ?_ | refine DW_skip ?_); simp [hnt]) | (intro hc; (try simp [hnt] at hc); (try (exfalso; omega))) | ((first | refine callP_mk (e1) ?_ | refine callP_mk (e2) ?_ | (refine callP_wk (e1) ?_ ?_; (· (simp; done))) | (refine callP_wk (e2) ?_ ?_; (· (simp; done)))); try simp [hnt]) | (refine ⟨?_, ?_⟩; · omega) | omega | apply_assumption -exfalso -symm | (exfalso; omega)))
        cases hS : stB a.st x.fr <;> rw [hS] at hb2 <;> (repeat (first | refine DW_seq fun K hK => ?_ | (refine DW_r anBX27 Try.mixed (by kernel_rfl) ?_; simp [anBX27, hnt, dArc, hlt, hq', hS, hn1, hn2, hq]; try simp (disch := omega) only [wrap64_in]) | refine DW_block ?_ | (refine DW_if ?_ ?_ ?_; (· (simp [hnt, dArc, hlt, hq', hS, hn1, hn2, hq]; done)); (try (rotate_left; (· (intro hc; (try simp [hnt, dArc, hlt, hq', hS, hn1, hn2, hq] at hc); done))))) | (refine DW_ret ?_; simp [Try.results7, hnt, dArc, hlt, hq', hS, hn1, hn2, hq]) | ((first | refine DW_exit ?_ | refine DW_skip ?_); simp [hnt, dArc, hlt, hq', hS, hn1, hn2, hq]) | (intro hc; (try simp [hnt, dArc, hlt, hq', hS, hn1, hn2, hq] at hc); (try (exfalso; omega))) | ((first | refine callP_mk (e1) ?_ | refine callP_mk (e2) ?_ | (refine callP_wk (e1) ?_ ?_; (· (simp; done))) | (refine callP_wk (e2) ?_ ?_; (· (simp; done)))); try simp [hnt, dArc, hlt, hq', hS, hn1, hn2, hq]) | (refine ⟨?_, ?_⟩; · omega) | omega | apply_assumption -exfalso -symm | (exfalso; omega)))
        all_goals
          refine Again.mk ⟨0 + 1, by omega⟩ (Sub.lit (by simp only [hb2]; simp)) (by simp; omega)
          (repeat (first | refine DW_seq fun K hK => ?_ | (refine DW_r anBX27 Try.mixed (by kernel_rfl) ?_; simp [anBX27, hnt]; try simp (disch := omega) only [wrap64_in]) | refine DW_block ?_ | (refine DW_if ?_ ?_ ?_; (· (simp [hnt]; done)); (try (rotate_left; (· (intro hc; (try simp [hnt] at hc); done))))) | (refine DW_ret ?_; simp [Try.results7, hnt]) | ((first | refine DW_exit ?_ | refine DW_skip ?_); simp [hnt]) | (intro hc; (try simp [hnt] at hc); (try (exfalso; omega))) | ((first | refine callP_mk (e1) ?_ | refine callP_mk (e2) ?_ | (refine callP_wk (e1) ?_ ?_; (· (simp; done))) | (refine callP_wk (e2) ?_ ?_; (· (simp; done)))); try simp [hnt]) | (refine ⟨?_, ?_⟩; · omega) | omega | apply_assumption -exfalso -symm | (exfalso; omega)))
      | succ m =>
        obtain ⟨p, hp, hp', _⟩ := at_lt' (l := a.arcs) (k := m) (by omega)
        have ho := okA_pos (s := a.st) (k := m + 1) (by omega) hq hp
        rw [ho, arcLess_eq] at hb2
        unfold arcOK at hb2
        have hm1 : ¬ (m : Int) + 1 = 0 := by omega
        have hm2 : m < a.arcs.length := by omega
        have hm5 : (m : Int) + 1 < (a.arcs.length : Int) := by omega
        have hm3 : (((m : Int) + 1) == 0) = false := by simpa using hm1
        have hm4 : IntKind.i64.wrap (m : Int) = m := wrap64_in (by omega) (by omega)
        have e3 := order16_pure p x
        simp only [dArc] at e3
        cases b
        · (repeat (first | refine DW_seq fun K hK => ?_ | (refine DW_r anBX27 Try.mixed (by kernel_rfl) ?_; simp [anBX27, hnt, dArc, hlt, hq', hm1, hm2, hm3, hm4, hm5, hp', hp]; try simp (disch := omega) only [wrap64_in]) | refine DW_block ?_ | (refine DW_if ?_ ?_ ?_; (· (simp [hnt, dArc, hlt, hq', hm1, hm2, hm3, hm4, hm5, hp', hp]; done)); (try (rotate_left; (· (intro hc; (try simp [hnt, dArc, hlt, hq', hm1, hm2, hm3, hm4, hm5, hp', hp] at hc); done))))) | (refine DW_ret ?_; simp [Try.results7, hnt, dArc, hlt, hq', hm1, hm2, hm3, hm4, hm5, hp', hp]) | ((first | refine DW_exit ?_ | refine DW_skip ?_); simp [hnt, dArc, hlt, hq', hm1, hm2, hm3, hm4, hm5, hp', hp]) | (intro hc; (try simp [hnt, dArc, hlt, hq', hm1, hm2, hm3, hm4, hm5, hp', hp] at hc); (try (exfalso; omega))) | ((first | refine callP_mk (e1) ?_ | refine callP_mk (e2) ?_ | refine callP_mk (e3) ?_ | (refine callP_wk (e1) ?_ ?_; (· (simp; done))) | (refine callP_wk (e2) ?_ ?_; (· (simp; done))) | (refine callP_wk (e3) ?_ ?_; (· (simp; done)))); try simp [hnt, dArc, hlt, hq', hm1, hm2, hm3, hm4, hm5, hp', hp]) | (refine ⟨?_, ?_⟩; · omega) | omega | apply_assumption -exfalso -symm | (exfalso; omega)))
          refine Again.mk ⟨m + 1 + 1, by omega⟩ (Sub.lit (by simp only [hb2]; simp)) (by simp; omega)
          (repeat (first | refine DW_seq fun K hK => ?_ | (refine DW_r anBX27 Try.mixed (by kernel_rfl) ?_; simp [anBX27, hnt]; try simp (disch := omega) only [wrap64_in]) | refine DW_block ?_ | (refine DW_if ?_ ?_ ?_; (· (simp [hnt]; done)); (try (rotate_left; (· (intro hc; (try simp [hnt] at hc); done))))) | (refine DW_ret ?_; simp [Try.results7, hnt]) | ((first | refine DW_exit ?_ | refine DW_skip ?_); simp [hnt]) | (intro hc; (try simp [hnt] at hc); (try (exfalso; omega))) | ((first | refine callP_mk (e1) ?_ | refine callP_mk (e2) ?_ | refine callP_mk (e3) ?_ | (refine callP_wk (e1) ?_ ?_; (· (simp; done))) | (refine callP_wk (e2) ?_ ?_; (· (simp; done))) | (refine callP_wk (e3) ?_ ?_; (· (simp; done)))); try simp [hnt]) | (refine ⟨?_, ?_⟩; · omega) | omega | apply_assumption -exfalso -symm | (exfalso; omega)))
        cases hS : stB a.st x.fr <;> rw [hS] at hb2
        · (repeat (first | refine DW_seq fun K hK => ?_ | (refine DW_r anBX27 Try.mixed (by kernel_rfl) ?_; simp [anBX27, hnt, dArc, hlt, hq', hS, hm1, hm2, hm3, hm4, hm5, hp', hp]; try simp (disch := omega) only [wrap64_in]) | refine DW_block ?_ | (refine DW_if ?_ ?_ ?_; (· (simp [hnt, dArc, hlt, hq', hS, hm1, hm2, hm3, hm4, hm5, hp', hp]; done)); (try (rotate_left; (· (intro hc; (try simp [hnt, dArc, hlt, hq', hS, hm1, hm2, hm3, hm4, hm5, hp', hp] at hc); done))))) | (refine DW_ret ?_; simp [Try.results7, hnt, dArc, hlt, hq', hS, hm1, hm2, hm3, hm4, hm5, hp', hp]) | ((first | refine DW_exit ?_ | refine DW_skip ?_); simp [hnt, dArc, hlt, hq', hS, hm1, hm2, hm3, hm4, hm5, hp', hp]) | (intro hc; (try simp [hnt, dArc, hlt, hq', hS, hm1, hm2, hm3, hm4, hm5, hp', hp] at hc); (try (exfalso; omega))) | ((first | refine callP_mk (e1) ?_ | refine callP_mk (e2) ?_ | refine callP_mk (e3) ?_ | (refine callP_wk (e1) ?_ ?_; (· (simp; done))) | (refine callP_wk (e2) ?_ ?_; (· (simp; done))) | (refine callP_wk (e3) ?_ ?_; (· (simp; done)))); try simp [hnt, dArc, hlt, hq', hS, hm1, hm2, hm3, hm4, hm5, hp', hp]) | (refine ⟨?_, ?_⟩; · omega) | omega | apply_assumption -exfalso -symm | (exfalso; omega)))
          refine Again.mk ⟨m + 1 + 1, by omega⟩ (Sub.lit (by simp only [hb2]; simp)) (by simp; omega)
          (repeat (first | refine DW_seq fun K hK => ?_ | (refine DW_r anBX27 Try.mixed (by kernel_rfl) ?_; simp [anBX27, hnt]; try simp (disch := omega) only [wrap64_in]) | refine DW_block ?_ | (refine DW_if ?_ ?_ ?_; (· (simp [hnt]; done)); (try (rotate_left; (· (intro hc; (try simp [hnt] at hc); done))))) | (refine DW_ret ?_; simp [Try.results7, hnt]) | ((first | refine DW_exit ?_ | refine DW_skip ?_); simp [hnt]) | (intro hc; (try simp [hnt] at hc); (try (exfalso; omega))) | ((first | refine callP_mk (e1) ?_ | refine callP_mk (e2) ?_ | refine callP_mk (e3) ?_ | (refine callP_wk (e1) ?_ ?_; (· (simp; done))) | (refine callP_wk (e2) ?_ ?_; (· (simp; done))) | (refine callP_wk (e3) ?_ ?_; (· (simp; done)))); try simp [hnt]) | (refine ⟨?_, ?_⟩; · omega) | omega | apply_assumption -exfalso -symm | (exfalso; omega)))
        cases hT : stB a.st x.to <;> rw [hT] at hb2
        · (repeat (first | refine DW_seq fun K hK => ?_ | (refine DW_r anBX27 Try.mixed (by kernel_rfl) ?_; simp [anBX27, hnt, dArc, hlt, hq', hS, hT, hm1, hm2, hm3, hm4, hm5, hp', hp]; try simp (disch := omega) only [wrap64_in]) | refine DW_block ?_ | (refine DW_if ?_ ?_ ?_; (· (simp [hnt, dArc, hlt, hq', hS, hT, hm1, hm2, hm3, hm4, hm5, hp', hp]; done)); (try (rotate_left; (· (intro hc; (try simp [hnt, dArc, hlt, hq', hS, hT, hm1, hm2, hm3, hm4, hm5, hp', hp] at hc); done))))) | (refine DW_ret ?_; simp [Try.results7, hnt, dArc, hlt, hq', hS, hT, hm1, hm2, hm3, hm4, hm5, hp', hp]) | ((first | refine DW_exit ?_ | refine DW_skip ?_); simp [hnt, dArc, hlt, hq', hS, hT, hm1, hm2, hm3, hm4, hm5, hp', hp]) | (intro hc; (try simp [hnt, dArc, hlt, hq', hS, hT, hm1, hm2, hm3, hm4, hm5, hp', hp] at hc); (try (exfalso; omega))) | ((first | refine callP_mk (e1) ?_ | refine callP_mk (e2) ?_ | refine callP_mk (e3) ?_ | (refine callP_wk (e1) ?_ ?_; (· (simp; done))) | (refine callP_wk (e2) ?_ ?_; (· (simp; done))) | (refine callP_wk (e3) ?_ ?_; (· (simp; done)))); try simp [hnt, dArc, hlt, hq', hS, hT, hm1, hm2, hm3, hm4, hm5, hp', hp]) | (refine ⟨?_, ?_⟩; · omega) | omega | apply_assumption -exfalso -symm | (exfalso; omega)))
          refine Again.mk ⟨m + 1 + 1, by omega⟩ (Sub.lit (by simp only [hb2]; simp)) (by simp; omega)
          (repeat (first | refine DW_seq fun K hK => ?_ | (refine DW_r anBX27 Try.mixed (by kernel_rfl) ?_; simp [anBX27, hnt]; try simp (disch := omega) only [wrap64_in]) | refine DW_block ?_ | (refine DW_if ?_ ?_ ?_; (· (simp [hnt]; done)); (try (rotate_left; (· (intro hc; (try simp [hnt] at hc); done))))) | (refine DW_ret ?_; simp [Try.results7, hnt]) | ((first | refine DW_exit ?_ | refine DW_skip ?_); simp [hnt]) | (intro hc; (try simp [hnt] at hc); (try (exfalso; omega))) | ((first | refine callP_mk (e1) ?_ | refine callP_mk (e2) ?_ | refine callP_mk (e3) ?_ | (refine callP_wk (e1) ?_ ?_; (· (simp; done))) | (refine callP_wk (e2) ?_ ?_; (· (simp; done))) | (refine callP_wk (e3) ?_ ?_; (· (simp; done)))); try simp [hnt]) | (refine ⟨?_, ?_⟩; · omega) | omega | apply_assumption -exfalso -symm | (exfalso; omega)))
        by_cases hN : 0 ≤ x.sy.n <;> simp only [hN, decide_true, decide_false] at hb2 <;> (repeat (first | refine DW_seq fun K hK => ?_ | (refine DW_r anBX27 Try.mixed (by kernel_rfl) ?_; simp [anBX27, hnt, dArc, hlt, hq', hS, hT, hN, hm1, hm2, hm3, hm4, hm5, hp', hp]; try simp (disch := omega) only [wrap64_in]) | refine DW_block ?_ | (refine DW_if ?_ ?_ ?_; (· (simp [hnt, dArc, hlt, hq', hS, hT, hN, hm1, hm2, hm3, hm4, hm5, hp', hp]; done)); (try (rotate_left; (· (intro hc; (try simp [hnt, dArc, hlt, hq', hS, hT, hN, hm1, hm2, hm3, hm4, hm5, hp', hp] at hc); done))))) | (refine DW_ret ?_; simp [Try.results7, hnt, dArc, hlt, hq', hS, hT, hN, hm1, hm2, hm3, hm4, hm5, hp', hp]) | ((first | refine DW_exit ?_ | refine DW_skip ?_); simp [hnt, dArc, hlt, hq', hS, hT, hN, hm1, hm2, hm3, hm4, hm5, hp', hp]) | (intro hc; (try simp [hnt, dArc, hlt, hq', hS, hT, hN, hm1, hm2, hm3, hm4, hm5, hp', hp] at hc); (try (exfalso; omega))) | ((first | refine callP_mk (e1) ?_ | refine callP_mk (e2) ?_ | refine callP_mk (e3) ?_ | (refine callP_wk (e1) ?_ ?_; (· (simp; done))) | (refine callP_wk (e2) ?_ ?_; (· (simp; done))) | (refine callP_wk (e3) ?_ ?_; (· (simp; done)))); try simp [hnt, dArc, hlt, hq', hS, hT, hN, hm1, hm2, hm3, hm4, hm5, hp', hp]) | (refine ⟨?_, ?_⟩; · omega) | omega | apply_assumption -exfalso -symm | (exfalso; omega)))
        all_goals
          refine Again.mk ⟨m + 1 + 1, by omega⟩ (Sub.lit (by simp only [hb2]; simp)) (by simp; omega)
          (repeat (first | refine DW_seq fun K hK => ?_ | (refine DW_r anBX27 Try.mixed (by kernel_rfl) ?_; simp [anBX27, hnt]; try simp (disch := omega) only [wrap64_in]) | refine DW_block ?_ | (refine DW_if ?_ ?_ ?_; (· (simp [hnt]; done)); (try (rotate_left; (· (intro hc; (try simp [hnt] at hc); done))))) | (refine DW_ret ?_; simp [Try.results7, hnt]) | ((first | refine DW_exit ?_ | refine DW_skip ?_); simp [hnt]) | (intro hc; (try simp [hnt] at hc); (try (exfalso; omega))) | ((first | refine callP_mk (e1) ?_ | refine callP_mk (e2) ?_ | refine callP_mk (e3) ?_ | (refine callP_wk (e1) ?_ ?_; (· (simp; done))) | (refine callP_wk (e2) ?_ ?_; (· (simp; done))) | (refine callP_wk (e3) ?_ ?_; (· (simp; done)))); try simp [hnt]) | (refine ⟨?_, ?_⟩; · omega) | omega | apply_assumption -exfalso -symm | (exfalso; omega)))
    · have hkk : k = a.arcs.length := by omega
      subst hkk
      rw [← hfin]
      cases hA : autoOK a <;> (repeat (first | refine DW_seq fun K hK => ?_ | (refine DW_r anBX27 Try.mixed (by kernel_rfl) ?_; simp [anBX27, hnt, hA]; try simp (disch := omega) only [wrap64_in]) | refine DW_block ?_ | (refine DW_if ?_ ?_ ?_; (· (simp [hnt, hA]; done)); (try (rotate_left; (· (intro hc; (try simp [hnt, hA] at hc); done))))) | (refine DW_ret ?_; simp [Try.results7, hnt, hA]) | ((first | refine DW_exit ?_ | refine DW_skip ?_); simp [hnt, hA]) | (intro hc; (try simp [hnt, hA] at hc); (try (exfalso; omega))) | (refine ⟨?_, ?_⟩; · omega) | omega | apply_assumption -exfalso -symm | (exfalso; omega)))
end Go.Proofs.Ytnmbgbeajacpfaa
end

section
/- may an automaton be? the document's answer -/

set_option linter.unusedSimpArgs false
set_option linter.unusedVariables false
namespace Go.Proofs.Ytnmbgbeajacpfaa
open Go Go.Dm
attribute [local irreducible] DW callP callS
set_option maxRecDepth 100000

theorem stB_lo {s q : Int} (h : q < 0) : stB s q = false := by unfold stB; simp; omega
theorem stB_hi {s q : Int} (h : s ≤ q) : stB s q = false := by unfold stB; simp; omega
theorem stB_in {s q : Int} (h1 : ¬ q < 0) (h2 : ¬ s ≤ q) : stB s q = true := by unfold stB; simp; omega

def anBX38 : Ann := ⟨[], [⟨12, [6], [], []⟩]⟩
set_option maxHeartbeats 4000000 in
theorem check8_pure (a : Auto) : DPure Try.prog 8 [.agg (dAuto a)] (.int .i64 (if autoOK a then 0 else 200)) := by
  refine DPure_introF [] (fn := Try.f8) Try.func8 rfl Try.call8 (by simp [Try.ntmps8]) (by simp [mx]) ?_
  intro hwf B hnt
  simp only [Try.ntmps8] at hnt
  obtain ⟨_, hw2, hw3⟩ := w_auto (a := a) (by simpa only [wfL, wfD, and_true] using hwf)
  clear hwf
  simp only [argS]
  have hn1 : (-1 : Int).toNat = 0 := rfl
  have hn2 : IntKind.i64.wrap (-1) = -1 := wrap64_in (by omega) (by omega)
  obtain ⟨R, hR⟩ : ∃ R, R = autoOK a := ⟨_, rfl⟩
  rw [← hR]
  by_cases h1 : a.st < 1
  · have hRf : R = false := by rw [hR]; unfold autoOK; rw [decide_eq_false (by omega)]; simp
    subst hRf
    (repeat (first | refine DW_seq fun K hK => ?_ | (refine DW_r anBX38 Try.mixed (by kernel_rfl) ?_; simp [anBX38, hnt, dAuto, h1]; try simp (disch := omega) only [wrap64_in]) | refine DW_block ?_ | (refine DW_if ?_ ?_ ?_; (· (simp [hnt, dAuto, h1]; done)); (try (rotate_left; (· (intro hc; (try simp [hnt, dAuto, h1] at hc); done))))) | (refine DW_ret ?_; simp [Try.results8, hnt, dAuto, h1]) | ((first | refine DW_exit ?_ | refine DW_skip ?_); simp [hnt, dAuto, h1]) | (intro hc; (try simp [hnt, dAuto, h1] at hc); (try (exfalso; omega))) | (refine ⟨?_, ?_⟩; · omega) | omega | apply_assumption -exfalso -symm | (exfalso; omega)))
  by_cases h2 : 65 < a.st
  · have hRf : R = false := by rw [hR]; unfold autoOK; rw [decide_eq_false (p := a.st ≤ 65) (by omega)]; simp
    subst hRf
    (repeat (first | refine DW_seq fun K hK => ?_ | (refine DW_r anBX38 Try.mixed (by kernel_rfl) ?_; simp [anBX38, hnt, dAuto, h1, h2]; try simp (disch := omega) only [wrap64_in]) | refine DW_block ?_ | (refine DW_if ?_ ?_ ?_; (· (simp [hnt, dAuto, h1, h2]; done)); (try (rotate_left; (· (intro hc; (try simp [hnt, dAuto, h1, h2] at hc); done))))) | (refine DW_ret ?_; simp [Try.results8, hnt, dAuto, h1, h2]) | ((first | refine DW_exit ?_ | refine DW_skip ?_); simp [hnt, dAuto, h1, h2]) | (intro hc; (try simp [hnt, dAuto, h1, h2] at hc); (try (exfalso; omega))) | (refine ⟨?_, ?_⟩; · omega) | omega | apply_assumption -exfalso -symm | (exfalso; omega)))
  (repeat (first | refine DW_seq fun K hK => ?_ | (refine DW_r anBX38 Try.mixed (by kernel_rfl) ?_; simp [anBX38, hnt, dAuto, h1, h2]; try simp (disch := omega) only [wrap64_in]) | refine DW_block ?_ | (refine DW_if ?_ ?_ ?_; (· (simp [hnt, dAuto, h1, h2]; done)); (try (rotate_left; (· (intro hc; (try simp [hnt, dAuto, h1, h2] at hc); done))))) | (refine DW_ret ?_; simp [Try.results8, hnt, dAuto, h1, h2]) | ((first | refine DW_exit ?_ | refine DW_skip ?_); simp [hnt, dAuto, h1, h2]) | (intro hc; (try simp [hnt, dAuto, h1, h2] at hc); (try (exfalso; omega))) | (refine ⟨?_, ?_⟩; · omega) | omega | apply_assumption -exfalso -symm | (exfalso; omega)))
  refine DW_loop (X := {k : Nat // k ≤ a.fin.length ∧ (List.range k).all (okF a.st a.fin) = true}) (fun k => ⟨[(1, .ref [.int .i64 a.st, dNums a.fin, dArcs a.arcs]), (3, .int .i64 k.1)], []⟩) (fun k => a.fin.length - k.1) ⟨0, by simp⟩ (Sub.lit (by simp)) ?_
  rintro ⟨k, hk, hall⟩
  simp only
  by_cases hlt : k < a.fin.length
  · obtain ⟨q, hq, hq', hqm⟩ := at_lt' hlt
    have hst := range_all_succ (n := k) (okF a.st a.fin)
    rw [hall, Bool.true_and] at hst
    have hnf : okF a.st a.fin k = false → R = false := fun h => by rw [hR]; unfold autoOK; rw [range_all_stop hlt h]; simp
    cases k with
    | zero =>
      by_cases c0 : q < 0
      · have hRf := hnf (okF_bad hq (stB_lo c0))
        subst hRf
        (repeat (first | refine DW_seq fun K hK => ?_ | (refine DW_r anBX38 Try.mixed (by kernel_rfl) ?_; simp [anBX38, hnt, dNum, hlt, hq', c0, hn1, hn2, hq]; try simp (disch := omega) only [wrap64_in]) | refine DW_block ?_ | (refine DW_if ?_ ?_ ?_; (· (simp [hnt, dNum, hlt, hq', c0, hn1, hn2, hq]; done)); (try (rotate_left; (· (intro hc; (try simp [hnt, dNum, hlt, hq', c0, hn1, hn2, hq] at hc); done))))) | (refine DW_ret ?_; simp [Try.results8, hnt, dNum, hlt, hq', c0, hn1, hn2, hq]) | ((first | refine DW_exit ?_ | refine DW_skip ?_); simp [hnt, dNum, hlt, hq', c0, hn1, hn2, hq]) | (intro hc; (try simp [hnt, dNum, hlt, hq', c0, hn1, hn2, hq] at hc); (try (exfalso; omega))) | (refine ⟨?_, ?_⟩; · omega) | omega | apply_assumption -exfalso -symm | (exfalso; omega)))
      by_cases c1 : a.st ≤ q
      · have hRf := hnf (okF_bad hq (stB_hi c1))
        subst hRf
        (repeat (first | refine DW_seq fun K hK => ?_ | (refine DW_r anBX38 Try.mixed (by kernel_rfl) ?_; simp [anBX38, hnt, dNum, hlt, hq', c0, c1, hn1, hn2, hq]; try simp (disch := omega) only [wrap64_in]) | refine DW_block ?_ | (refine DW_if ?_ ?_ ?_; (· (simp [hnt, dNum, hlt, hq', c0, c1, hn1, hn2, hq]; done)); (try (rotate_left; (· (intro hc; (try simp [hnt, dNum, hlt, hq', c0, c1, hn1, hn2, hq] at hc); done))))) | (refine DW_ret ?_; simp [Try.results8, hnt, dNum, hlt, hq', c0, c1, hn1, hn2, hq]) | ((first | refine DW_exit ?_ | refine DW_skip ?_); simp [hnt, dNum, hlt, hq', c0, c1, hn1, hn2, hq]) | (intro hc; (try simp [hnt, dNum, hlt, hq', c0, c1, hn1, hn2, hq] at hc); (try (exfalso; omega))) | (refine ⟨?_, ?_⟩; · omega) | omega | apply_assumption -exfalso -symm | (exfalso; omega)))
      rw [okF_zero hq, stB_in c0 c1] at hst
      (repeat (first | refine DW_seq fun K hK => ?_ | (refine DW_r anBX38 Try.mixed (by kernel_rfl) ?_; simp [anBX38, hnt, dNum, hlt, hq', c0, c1, hn1, hn2, hq]; try simp (disch := omega) only [wrap64_in]) | refine DW_block ?_ | (refine DW_if ?_ ?_ ?_; (· (simp [hnt, dNum, hlt, hq', c0, c1, hn1, hn2, hq]; done)); (try (rotate_left; (· (intro hc; (try simp [hnt, dNum, hlt, hq', c0, c1, hn1, hn2, hq] at hc); done))))) | (refine DW_ret ?_; simp [Try.results8, hnt, dNum, hlt, hq', c0, c1, hn1, hn2, hq]) | ((first | refine DW_exit ?_ | refine DW_skip ?_); simp [hnt, dNum, hlt, hq', c0, c1, hn1, hn2, hq]) | (intro hc; (try simp [hnt, dNum, hlt, hq', c0, c1, hn1, hn2, hq] at hc); (try (exfalso; omega))) | (refine ⟨?_, ?_⟩; · omega) | omega | apply_assumption -exfalso -symm | (exfalso; omega)))
      refine Again.mk ⟨0 + 1, by omega, hst⟩ (Sub.lit (by simp)) (by simp; omega)
      (repeat (first | refine DW_seq fun K hK => ?_ | (refine DW_r anBX38 Try.mixed (by kernel_rfl) ?_; simp [anBX38, hnt]; try simp (disch := omega) only [wrap64_in]) | refine DW_block ?_ | (refine DW_if ?_ ?_ ?_; (· (simp [hnt]; done)); (try (rotate_left; (· (intro hc; (try simp [hnt] at hc); done))))) | (refine DW_ret ?_; simp [Try.results8, hnt]) | ((first | refine DW_exit ?_ | refine DW_skip ?_); simp [hnt]) | (intro hc; (try simp [hnt] at hc); (try (exfalso; omega))) | (refine ⟨?_, ?_⟩; · omega) | omega | apply_assumption -exfalso -symm | (exfalso; omega)))
    | succ m =>
      obtain ⟨p, hp, hp', _⟩ := at_lt' (l := a.fin) (k := m) (by omega)
      have hm1 : (0 : Int) < (m : Int) + 1 := by omega
      have hm2 : m < a.fin.length := by omega
      have hm4 : IntKind.i64.wrap (m : Int) = m := wrap64_in (by omega) (by omega)
      by_cases c0 : q < 0
      · have hRf := hnf (okF_bad hq (stB_lo c0))
        subst hRf
        (repeat (first | refine DW_seq fun K hK => ?_ | (refine DW_r anBX38 Try.mixed (by kernel_rfl) ?_; simp [anBX38, hnt, dNum, hlt, hq', c0, hm1, hm2, hm4, hp', hp]; try simp (disch := omega) only [wrap64_in]) | refine DW_block ?_ | (refine DW_if ?_ ?_ ?_; (· (simp [hnt, dNum, hlt, hq', c0, hm1, hm2, hm4, hp', hp]; done)); (try (rotate_left; (· (intro hc; (try simp [hnt, dNum, hlt, hq', c0, hm1, hm2, hm4, hp', hp] at hc); done))))) | (refine DW_ret ?_; simp [Try.results8, hnt, dNum, hlt, hq', c0, hm1, hm2, hm4, hp', hp]) | ((first | refine DW_exit ?_ | refine DW_skip ?_); simp [hnt, dNum, hlt, hq', c0, hm1, hm2, hm4, hp', hp]) | (intro hc; (try simp [hnt, dNum, hlt, hq', c0, hm1, hm2, hm4, hp', hp] at hc); (try (exfalso; omega))) | (refine ⟨?_, ?_⟩; · omega) | omega | apply_assumption -exfalso -symm | (exfalso; omega)))
      by_cases c1 : a.st ≤ q
      · have hRf := hnf (okF_bad hq (stB_hi c1))
        subst hRf
        (repeat (first | refine DW_seq fun K hK => ?_ | (refine DW_r anBX38 Try.mixed (by kernel_rfl) ?_; simp [anBX38, hnt, dNum, hlt, hq', c0, c1, hm1, hm2, hm4, hp', hp]; try simp (disch := omega) only [wrap64_in]) | refine DW_block ?_ | (refine DW_if ?_ ?_ ?_; (· (simp [hnt, dNum, hlt, hq', c0, c1, hm1, hm2, hm4, hp', hp]; done)); (try (rotate_left; (· (intro hc; (try simp [hnt, dNum, hlt, hq', c0, c1, hm1, hm2, hm4, hp', hp] at hc); done))))) | (refine DW_ret ?_; simp [Try.results8, hnt, dNum, hlt, hq', c0, c1, hm1, hm2, hm4, hp', hp]) | ((first | refine DW_exit ?_ | refine DW_skip ?_); simp [hnt, dNum, hlt, hq', c0, c1, hm1, hm2, hm4, hp', hp]) | (intro hc; (try simp [hnt, dNum, hlt, hq', c0, c1, hm1, hm2, hm4, hp', hp] at hc); (try (exfalso; omega))) | (refine ⟨?_, ?_⟩; · omega) | omega | apply_assumption -exfalso -symm | (exfalso; omega)))
      have ho := okF_pos (s := a.st) (k := m + 1) (by omega) hq hp
      rw [stB_in c0 c1, Bool.true_and] at ho
      by_cases c2 : q ≤ p
      · have hRf := hnf (by rw [ho]; simp; omega)
        subst hRf
        (repeat (first | refine DW_seq fun K hK => ?_ | (refine DW_r anBX38 Try.mixed (by kernel_rfl) ?_; simp [anBX38, hnt, dNum, hlt, hq', c0, c1, c2, hm1, hm2, hm4, hp', hp]; try simp (disch := omega) only [wrap64_in]) | refine DW_block ?_ | (refine DW_if ?_ ?_ ?_; (· (simp [hnt, dNum, hlt, hq', c0, c1, c2, hm1, hm2, hm4, hp', hp]; done)); (try (rotate_left; (· (intro hc; (try simp [hnt, dNum, hlt, hq', c0, c1, c2, hm1, hm2, hm4, hp', hp] at hc); done))))) | (refine DW_ret ?_; simp [Try.results8, hnt, dNum, hlt, hq', c0, c1, c2, hm1, hm2, hm4, hp', hp]) | ((first | refine DW_exit ?_ | refine DW_skip ?_); simp [hnt, dNum, hlt, hq', c0, c1, c2, hm1, hm2, hm4, hp', hp]) | (intro hc; (try simp [hnt, dNum, hlt, hq', c0, c1, c2, hm1, hm2, hm4, hp', hp] at hc); (try (exfalso; omega))) | (refine ⟨?_, ?_⟩; · omega) | omega | apply_assumption -exfalso -symm | (exfalso; omega)))
      rw [ho, decide_eq_true (by omega)] at hst
      (repeat (first | refine DW_seq fun K hK => ?_ | (refine DW_r anBX38 Try.mixed (by kernel_rfl) ?_; simp [anBX38, hnt, dNum, hlt, hq', c0, c1, c2, hm1, hm2, hm4, hp', hp]; try simp (disch := omega) only [wrap64_in]) | refine DW_block ?_ | (refine DW_if ?_ ?_ ?_; (· (simp [hnt, dNum, hlt, hq', c0, c1, c2, hm1, hm2, hm4, hp', hp]; done)); (try (rotate_left; (· (intro hc; (try simp [hnt, dNum, hlt, hq', c0, c1, c2, hm1, hm2, hm4, hp', hp] at hc); done))))) | (refine DW_ret ?_; simp [Try.results8, hnt, dNum, hlt, hq', c0, c1, c2, hm1, hm2, hm4, hp', hp]) | ((first | refine DW_exit ?_ | refine DW_skip ?_); simp [hnt, dNum, hlt, hq', c0, c1, c2, hm1, hm2, hm4, hp', hp]) | (intro hc; (try simp [hnt, dNum, hlt, hq', c0, c1, c2, hm1, hm2, hm4, hp', hp] at hc); (try (exfalso; omega))) | (refine ⟨?_, ?_⟩; · omega) | omega | apply_assumption -exfalso -symm | (exfalso; omega)))
      refine Again.mk ⟨m + 1 + 1, by omega, hst⟩ (Sub.lit (by simp)) (by simp; omega)
      (repeat (first | refine DW_seq fun K hK => ?_ | (refine DW_r anBX38 Try.mixed (by kernel_rfl) ?_; simp [anBX38, hnt]; try simp (disch := omega) only [wrap64_in]) | refine DW_block ?_ | (refine DW_if ?_ ?_ ?_; (· (simp [hnt]; done)); (try (rotate_left; (· (intro hc; (try simp [hnt] at hc); done))))) | (refine DW_ret ?_; simp [Try.results8, hnt]) | ((first | refine DW_exit ?_ | refine DW_skip ?_); simp [hnt]) | (intro hc; (try simp [hnt] at hc); (try (exfalso; omega))) | (refine ⟨?_, ?_⟩; · omega) | omega | apply_assumption -exfalso -symm | (exfalso; omega)))
  · have hkk : k = a.fin.length := by omega
    subst hkk
    (repeat (first | refine DW_seq fun K hK => ?_ | (refine DW_r anBX38 Try.mixed (by kernel_rfl) ?_; simp [anBX38, hnt]; try simp (disch := omega) only [wrap64_in]) | refine DW_block ?_ | (refine DW_if ?_ ?_ ?_; (· (simp [hnt]; done)); (try (rotate_left; (· (intro hc; (try simp [hnt] at hc); done))))) | (refine DW_ret ?_; simp [Try.results8, hnt]) | ((first | refine DW_exit ?_ | refine DW_skip ?_); simp [hnt]) | (intro hc; (try simp [hnt] at hc); (try (exfalso; omega))) | (refine ⟨?_, ?_⟩; · omega) | omega | apply_assumption -exfalso -symm | (exfalso; omega)))
    refine DW_loop (X := {k : Nat // k ≤ a.arcs.length ∧ (List.range k).all (okA a.st a.arcs) = true}) (fun k => ⟨[(1, .ref [.int .i64 a.st, dNums a.fin, dArcs a.arcs]), (5, .int .i64 k.1)], []⟩) (fun k => a.arcs.length - k.1) ⟨0, by simp⟩ (Sub.lit (by simp)) ?_
    rintro ⟨k, hk, hall2⟩
    simp only
    by_cases hlt : k < a.arcs.length
    · obtain ⟨x, hq, hq', hqm⟩ := at_lt' hlt
      have hst := range_all_succ (n := k) (okA a.st a.arcs)
      rw [hall2, Bool.true_and] at hst
      have hnf : okA a.st a.arcs k = false → R = false := fun h => by rw [hR]; unfold autoOK; rw [range_all_stop (n := a.arcs.length) hlt h]; simp
      by_cases c0 : x.fr < 0
      · have hRf := hnf (okA_bad hq (by unfold arcOK; rw [stB_lo c0]; simp))
        subst hRf
        (repeat (first | refine DW_seq fun K hK => ?_ | (refine DW_r anBX38 Try.mixed (by kernel_rfl) ?_; simp [anBX38, hnt, dArc, hlt, hq', c0]; try simp (disch := omega) only [wrap64_in]) | refine DW_block ?_ | (refine DW_if ?_ ?_ ?_; (· (simp [hnt, dArc, hlt, hq', c0]; done)); (try (rotate_left; (· (intro hc; (try simp [hnt, dArc, hlt, hq', c0] at hc); done))))) | (refine DW_ret ?_; simp [Try.results8, hnt, dArc, hlt, hq', c0]) | ((first | refine DW_exit ?_ | refine DW_skip ?_); simp [hnt, dArc, hlt, hq', c0]) | (intro hc; (try simp [hnt, dArc, hlt, hq', c0] at hc); (try (exfalso; omega))) | (refine ⟨?_, ?_⟩; · omega) | omega | apply_assumption -exfalso -symm | (exfalso; omega)))
      by_cases c1 : a.st ≤ x.fr
      · have hRf := hnf (okA_bad hq (by unfold arcOK; rw [stB_hi c1]; simp))
        subst hRf
        (repeat (first | refine DW_seq fun K hK => ?_ | (refine DW_r anBX38 Try.mixed (by kernel_rfl) ?_; simp [anBX38, hnt, dArc, hlt, hq', c0, c1]; try simp (disch := omega) only [wrap64_in]) | refine DW_block ?_ | (refine DW_if ?_ ?_ ?_; (· (simp [hnt, dArc, hlt, hq', c0, c1]; done)); (try (rotate_left; (· (intro hc; (try simp [hnt, dArc, hlt, hq', c0, c1] at hc); done))))) | (refine DW_ret ?_; simp [Try.results8, hnt, dArc, hlt, hq', c0, c1]) | ((first | refine DW_exit ?_ | refine DW_skip ?_); simp [hnt, dArc, hlt, hq', c0, c1]) | (intro hc; (try simp [hnt, dArc, hlt, hq', c0, c1] at hc); (try (exfalso; omega))) | (refine ⟨?_, ?_⟩; · omega) | omega | apply_assumption -exfalso -symm | (exfalso; omega)))
      by_cases c2 : x.to < 0
      · have hRf := hnf (okA_bad hq (by unfold arcOK; rw [stB_lo c2]; simp))
        subst hRf
        (repeat (first | refine DW_seq fun K hK => ?_ | (refine DW_r anBX38 Try.mixed (by kernel_rfl) ?_; simp [anBX38, hnt, dArc, hlt, hq', c0, c1, c2]; try simp (disch := omega) only [wrap64_in]) | refine DW_block ?_ | (refine DW_if ?_ ?_ ?_; (· (simp [hnt, dArc, hlt, hq', c0, c1, c2]; done)); (try (rotate_left; (· (intro hc; (try simp [hnt, dArc, hlt, hq', c0, c1, c2] at hc); done))))) | (refine DW_ret ?_; simp [Try.results8, hnt, dArc, hlt, hq', c0, c1, c2]) | ((first | refine DW_exit ?_ | refine DW_skip ?_); simp [hnt, dArc, hlt, hq', c0, c1, c2]) | (intro hc; (try simp [hnt, dArc, hlt, hq', c0, c1, c2] at hc); (try (exfalso; omega))) | (refine ⟨?_, ?_⟩; · omega) | omega | apply_assumption -exfalso -symm | (exfalso; omega)))
      by_cases c3 : a.st ≤ x.to
      · have hRf := hnf (okA_bad hq (by unfold arcOK; rw [stB_hi c3]; simp))
        subst hRf
        (repeat (first | refine DW_seq fun K hK => ?_ | (refine DW_r anBX38 Try.mixed (by kernel_rfl) ?_; simp [anBX38, hnt, dArc, hlt, hq', c0, c1, c2, c3]; try simp (disch := omega) only [wrap64_in]) | refine DW_block ?_ | (refine DW_if ?_ ?_ ?_; (· (simp [hnt, dArc, hlt, hq', c0, c1, c2, c3]; done)); (try (rotate_left; (· (intro hc; (try simp [hnt, dArc, hlt, hq', c0, c1, c2, c3] at hc); done))))) | (refine DW_ret ?_; simp [Try.results8, hnt, dArc, hlt, hq', c0, c1, c2, c3]) | ((first | refine DW_exit ?_ | refine DW_skip ?_); simp [hnt, dArc, hlt, hq', c0, c1, c2, c3]) | (intro hc; (try simp [hnt, dArc, hlt, hq', c0, c1, c2, c3] at hc); (try (exfalso; omega))) | (refine ⟨?_, ?_⟩; · omega) | omega | apply_assumption -exfalso -symm | (exfalso; omega)))
      by_cases c4 : x.sy.n < 0
      · have hRf := hnf (okA_bad hq (by unfold arcOK; rw [decide_eq_false (p := 0 ≤ x.sy.n) (by omega)]; simp))
        subst hRf
        (repeat (first | refine DW_seq fun K hK => ?_ | (refine DW_r anBX38 Try.mixed (by kernel_rfl) ?_; simp [anBX38, hnt, dArc, hlt, hq', c0, c1, c2, c3, c4]; try simp (disch := omega) only [wrap64_in]) | refine DW_block ?_ | (refine DW_if ?_ ?_ ?_; (· (simp [hnt, dArc, hlt, hq', c0, c1, c2, c3, c4]; done)); (try (rotate_left; (· (intro hc; (try simp [hnt, dArc, hlt, hq', c0, c1, c2, c3, c4] at hc); done))))) | (refine DW_ret ?_; simp [Try.results8, hnt, dArc, hlt, hq', c0, c1, c2, c3, c4]) | ((first | refine DW_exit ?_ | refine DW_skip ?_); simp [hnt, dArc, hlt, hq', c0, c1, c2, c3, c4]) | (intro hc; (try simp [hnt, dArc, hlt, hq', c0, c1, c2, c3, c4] at hc); (try (exfalso; omega))) | (refine ⟨?_, ?_⟩; · omega) | omega | apply_assumption -exfalso -symm | (exfalso; omega)))
      have hok : arcOK a.st x = true := by unfold arcOK; rw [stB_in c0 c1, stB_in c2 c3, decide_eq_true (by omega)]; rfl
      cases k with
      | zero =>
        rw [okA_zero hq, hok] at hst
        (repeat (first | refine DW_seq fun K hK => ?_ | (refine DW_r anBX38 Try.mixed (by kernel_rfl) ?_; simp [anBX38, hnt, dArc, hlt, hq', c0, c1, c2, c3, c4, hn1, hn2, hq]; try simp (disch := omega) only [wrap64_in]) | refine DW_block ?_ | (refine DW_if ?_ ?_ ?_; (· (simp [hnt, dArc, hlt, hq', c0, c1, c2, c3, c4, hn1, hn2, hq]; done)); (try (rotate_left; (· (intro hc; (try simp [hnt, dArc, hlt, hq', c0, c1, c2, c3, c4, hn1, hn2, hq] at hc); done))))) | (refine DW_ret ?_; simp [Try.results8, hnt, dArc, hlt, hq', c0, c1, c2, c3, c4, hn1, hn2, hq]) | ((first | refine DW_exit ?_ | refine DW_skip ?_); simp [hnt, dArc, hlt, hq', c0, c1, c2, c3, c4, hn1, hn2, hq]) | (intro hc; (try simp [hnt, dArc, hlt, hq', c0, c1, c2, c3, c4, hn1, hn2, hq] at hc); (try (exfalso; omega))) | (refine ⟨?_, ?_⟩; · omega) | omega | apply_assumption -exfalso -symm | (exfalso; omega)))
        refine Again.mk ⟨0 + 1, by omega, hst⟩ (Sub.lit (by simp)) (by simp; omega)
        (repeat (first | refine DW_seq fun K hK => ?_ | (refine DW_r anBX38 Try.mixed (by kernel_rfl) ?_; simp [anBX38, hnt]; try simp (disch := omega) only [wrap64_in]) | refine DW_block ?_ | (refine DW_if ?_ ?_ ?_; (· (simp [hnt]; done)); (try (rotate_left; (· (intro hc; (try simp [hnt] at hc); done))))) | (refine DW_ret ?_; simp [Try.results8, hnt]) | ((first | refine DW_exit ?_ | refine DW_skip ?_); simp [hnt]) | (intro hc; (try simp [hnt] at hc); (try (exfalso; omega))) | (refine ⟨?_, ?_⟩; · omega) | omega | apply_assumption -exfalso -symm | (exfalso; omega)))
      | succ m =>
        obtain ⟨p, hp, hp', _⟩ := at_lt' (l := a.arcs) (k := m) (by omega)
        have hm1 : (0 : Int) < (m : Int) + 1 := by omega
        have hm2 : m < a.arcs.length := by omega
        have hm4 : IntKind.i64.wrap (m : Int) = m := wrap64_in (by omega) (by omega)
        have ho := okA_pos (s := a.st) (k := m + 1) (by omega) hq hp
        rw [hok, Bool.true_and] at ho
        have e3 := less17_pure p x
        simp only [dArc] at e3
        cases hL : arcLess p x
        · have hRf := hnf (by rw [ho, hL])
          subst hRf
          rw [hL] at e3
          (repeat (first | refine DW_seq fun K hK => ?_ | (refine DW_r anBX38 Try.mixed (by kernel_rfl) ?_; simp [anBX38, hnt, dArc, hlt, hq', c0, c1, c2, c3, c4, hm1, hm2, hm4, hp', hp]; try simp (disch := omega) only [wrap64_in]) | refine DW_block ?_ | (refine DW_if ?_ ?_ ?_; (· (simp [hnt, dArc, hlt, hq', c0, c1, c2, c3, c4, hm1, hm2, hm4, hp', hp]; done)); (try (rotate_left; (· (intro hc; (try simp [hnt, dArc, hlt, hq', c0, c1, c2, c3, c4, hm1, hm2, hm4, hp', hp] at hc); done))))) | (refine DW_ret ?_; simp [Try.results8, hnt, dArc, hlt, hq', c0, c1, c2, c3, c4, hm1, hm2, hm4, hp', hp]) | ((first | refine DW_exit ?_ | refine DW_skip ?_); simp [hnt, dArc, hlt, hq', c0, c1, c2, c3, c4, hm1, hm2, hm4, hp', hp]) | (intro hc; (try simp [hnt, dArc, hlt, hq', c0, c1, c2, c3, c4, hm1, hm2, hm4, hp', hp] at hc); (try (exfalso; omega))) | ((first | refine callP_mk (e3) ?_ | (refine callP_wk (e3) ?_ ?_; (· (simp; done)))); try simp [hnt, dArc, hlt, hq', c0, c1, c2, c3, c4, hm1, hm2, hm4, hp', hp]) | (refine ⟨?_, ?_⟩; · omega) | omega | apply_assumption -exfalso -symm | (exfalso; omega)))
        rw [ho, hL] at hst
        rw [hL] at e3
        (repeat (first | refine DW_seq fun K hK => ?_ | (refine DW_r anBX38 Try.mixed (by kernel_rfl) ?_; simp [anBX38, hnt, dArc, hlt, hq', c0, c1, c2, c3, c4, hm1, hm2, hm4, hp', hp]; try simp (disch := omega) only [wrap64_in]) | refine DW_block ?_ | (refine DW_if ?_ ?_ ?_; (· (simp [hnt, dArc, hlt, hq', c0, c1, c2, c3, c4, hm1, hm2, hm4, hp', hp]; done)); (try (rotate_left; (· (intro hc; (try simp [hnt, dArc, hlt, hq', c0, c1, c2, c3, c4, hm1, hm2, hm4, hp', hp] at hc); done))))) | (refine DW_ret ?_; simp [Try.results8, hnt, dArc, hlt, hq', c0, c1, c2, c3, c4, hm1, hm2, hm4, hp', hp]) | ((first | refine DW_exit ?_ | refine DW_skip ?_); simp [hnt, dArc, hlt, hq', c0, c1, c2, c3, c4, hm1, hm2, hm4, hp', hp]) | (intro hc; (try simp [hnt, dArc, hlt, hq', c0, c1, c2, c3, c4, hm1, hm2, hm4, hp', hp] at hc); (try (exfalso; omega))) | ((first | refine callP_mk (e3) ?_ | (refine callP_wk (e3) ?_ ?_; (· (simp; done)))); try simp [hnt, dArc, hlt, hq', c0, c1, c2, c3, c4, hm1, hm2, hm4, hp', hp]) | (refine ⟨?_, ?_⟩; · omega) | omega | apply_assumption -exfalso -symm | (exfalso; omega)))
        refine Again.mk ⟨m + 1 + 1, by omega, hst⟩ (Sub.lit (by simp)) (by simp; omega)
        (repeat (first | refine DW_seq fun K hK => ?_ | (refine DW_r anBX38 Try.mixed (by kernel_rfl) ?_; simp [anBX38, hnt]; try simp (disch := omega) only [wrap64_in]) | refine DW_block ?_ | (refine DW_if ?_ ?_ ?_; (· (simp [hnt]; done)); (try (rotate_left; (· (intro hc; (try simp [hnt] at hc); done))))) | (refine DW_ret ?_; simp [Try.results8, hnt]) | ((first | refine DW_exit ?_ | refine DW_skip ?_); simp [hnt]) | (intro hc; (try simp [hnt] at hc); (try (exfalso; omega))) | ((first | refine callP_mk (e3) ?_ | (refine callP_wk (e3) ?_ ?_; (· (simp; done)))); try simp [hnt]) | (refine ⟨?_, ?_⟩; · omega) | omega | apply_assumption -exfalso -symm | (exfalso; omega)))
    · have hkk : k = a.arcs.length := by omega
      subst hkk
      have hRt : R = true := by rw [hR]; unfold autoOK; rw [hall, hall2, decide_eq_true (by omega), decide_eq_true (by omega)]; rfl
      subst hRt
      (repeat (first | refine DW_seq fun K hK => ?_ | (refine DW_r anBX38 Try.mixed (by kernel_rfl) ?_; simp [anBX38, hnt]; try simp (disch := omega) only [wrap64_in]) | refine DW_block ?_ | (refine DW_if ?_ ?_ ?_; (· (simp [hnt]; done)); (try (rotate_left; (· (intro hc; (try simp [hnt] at hc); done))))) | (refine DW_ret ?_; simp [Try.results8, hnt]) | ((first | refine DW_exit ?_ | refine DW_skip ?_); simp [hnt]) | (intro hc; (try simp [hnt] at hc); (try (exfalso; omega))) | (refine ⟨?_, ?_⟩; · omega) | omega | apply_assumption -exfalso -symm | (exfalso; omega)))
end Go.Proofs.Ytnmbgbeajacpfaa
end

section
/- 'BoxChecks': the statement answers true -/


set_option linter.unusedSimpArgs false
set_option linter.unusedVariables false
namespace Go.Proofs.Ytnmbgbeajacpfaa
open Go Go.Dm
attribute [local irreducible] DW callP callS
set_option maxRecDepth 100000

def anBX514 : Ann := ⟨[], [⟨16, [13], [], []⟩, ⟨17, [14], [], []⟩, ⟨30, [20], [], []⟩]⟩
theorem ofNil_pure : DPure Try.prog 14 [.nilp, .nilsl] (.tup [.agg [.int .i64 0, .nilsl, .nilsl], .int .i64 1]) := by
  refine DPure_introF [] (fn := Try.f14) Try.func14 rfl Try.call14 (by simp [Try.ntmps14]) (by simp [mx]) ?_
  intro hwf B hnt
  simp only [Try.ntmps14] at hnt
  simp only [argS]
  (repeat (first | refine DW_seq fun K hK => ?_ | (refine DW_r anBX514 Try.mixed (by kernel_rfl) ?_; simp [anBX514, hnt]; try simp (disch := omega) only [wrap64_in]) | refine DW_block ?_ | (refine DW_if ?_ ?_ ?_; (· (simp [hnt]; done)); (try (rotate_left; (· (intro hc; (try simp [hnt] at hc); done))))) | (refine DW_ret ?_; simp [Try.results14, hnt]) | ((first | refine DW_exit ?_ | refine DW_skip ?_); simp [hnt]) | (intro hc; (try simp [hnt] at hc); (try (exfalso; omega))) | (refine ⟨?_, ?_⟩; · omega) | omega | apply_assumption -exfalso -symm | (exfalso; omega)))
def anBX56 : Ann := ⟨[], [⟨1, [1], [], []⟩]⟩
theorem head_pure : DPure Try.prog 6 [] (.bool true) := by
  refine DPure_introF [] (fn := Try.f6) Try.func6 rfl Try.call6 (by simp [Try.ntmps6]) (by simp [mx]) ?_
  intro hwf B hnt
  simp only [Try.ntmps6] at hnt
  simp only [argS]
  have c1 := check7_pure ⟨0, [], []⟩
  have c2 := check7_pure ⟨1, [], []⟩
  rw [show autoOK ⟨0, [], []⟩ = false from rfl] at c1
  rw [show autoOK ⟨1, [], []⟩ = true from rfl] at c2
  simp only [dAuto, dNums, dArcs, List.map_nil] at c1 c2
  (repeat (first | refine DW_seq fun K hK => ?_ | (refine DW_r anBX56 Try.mixed (by kernel_rfl) ?_; simp [anBX56, hnt]; try simp (disch := omega) only [wrap64_in]) | refine DW_block ?_ | (refine DW_if ?_ ?_ ?_; (· (simp [hnt]; done)); (try (rotate_left; (· (intro hc; (try simp [hnt] at hc); done))))) | (refine DW_ret ?_; simp [Try.results6, hnt]) | ((first | refine DW_exit ?_ | refine DW_skip ?_); simp [hnt]) | (intro hc; (try simp [hnt] at hc); (try (exfalso; omega))) | ((first | refine callP_mk (ofNil_pure) ?_ | refine callP_mk (c1) ?_ | refine callP_mk (c2) ?_ | (refine callP_wk (ofNil_pure) ?_ ?_; (· (simp; done))) | (refine callP_wk (c1) ?_ ?_; (· (simp; done))) | (refine callP_wk (c2) ?_ ?_; (· (simp; done)))); try simp [hnt]) | (refine ⟨?_, ?_⟩; · omega) | omega | apply_assumption -exfalso -symm | (exfalso; omega)))
def anBX53 : Ann := ⟨[], []⟩
theorem boxChecks_pure (a : Auto) : DPure Try.prog 3 [.agg (dAuto a)] (.bool true) := by
  refine DPure_introF [] (fn := Try.f3) Try.func3 rfl Try.call3 (by simp [Try.ntmps3]) (by simp [mx]) ?_
  intro hwf B hnt
  simp only [Try.ntmps3] at hnt
  simp only [argS]
  have c1 := check7_pure a
  have c2 := check8_pure a
  simp only [dAuto] at c1 c2
  (repeat (first | refine DW_seq fun K hK => ?_ | (refine DW_r anBX53 Try.mixed (by kernel_rfl) ?_; simp [anBX53, hnt, dAuto]; try simp (disch := omega) only [wrap64_in]) | refine DW_block ?_ | (refine DW_if ?_ ?_ ?_; (· (simp [hnt, dAuto]; done)); (try (rotate_left; (· (intro hc; (try simp [hnt, dAuto] at hc); done))))) | (refine DW_ret ?_; simp [Try.results3, hnt, dAuto]) | ((first | refine DW_exit ?_ | refine DW_skip ?_); simp [hnt, dAuto]) | (intro hc; (try simp [hnt, dAuto] at hc); (try (exfalso; omega))) | ((first | refine callP_mk (head_pure) ?_ | refine callP_mk (c1) ?_ | refine callP_mk (c2) ?_ | (refine callP_wk (head_pure) ?_ ?_; (· (simp; done))) | (refine callP_wk (c1) ?_ ?_; (· (simp; done))) | (refine callP_wk (c2) ?_ ?_; (· (simp; done)))); try simp [hnt, dAuto]) | (refine ⟨?_, ?_⟩; · omega) | omega | apply_assumption -exfalso -symm | (exfalso; omega)))
end Go.Proofs.Ytnmbgbeajacpfaa
end

section
/- The data machine, second make, part U: what an argument that came in reads as: the given reading turned into data. -/





set_option linter.unusedSimpArgs false
set_option linter.unusedVariables false
namespace Go.Dm

/-- The shape of a datum. -/
inductive Sh where
  | b
  | i (k : IntKind)
  | s
  | sl (k bs : Nat) (c : List Sh)

mutual
def HasS (L : Nat) : Sh → DVal → Prop
  | .b, d => ∃ b, d = .bool b
  | .i k, d => ∃ n, d = .int k n
  | .s, d => ∃ x : ByteArray, d = .str x ∧ x.size ≤ L
  | .sl k bs c, d => ∃ es, d = .sl k bs es ∧ es.length * bs ≤ L ∧ ∀ e ∈ es, HasL L c e
def HasL (L : Nat) : List Sh → List DVal → Prop
  | [], ds => ds = []
  | x :: r, ds => ∃ d t, ds = d :: t ∧ HasS L x d ∧ HasL L r t
end

theorem HasL_append {L : Nat} : ∀ {a b : List Sh} {x y : List DVal}, HasL L a x → HasL L b y → HasL L (a ++ b) (x ++ y)
  | [], b, x, y, h, k => by simp only [HasL] at h; subst h; exact k
  | a :: r, b, x, y, h, k => by
    simp only [HasL] at h
    obtain ⟨d, t, rfl, h1, h2⟩ := h
    simp only [List.cons_append, HasL]
    exact ⟨d, t ++ y, rfl, h1, HasL_append h2 k⟩

def shF (g : TypeId → Option (List Sh)) (cells : TypeId → Nat) : List Field → Nat → Option (List Sh × Nat)
  | [], off => some ([], off)
  | f :: r, off => if f.offset = off then
      (match g f.type, shF g cells r (off + cells f.type) with
      | some c, some (l, e) => some (c ++ l, e)
      | _, _ => none) else none

/-- The shape of a type. -/
def shOf (P : Program) : Nat → TypeId → Option (List Sh)
  | 0, _ => none
  | n + 1, t => match P.underlying t with
    | some .bool => some [.b]
    | some (.int k) => some [.i k]
    | some .string => some [.s]
    | some (.slice e) => if 0 < P.cellsOf e then (shOf P n e).map fun c => [.sl (P.cellsOf e) (P.bytesOf e) c] else none
    | some (.struct fs) => match shF (shOf P n) P.cellsOf fs.toList 0 with
      | some (l, e) => if e = P.cellsOf t then some l else none
      | none => none
    | _ => none

theorem mapM_some {α β : Type} {f : α → Option β} : ∀ {l : List α} {r : List β}, l.mapM f = some r → r.length = l.length ∧ ∀ (i : Nat) (x : α), l[i]? = some x → ∃ y, r[i]? = some y ∧ f x = some y
  | [], r, h => by simp at h; subst h; simp
  | a :: l, r, h => by
    rw [List.mapM_cons] at h
    cases hf : f a with
    | none => rw [hf] at h; simp at h
    | some y =>
      rw [hf] at h
      cases hm : l.mapM f with
      | none => rw [hm] at h; simp at h
      | some r' =>
        rw [hm] at h
        simp at h
        subst h
        obtain ⟨h1, h2⟩ := mapM_some hm
        refine ⟨by simp [h1], fun i x hx => ?_⟩
        cases i with
        | zero => simp only [List.getElem?_cons_zero, Option.some.injEq] at hx; subst hx; exact ⟨y, rfl, hf⟩
        | succ i => simp only [List.getElem?_cons_succ] at hx ⊢; exact h2 i x hx

theorem rdV_len {cur : Cur} {M : List Nat} {h : Array Obj} : ∀ {a : List DVal} {x : List Value}, rdV cur M h a x → a.length = x.length
  | [], x, h1 => by simp only [rdV] at h1; subst h1; rfl
  | d :: a, x, h1 => by
    simp only [rdV] at h1
    obtain ⟨v, r, rfl, h3, h4⟩ := h1
    simp [rdV_len h4]

theorem rdC_of_rdV {cur : Cur} {M : List Nat} {h : Array Obj} {arr : Array Value} : ∀ {a : List DVal} {x : List Value} {o : Nat}, rdV cur M h a x → (∀ v ∈ x, v.oneCell' = true) → (∀ (j : Nat) v, x[j]? = some v → arr[o + j]? = some v) → rdC cur M h a arr o
  | [], x, o, h1, _, _ => by simp [rdC]
  | d :: a, x, o, h1, h2, h3 => by
    simp only [rdV] at h1
    obtain ⟨v, r, rfl, h4, h5⟩ := h1
    simp only [rdC]
    refine ⟨⟨v, by simpa using h3 0 v rfl, h2 v (by simp), h4⟩, rdC_of_rdV h5 (fun u hu => h2 u (by simp [hu])) fun j u hu => ?_⟩
    have := h3 (j + 1) u (by simpa using hu)
    rw [← this]; congr 1; omega

theorem rows_of {L : Nat} {cur : Cur} {M : List Nat} {h : Array Obj} {arr : Array Value} {k : Nat} {c : List Sh} : ∀ (len off : Nat), (∀ i, i < len → ∃ ds, ds.length = k ∧ rdC cur M h ds arr (off + i * k) ∧ HasL L c ds) →
    ∃ es, es.length = len ∧ rdR cur M h k es arr off ∧ ∀ e ∈ es, HasL L c e
  | 0, off, _ => ⟨[], rfl, by simp [rdR], by simp⟩
  | len + 1, off, hh => by
    obtain ⟨ds, h1, h2, h3⟩ := hh 0 (by omega)
    obtain ⟨es, h4, h5, h6⟩ := rows_of len (off + k) (fun i hi => by
      obtain ⟨ds, h1, h2, h3⟩ := hh (i + 1) (by omega)
      refine ⟨ds, h1, ?_, h3⟩
      have : off + k + i * k = off + (i + 1) * k := by rw [Nat.add_mul]; omega
      rw [this]; exact h2)
    refine ⟨ds :: es, by simp [h4], ?_, ?_⟩
    · simp only [rdR]; exact ⟨h1, by simpa using h2, h5⟩
    · intro e he
      rcases List.mem_cons.1 he with rfl | he
      · exact h3
      · exact h6 e he

theorem inR_of_wf {k : IntKind} {n : Int} (h : (Lit.int k n).wf = true) : inR k n := by
  cases k <;> simpa [Lit.wf, IntKind.min, IntKind.max, IntKind.signed, IntKind.bits, inR] using h

theorem shF_mono {g : TypeId → Option (List Sh)} {cells : TypeId → Nat} : ∀ {fs : List Field} {off e : Nat} {l : List Sh}, shF g cells fs off = some (l, e) → off ≤ e
  | [], off, e, l, h => by simp only [shF, Option.some.injEq, Prod.mk.injEq] at h; omega
  | f :: r, off, e, l, h => by
    simp only [shF] at h
    split at h
    · split at h
      · rename_i c l' e' h1 h2
        simp only [Option.some.injEq, Prod.mk.injEq] at h
        have := shF_mono h2
        omega
      · simp at h
    · simp at h

section
variable {H : Type} {enc : TypeId × Value → H} {P : Program} {w : World} {cur : Cur}

def RdArg (L : Nat) (P : Program) (cur : Cur) (w : World) (cs : List Value) (shs : List Sh) : Prop :=
  ∃ ds, rdV cur [] w.heap ds cs ∧ (∀ v ∈ cs, v.oneCell' = true) ∧ HasL L shs ds

theorem fields_rd {L fuel n : Nat} (ih : ∀ {t : TypeId} {cs : List Value} {d : DataW H} {ps : List MemPlace} {shs : List Sh}, DataW.trod enc P w 0 (fun _ => true) true fuel t cs = some (d, ps) → shOf P n t = some shs → (∀ x ∈ d.weights P t, x ≤ L) → RdArg L P cur w cs shs)
    (cs : List Value) : ∀ (fs : List Field) (off e : Nat) (l : List Sh) (xs : List (DataW H × List MemPlace)),
      fs.mapM (fun f => DataW.trod enc P w 0 (fun _ => true) true fuel f.type ((cs.drop f.offset).take (P.cellsOf f.type))) = some xs → shF (shOf P n) P.cellsOf fs off = some (l, e) →
      (∀ x ∈ DataW.weightsEach P (fs.map (·.type)) (xs.map (·.1)), x ≤ L) → RdArg L P cur w ((cs.drop off).take (e - off)) l
  | [], off, e, l, xs, h1, h2, h3 => by
    simp only [shF, Option.some.injEq, Prod.mk.injEq] at h2
    obtain ⟨rfl, rfl⟩ := h2
    exact ⟨[], by simp [rdV], by simp, by simp [HasL]⟩
  | f :: fs, off, e, l, xs, h1, h2, h3 => by
    rw [List.mapM_cons] at h1
    simp only [shF] at h2
    split at h2
    · rename_i hoff
      split at h2
      · rename_i c l' e' h4 h5
        simp only [Option.some.injEq, Prod.mk.injEq] at h2
        obtain ⟨rfl, rfl⟩ := h2
        have hm := shF_mono h5
        cases hf : DataW.trod enc P w 0 (fun _ => true) true fuel f.type ((cs.drop f.offset).take (P.cellsOf f.type)) with
        | none => rw [hf] at h1; simp at h1
        | some x =>
          rw [hf] at h1
          cases hr : fs.mapM (fun f => DataW.trod enc P w 0 (fun _ => true) true fuel f.type ((cs.drop f.offset).take (P.cellsOf f.type))) with
          | none => rw [hr] at h1; simp at h1
          | some xr =>
            rw [hr] at h1
            simp at h1
            subst h1
            simp only [List.map_cons, DataW.weightsEach, List.mem_append] at h3
            obtain ⟨d1, a1, a2, a3⟩ := ih hf h4 (fun y hy => h3 y (.inl hy))
            obtain ⟨d2, b1, b2, b3⟩ := fields_rd ih cs fs (off + P.cellsOf f.type) e' l' xr hr h5 (fun y hy => h3 y (.inr hy))
            have hsp : (cs.drop off).take (e' - off) = (cs.drop f.offset).take (P.cellsOf f.type) ++ (cs.drop (off + P.cellsOf f.type)).take (e' - (off + P.cellsOf f.type)) := by
              rw [hoff, ← List.drop_drop, show e' - off = P.cellsOf f.type + (e' - (off + P.cellsOf f.type)) by omega, List.take_add]
            rw [hsp]
            exact ⟨d1 ++ d2, rdV_append _ _ _ _ a1 b1, fun v hv => (List.mem_append.1 hv).elim (a2 v) (b2 v), HasL_append a3 b3⟩
      · simp at h2
    · simp at h2

theorem weightsAll_mem {e : TypeId} : ∀ {l : List (DataW H)} {d : DataW H}, d ∈ l → ∀ x ∈ d.weights P e, x ∈ DataW.weightsAll P e l
  | a :: l, d, hd, x, hx => by
    simp only [DataW.weightsAll, List.mem_append]
    rcases List.mem_cons.1 hd with rfl | hd
    · exact .inl hx
    · exact .inr (weightsAll_mem hd x hx)

theorem cells_get {a : Addr} {n : Nat} {cs : List Value} (h : w.cells? 0 a n = some cs) : cs.length = n ∧ ∀ (j : Nat) v, cs[j]? = some v → w.cell? (a.add j) = some v := by
  unfold World.cells? at h
  rw [if_pos (Nat.zero_le _)] at h
  obtain ⟨h1, h2⟩ := mapM_some h
  rw [List.length_range] at h1
  refine ⟨h1, fun j v hv => ?_⟩
  have hj : j < n := by rw [← h1]; exact (List.getElem?_eq_some_iff.1 hv).1
  obtain ⟨y, hy, hy'⟩ := h2 j j (by rw [List.getElem?_range hj])
  rw [hv] at hy
  rw [hy', hy]

theorem add_none (b o n : Nat) : (⟨b, o, none⟩ : Addr).add n = ⟨b, o + n, none⟩ := by
  unfold Addr.add
  split
  · rename_i h; subst h; rfl
  · rfl

theorem trod_rd {L : Nat} (hL : L ≤ 140737488355328) : ∀ {fuel n : Nat} {t : TypeId} {cs : List Value} {d : DataW H} {ps : List MemPlace} {shs : List Sh}, DataW.trod enc P w 0 (fun _ => true) true fuel t cs = some (d, ps) → shOf P n t = some shs →
    (∀ x ∈ d.weights P t, x ≤ L) → RdArg L P cur w cs shs
  | 0, n, t, cs, d, ps, shs, h, hs, hw => by simp [DataW.trod] at h
  | fuel + 1, 0, t, cs, d, ps, shs, h, hs, hw => by simp [shOf] at hs
  | fuel + 1, n + 1, t, cs, d, ps, shs, h, hs, hw => by
    unfold DataW.trod at h
    split at h
    · rename_i b hu
      simp only [shOf, hu, Option.some.injEq] at hs
      subst hs
      exact ⟨[.bool b], by simp [rdV, rd], by simp [Value.oneCell'], by simp [HasL, HasS]⟩
    · rename_i k k' n' hu
      simp only [shOf, hu, Option.some.injEq] at hs
      subst hs
      split at h
      · rename_i hk
        obtain ⟨rfl, hk⟩ := hk
        exact ⟨[.int k' n'], by simp [rdV, rd, inR_of_wf hk], by simp [Value.oneCell'], by simp [HasL, HasS]⟩
      · simp at h
    · rename_i hu; simp [shOf, hu] at hs
    · rename_i x hu
      simp only [shOf, hu, Option.some.injEq] at hs
      subst hs
      split at h
      · rename_i hk
        simp only [Option.some.injEq, Prod.mk.injEq] at h
        obtain ⟨rfl, _⟩ := h
        have hsz := hw x.data.toList.length (by simp [DataW.weights])
        exact ⟨[.str x], by simp [rdV, rd, hk], by simp [Value.oneCell'], by simp only [HasL, HasS]; exact ⟨_, _, rfl, ⟨x, rfl, by rw [Array.length_toList] at hsz; exact hsz⟩, rfl⟩⟩
      · simp at h
    · rename_i hu; simp [shOf, hu] at hs
    · rename_i hu; simp [shOf, hu] at hs
    · rename_i e hu
      simp only [shOf, hu] at hs
      split at hs
      rotate_left
      · simp at hs
      rename_i hk0
      rw [Option.map_eq_some_iff] at hs
      obtain ⟨c, hc, rfl⟩ := hs
      exact ⟨[.sl (P.cellsOf e) (P.bytesOf e) []], by simp only [rdV, rd]; exact ⟨_, _, rfl, ⟨none, 0, rfl, Nat.le_refl _, Nat.zero_le _, by simp, .inl ⟨trivial, fun _ => rfl⟩⟩, rfl⟩, by simp [Value.oneCell'], by simp [HasL, HasS]⟩
    · rename_i e a len cap hu
      simp only [shOf, hu] at hs
      split at hs
      rotate_left
      · simp at hs
      rename_i hk0
      rw [Option.map_eq_some_iff] at hs
      obtain ⟨c, hc, rfl⟩ := hs
      simp only at h
      split at h
      · rename_i hb
        obtain ⟨_, hb1, hb2⟩ := hb
        cases hm : (List.range len).mapM (fun i => (w.cells? 0 (a.add (i * P.cellsOf e)) (P.cellsOf e)).bind (DataW.trod enc P w 0 (fun _ => true) true fuel e)) with
        | none => rw [hm] at h; simp at h
        | some elems =>
          rw [hm] at h
          simp only [Option.bind_some, if_true, Option.map_eq_some_iff] at h
          obtain ⟨rest, hr, h⟩ := h
          simp only [Prod.mk.injEq] at h
          obtain ⟨rfl, rfl⟩ := h
          simp only [DataW.weights, hu, List.mem_cons, List.mem_append, List.length_map] at hw
          obtain ⟨m1, m2⟩ := mapM_some hm
          rw [List.length_range] at m1
          have hsz := hw _ (.inl rfl)
          have hlen : len * P.bytesOf e ≤ L := Nat.le_trans (Nat.mul_le_mul_right _ (by omega)) hsz
          have hel : ∀ i, i < len → ∃ cs ds, w.cells? 0 (a.add (i * P.cellsOf e)) (P.cellsOf e) = some cs ∧ rdV cur [] w.heap ds cs ∧ (∀ v ∈ cs, v.oneCell' = true) ∧ HasL L c ds := by
            intro i hi
            obtain ⟨y, hy, hy'⟩ := m2 i i (by rw [List.getElem?_range hi])
            rw [Option.bind_eq_some_iff] at hy'
            obtain ⟨cs, hcs, hy'⟩ := hy'
            obtain ⟨d', p'⟩ := y
            have hmem : d' ∈ elems.map (·.1) := List.mem_map.2 ⟨_, List.mem_of_getElem? hy, rfl⟩
            obtain ⟨ds, b1, b2, b3⟩ := trod_rd hL hy' hc (fun x hx => hw x (.inr (.inl (weightsAll_mem hmem x hx))))
            exact ⟨cs, ds, hcs, b1, b2, b3⟩
          by_cases h0 : len = 0
          · subst h0
            exact ⟨[.sl (P.cellsOf e) (P.bytesOf e) []], by simp only [rdV, rd]; exact ⟨_, _, rfl, ⟨some a, cap, rfl, Nat.zero_le _, hb2, by simp, .inl ⟨trivial, fun hh => by simp at hh⟩⟩, rfl⟩, by simp [Value.oneCell'], by simp [HasL, HasS]⟩
          · obtain ⟨blk, off, spot⟩ := a
            obtain ⟨cs0, ds0, hcs0, _, _, _⟩ := hel 0 (by omega)
            obtain ⟨l1, l2⟩ := cells_get hcs0
            obtain ⟨v, hv⟩ : ∃ v, cs0[0]? = some v := ⟨_, List.getElem?_eq_getElem (by omega)⟩
            have hc0 : w.cell? ⟨blk, off, spot⟩ = some v := by simpa [Addr.add] using l2 0 v hv
            obtain ⟨arr, ty, fz, hblk, hspot⟩ : ∃ arr ty fz, w.heap[blk]? = some (.cells arr ty fz) ∧ spot = none := by
              simp only [World.cell?] at hc0
              split at hc0
              · rename_i arr ty fz hb
                split at hc0
                · simp at hc0
                · rename_i hsp
                  exact ⟨arr, ty, fz, hb, by simpa using hsp⟩
              · simp at hc0
            subst hspot
            obtain ⟨es, e1, e2, e3⟩ := rows_of (cur := cur) (M := []) (h := w.heap) (arr := arr) (k := P.cellsOf e) (c := c) len off (fun i hi => by
              obtain ⟨cs, ds, hcs, b1, b2, b3⟩ := hel i hi
              obtain ⟨l1, l2⟩ := cells_get hcs
              refine ⟨ds, by rw [rdV_len b1, l1], rdC_of_rdV b1 b2 fun j u hu => ?_, b3⟩
              have := l2 j u hu
              rw [add_none, add_none] at this
              simpa [World.cell?, hblk] using this)
            refine ⟨[.sl (P.cellsOf e) (P.bytesOf e) es], ?_, by simp [Value.oneCell'], by simp only [HasL, HasS]; exact ⟨_, _, rfl, ⟨es, rfl, by rw [e1]; exact hlen, e3⟩, rfl⟩⟩
            simp only [rdV, rd]
            exact ⟨_, _, rfl, ⟨_, _, by rw [e1], by omega, hb2, by rw [e1]; omega, .inr ⟨blk, off, arr, ty, fz, rfl, by simp, hblk, e2⟩⟩, rfl⟩
      · simp at h
    · rename_i fs hu
      simp only [shOf, hu] at hs
      split at hs
      · rename_i l e hf
        split at hs
        · rename_i he
          simp only [Option.some.injEq] at hs
          subst hs
          subst he
          split at h
          · rename_i hlen
            simp only [Option.map_eq_some_iff] at h
            obtain ⟨xs, hxs, h⟩ := h
            simp only [Prod.mk.injEq] at h
            obtain ⟨rfl, rfl⟩ := h
            simp only [DataW.weights, hu] at hw
            have := fields_rd (cur := cur) (fun h1 h2 h3 => trod_rd hL h1 h2 h3) _ fs.toList 0 (P.cellsOf t) l xs hxs hf hw
            simpa [← hlen] using this
          · simp at h
        · simp at hs
      · simp at hs
    all_goals first | (simp at h; done) | (rename_i hu; simp [shOf, hu] at hs; done)

/-- An argument of a shape that is known: the datum that it reads as. -/
def isAggT (P : Program) (t : TypeId) : Bool := match P.underlying t with | some (.struct _) => true | _ => false
theorem arg_rd {L base n : Nat} (hL : L ≤ 140737488355328) {t : TypeId} {v : Value} {d : DataW H} {ps : List MemPlace} {shs : List Sh} (hv : Value.okWide P w .any base t v) (h : DataW.Trod enc P w 0 (fun _ => true) true t v d ps) (hs : shOf P n t = some shs)
    (hw : ∀ x ∈ d.weights P t, x ≤ L) : ∃ ds, HasL L shs ds ∧ if isAggT P t then rd cur [] w.heap (.agg ds) v else rdV cur [] w.heap ds [v] := by
  obtain ⟨fuel, h⟩ := h
  obtain ⟨ds, h1, h2, h3⟩ := trod_rd (cur := cur) hL h hs hw
  refine ⟨ds, h3, ?_⟩
  unfold isAggT
  split
  · rename_i fs hu
    simp only [if_true]
    simp only [Value.okWide, hu] at hv
    obtain ⟨cs, rfl, _, _⟩ := hv
    simp only [rd]
    exact ⟨cs, rfl, h1⟩
  · rename_i hu
    have hag : v.cells = #[v] := by
      cases n with
      | zero => simp [shOf] at hs
      | succ n =>
        cases v <;> first | rfl | skip
        rename_i cs
        unfold shOf at hs
        unfold Value.okWide at hv
        cases hu' : P.underlying t with
        | none => simp [hu'] at hs
        | some ty =>
          rw [hu'] at hs hv
          cases ty <;> simp [Cell.okWide, Cell.ok, hu'] at hs hv
          exact absurd hu' (hu _)
    rw [hag] at h1
    simpa using h1

/-- All arguments at once. -/
def HasArgs (L : Nat) (P : Program) : List TypeId → List (List Sh) → List DVal → Prop
  | [], [], a => a = []
  | t :: ts, x :: xs, a => ∃ ds r, HasL L x ds ∧ a = (if isAggT P t then .agg ds else ds.headD .any) :: r ∧ HasArgs L P ts xs r
  | _, _, _ => False

theorem args_rd0 {L base n : Nat} (hL : L ≤ 140737488355328) : ∀ {ts : List TypeId} {vs : List Value} {ds : List (DataW H)} {ps : List MemPlace} {shs : List (List Sh)}, (∀ (j : Nat) t v, ts[j]? = some t → vs[j]? = some v → Value.okWide P w .any base t v) →
    DataW.TrodAll enc P w 0 (fun _ => true) true ts vs ds ps → ts.map (shOf P n) = shs.map some → (∀ x ∈ DataW.weightsEach P ts ds, x ≤ L) → ∃ das, rdV cur [] w.heap das vs ∧ HasArgs L P ts shs das
  | [], vs, ds, ps, shs, hv, hA, hs, hw => by
    obtain ⟨rfl, rfl, rfl⟩ := ChangeShapes.trodAll_nil hA
    cases shs with
    | nil => exact ⟨[], by simp [rdV], by simp [HasArgs]⟩
    | cons a b => simp at hs
  | t :: ts, vs, ds, ps, shs, hv, hA, hs, hw => by
    obtain ⟨v, vr, d, dr, p, q, rfl, rfl, rfl, h0, hr⟩ := ChangeShapes.trodAll_cons hA
    cases shs with
    | nil => simp at hs
    | cons x xs =>
      simp only [List.map_cons, List.cons.injEq] at hs
      simp only [DataW.weightsEach, List.mem_append] at hw
      obtain ⟨das, a1, a2⟩ := args_rd0 hL (fun j t v h1 h2 => hv (j + 1) t v (by simpa using h1) (by simpa using h2)) hr hs.2 (fun y hy => hw y (.inr hy))
      obtain ⟨dd, b1, b2⟩ := arg_rd (cur := cur) hL (hv 0 t v rfl rfl) h0 hs.1 (fun y hy => hw y (.inl hy))
      refine ⟨(if isAggT P t then .agg dd else dd.headD .any) :: das, ?_, by simp only [HasArgs]; exact ⟨dd, das, b1, rfl, a2⟩⟩
      simp only [rdV]
      refine ⟨v, vr, rfl, ?_, a1⟩
      split
      · rename_i h; rw [if_pos h] at b2; exact b2
      · rename_i h
        rw [if_neg h] at b2
        cases dd with
        | nil => simp [rdV] at b2
        | cons d0 dr =>
          simp only [rdV] at b2
          obtain ⟨u, r, hu, hd0, _⟩ := b2
          simp only [List.cons.injEq] at hu
          rw [hu.1]
          simpa using hd0

theorem args_rd {L base n : Nat} {ts : List TypeId} {vs : List Value} {ds : List (DataW H)} {ps : List MemPlace} {shs : List (List Sh)} (h1 : ∀ (j : Nat) t v, ts[j]? = some t → vs[j]? = some v → Value.okWide P w .any base t v)
    (h2 : DataW.TrodAll enc P w 0 (fun _ => true) true ts vs ds ps) (h3 : ts.map (shOf P n) = shs.map some) (h4 : ∀ x ∈ DataW.weightsEach P ts ds, x ≤ L) (hL : L ≤ 140737488355328 := by omega) : ∃ das, rdV cur [] w.heap das vs ∧ HasArgs L P ts shs das := args_rd0 hL h1 h2 h3 h4

theorem Upd.below {a b : World} (h : Upd [] a b) : RowKit.Below a.heap.size a b := ⟨h.os, h.tape, h.output, h.size, fun k hk => h.blk k hk (by simp)⟩

theorem trodAll_stays (hl : laidOutB P = true) {W W' : World} {sp : Nat → Bool} : ∀ {ts : List TypeId} {vs : List Value} {ds : List (DataW H)} {ps : List MemPlace}, (∀ t ∈ ts, P.readableRec t = true ∧ t < P.types.size) →
    DataW.TrodAll enc P W 0 (fun _ => true) true ts vs ds ps → (∀ p ∈ ps, W.sameAt W' p) → (∀ p ∈ ps, sp p.block = true) → DataW.TrodAll enc P W' 0 sp true ts vs ds ps
  | [], vs, ds, ps, ht, hA, h1, h2 => by
    obtain ⟨rfl, rfl, rfl⟩ := ChangeShapes.trodAll_nil hA
    rfl
  | t :: ts, vs, ds, ps, ht, hA, h1, h2 => by
    obtain ⟨v, vr, d, dr, p, q, rfl, rfl, rfl, h0, hr⟩ := ChangeShapes.trodAll_cons hA
    obtain ⟨k1, k2⟩ := ht t (by simp)
    exact ⟨p, q, WideElems.Trod_stays hl k1 k2 h0 (fun x hx => h1 x (by simp [hx])) (fun x hx => h2 x (by simp [hx])), trodAll_stays hl (fun t h => ht t (by simp [h])) hr (fun x hx => h1 x (by simp [hx])) (fun x hx => h2 x (by simp [hx])), rfl⟩

/-- What a law's row asks behind the call, where the law answers true and leaves what it read as it was. -/
theorem law_post {fn : Func} {s : ChangeSpec} {fresh handsOn : Bool} {tb : TypeId} {W W' : World} {args : Array Value} {ds gs : List (DataW H)} {before : List MemPlace} (hl : laidOutB P = true)
    (hall : ∀ t ∈ fn.params.toList, P.readableRec t = true ∧ t < P.types.size) (hr : fn.resultTypes = #[tb]) (hub : P.underlying tb = some .bool) (hvars : s.vars = [])
    (hs : s.fn H (ds ++ gs) = { results := [.lit (.bool true)], args := ds }) (hW : DataW.Whole enc P fn.params.toList s.vars false W args.toList ds gs before) (hu : Upd [] W W') :
    s.post enc P fn false fresh handsOn false W args (.bool true) W' := by
  have hW' := hW
  obtain ⟨p, q, hA, hV, rfl, hfz, hnd⟩ := hW
  have hlt : ∀ x ∈ p, x.block < W.heap.size := fun x hx => hW'.lt x (by simp [hx])
  have hb := hu.below
  refine ⟨ds, gs, p ++ q, [], p, [], hW', ?_, ?_, ?_, hb.frame _, fun h => by cases h⟩
  · rw [hs, hr]
    exact ChangeShapes.trodAll_mk1 (RowKit.shut_bool hub true)
  · rw [hs]
    exact trodAll_stays hl hall hA (fun x hx => hb.same (hlt x hx)) (fun x hx => by simpa using hlt x hx)
  · rw [hs, hvars]
    rfl

theorem law_contract {f : FuncId} {fn : Func} {s : ChangeSpec} {fresh handsOn : Bool} {tb : TypeId} {W : World} {args : Array Value} {das : List DVal} {ds gs : List (DataW H)} {before : List MemPlace} (hl : laidOutB P = true)
    (hall : ∀ t ∈ fn.params.toList, P.readableRec t = true ∧ t < P.types.size) (hr : fn.resultTypes = #[tb]) (hub : P.underlying tb = some .bool) (hvars : s.vars = [])
    (hs : s.fn H (ds ++ gs) = { results := [.lit (.bool true)], args := ds }) (hW : DataW.Whole enc P fn.params.toList s.vars false W args.toList ds gs before)
    (hrd : rdV (fun _ _ => none) [] W.heap das args.toList) (hd : DPure P f das (.bool true)) :
    Calls P f args W fun e W' => ∃ v, e = .returned v ∧ s.post enc P fn false fresh handsOn false W args v W' := by
  refine (hd.2.2 _ [] W args (by simp) hrd).mono fun e W' ⟨v, he, hu, hv⟩ => ⟨.bool true, ?_, law_post hl hall hr hub hvars hs hW hu⟩
  simp only [rd] at hv
  rw [he, hv]
end

/-- A list of rows of one form. -/
theorem rows_form {α : Type} {f : α → List DVal} : ∀ {es : List (List DVal)}, (∀ e ∈ es, ∃ x, e = f x) → ∃ l : List α, es = l.map f
  | [], _ => ⟨[], rfl⟩
  | e :: es, h => by
    obtain ⟨x, rfl⟩ := h e (by simp)
    obtain ⟨l, rfl⟩ := rows_form (es := es) (f := f) (fun e he => h e (by simp [he]))
    exact ⟨x :: l, rfl⟩
end Go.Dm
end

section
/- What the statements share: shapes of the argument types. -/



set_option linter.unusedSimpArgs false
set_option linter.unusedVariables false
namespace Go.Proofs.Ytnmbgbeajacpfaa
open Go Go.Dm
open Go.ChangeShapes Go.WideShapes Go.ChangeAt Go.RowKit

theorem own : ownKnob Try.prog.godebug = none := by kernel_rfl
theorem laidOut : laidOutB Try.prog = true := by kernel_rfl

theorem reach_le {l : List Nat} (h : l.all (· ≤ reachBytes) = true) : ∀ x ∈ l, x ≤ 140737488355328 := fun x hx => by
  have := List.all_eq_true.1 h x hx
  have h2 := reachBytes_lt
  simp only [decide_eq_true_eq] at this
  omega

theorem has_int {L : Nat} {k : IntKind} {ds : List DVal} (h : HasL L [.i k] ds) : ∃ n : Int, ds = [.int k n] := by
  simp only [HasL, HasS] at h
  obtain ⟨_, _, rfl, ⟨n, rfl⟩, rfl⟩ := h
  exact ⟨n, rfl⟩
end Go.Proofs.Ytnmbgbeajacpfaa
end

section
/- Shapes of automata's argument types. -/


set_option linter.unusedSimpArgs false
set_option linter.unusedVariables false
namespace Go.Proofs.Ytnmbgbeajacpfaa
open Go Go.Dm
open Go.ChangeShapes Go.WideShapes Go.ChangeAt Go.RowKit

def shNum : List Sh := [.i .i64]
def shArc : List Sh := [.i .i64, .b, .i .i64, .i .i64]
def shAuto : List Sh := [.i .i64, .sl 1 8 shNum, .sl 4 32 shArc]
theorem has_num {L : Nat} {ds : List DVal} (h : HasL L shNum ds) : ∃ n : Int, ds = dNum n := has_int h
theorem has_arc {L : Nat} {ds : List DVal} (h : HasL L shArc ds) : ∃ x : Arc, ds = dArc x := by
  simp only [shArc, HasL, HasS] at h
  obtain ⟨_, _, rfl, ⟨a, rfl⟩, _, _, rfl, ⟨b, rfl⟩, _, _, rfl, ⟨n, rfl⟩, _, _, rfl, ⟨t, rfl⟩, rfl⟩ := h
  exact ⟨⟨a, ⟨b, n⟩, t⟩, rfl⟩
theorem has_auto {L : Nat} {ds : List DVal} (h : HasL L shAuto ds) : ∃ a : Auto, ds = dAuto a := by
  simp only [shAuto, HasL, HasS] at h
  obtain ⟨_, _, rfl, ⟨n, rfl⟩, _, _, rfl, ⟨e1, rfl, z1, h1⟩, _, _, rfl, ⟨e2, rfl, z2, h2⟩, rfl⟩ := h
  obtain ⟨l1, rfl⟩ := rows_form (fun e h => has_num (h1 e h))
  obtain ⟨l2, rfl⟩ := rows_form (fun e h => has_arc (h2 e h))
  exact ⟨⟨n, l1, l2⟩, rfl⟩
end Go.Proofs.Ytnmbgbeajacpfaa
end

