/- A part of a proof: walks over the functions that it names; their contracts hold for every argument. -/
import Derived.Test.YtihkcegelghcpaaW0
set_option linter.unusedSimpArgs false
set_option linter.unusedVariables false
namespace Go.Proofs.Ytihkcegelghcpaa
open Go Go.Dm
attribute [local irreducible] DW callP callS

def formOf : List Sym → Int
  | [] => 1
  | [s] => if s.label then 2 else 0
  | [s, t] => if !s.label && !t.label then 3 else 0
  | _ => 0


def anW4343 : Ann := ⟨[], []⟩
set_option maxRecDepth 100000 in
theorem of_pure (l : List Sym) : DPure Try.prog 43 [dSyms l] (.int .i64 (formOf l)) := by
  refine DPure_introF [] (fn := Try.f43) Try.func43 rfl Try.call43 (by simp [Try.ntmps43]) (by simp [mx]) ?_
  intro hwf B hnt
  simp only [argS]
  match l with
  | [] => (repeat (first
      | (refine DW_seq fun K hK => ?_)
      | (refine DW_r anW4343 Try.mixed (by kernel_rfl) ?_; simp [hnt, Try.ntmps43, Try.results43, anW4343, dSym, formOf]; try simp (disch := omega) only [wrap64_in])
      | (refine DW_block ?_)
      | (focus (refine DW_if ?_ ?_ ?_; (· (simp [hnt, Try.ntmps43, Try.results43, anW4343, dSym, formOf]; done)); (try (rotate_left; (· (intro hc; (try simp [hnt, Try.ntmps43, Try.results43, anW4343, dSym, formOf] at hc); done))))))
      | (refine DW_ret ?_; simp [hnt, Try.ntmps43, Try.results43, anW4343, dSym, formOf])
      | (refine DW_exit ?_; simp [hnt, Try.ntmps43, Try.results43, anW4343, dSym, formOf])
      | (refine DW_skip ?_; simp [hnt, Try.ntmps43, Try.results43, anW4343, dSym, formOf])
      | (intro hc; (try simp [hnt, Try.ntmps43, Try.results43, anW4343, dSym, formOf] at hc); done)
      | (intro hc; (try simp [hnt, Try.ntmps43, Try.results43, anW4343, dSym, formOf] at hc); (first | (exfalso; omega) | skip))
      | (refine ⟨?_, ?_⟩; · omega)
      | omega
      | apply_assumption -exfalso -symm
      | (exfalso; omega)))
  | [s] =>
    cases hl : s.label <;> (repeat (first
        | (refine DW_seq fun K hK => ?_)
        | (refine DW_r anW4343 Try.mixed (by kernel_rfl) ?_; simp [hnt, Try.ntmps43, Try.results43, anW4343, dSym, formOf, hl]; try simp (disch := omega) only [wrap64_in])
        | (refine DW_block ?_)
        | (focus (refine DW_if ?_ ?_ ?_; (· (simp [hnt, Try.ntmps43, Try.results43, anW4343, dSym, formOf, hl]; done)); (try (rotate_left; (· (intro hc; (try simp [hnt, Try.ntmps43, Try.results43, anW4343, dSym, formOf, hl] at hc); done))))))
        | (refine DW_ret ?_; simp [hnt, Try.ntmps43, Try.results43, anW4343, dSym, formOf, hl])
        | (refine DW_exit ?_; simp [hnt, Try.ntmps43, Try.results43, anW4343, dSym, formOf, hl])
        | (refine DW_skip ?_; simp [hnt, Try.ntmps43, Try.results43, anW4343, dSym, formOf, hl])
        | (intro hc; (try simp [hnt, Try.ntmps43, Try.results43, anW4343, dSym, formOf, hl] at hc); done)
        | (intro hc; (try simp [hnt, Try.ntmps43, Try.results43, anW4343, dSym, formOf, hl] at hc); (first | (exfalso; omega) | skip))
        | (refine ⟨?_, ?_⟩; · omega)
        | omega
        | apply_assumption -exfalso -symm
        | (exfalso; omega)))
  | [s, t] =>
    (repeat (first
        | (refine DW_seq fun K hK => ?_)
        | (refine DW_r anW4343 Try.mixed (by kernel_rfl) ?_; simp [hnt, Try.ntmps43, Try.results43, anW4343, dSym, formOf]; try simp (disch := omega) only [wrap64_in])
        | (refine DW_block ?_)
        | (focus (refine DW_if ?_ ?_ ?_; (· (simp [hnt, Try.ntmps43, Try.results43, anW4343, dSym, formOf]; done)); (try (rotate_left; (· (intro hc; (try simp [hnt, Try.ntmps43, Try.results43, anW4343, dSym, formOf] at hc); done))))))
        | (refine DW_ret ?_; simp [hnt, Try.ntmps43, Try.results43, anW4343, dSym, formOf])
        | (refine DW_exit ?_; simp [hnt, Try.ntmps43, Try.results43, anW4343, dSym, formOf])
        | (refine DW_skip ?_; simp [hnt, Try.ntmps43, Try.results43, anW4343, dSym, formOf])
        | (intro hc; (try simp [hnt, Try.ntmps43, Try.results43, anW4343, dSym, formOf] at hc); done)
        | (intro hc; (try simp [hnt, Try.ntmps43, Try.results43, anW4343, dSym, formOf] at hc); (first | (exfalso; omega) | skip))
        | (refine ⟨?_, ?_⟩; · omega)
        | omega
        | apply_assumption -exfalso -symm
        | (exfalso; omega)))
  | s :: t :: u :: r =>
    (repeat (first
        | (refine DW_seq fun K hK => ?_)
        | (refine DW_r anW4343 Try.mixed (by kernel_rfl) ?_; simp [hnt, Try.ntmps43, Try.results43, anW4343, dSym, formOf]; try simp (disch := omega) only [wrap64_in])
        | (refine DW_block ?_)
        | (focus (refine DW_if ?_ ?_ ?_; (· (simp [hnt, Try.ntmps43, Try.results43, anW4343, dSym, formOf]; done)); (try (rotate_left; (· (intro hc; (try simp [hnt, Try.ntmps43, Try.results43, anW4343, dSym, formOf] at hc); done))))))
        | (refine DW_ret ?_; simp [hnt, Try.ntmps43, Try.results43, anW4343, dSym, formOf])
        | (refine DW_exit ?_; simp [hnt, Try.ntmps43, Try.results43, anW4343, dSym, formOf])
        | (refine DW_skip ?_; simp [hnt, Try.ntmps43, Try.results43, anW4343, dSym, formOf])
        | (intro hc; (try simp [hnt, Try.ntmps43, Try.results43, anW4343, dSym, formOf] at hc); done)
        | (intro hc; (try simp [hnt, Try.ntmps43, Try.results43, anW4343, dSym, formOf] at hc); (first | (exfalso; omega) | skip))
        | (refine ⟨?_, ?_⟩; · omega)
        | omega
        | apply_assumption -exfalso -symm
        | (exfalso; omega)))
end Go.Proofs.Ytihkcegelghcpaa
