/- A part of a proof: walks over the functions that it names; their contracts hold for every argument. -/
import Derived.Test.YtihkcegelghcpaaW0
set_option linter.unusedSimpArgs false
set_option linter.unusedVariables false
namespace Go.Proofs.Ytihkcegelghcpaa
open Go Go.Dm
attribute [local irreducible] DW callP callS
def anW4444 : Ann := ⟨[], []⟩
def anW4444b1 : Ann := ⟨[5], []⟩
set_option maxRecDepth 100000 in
theorem clone_pure (l : List Sym) : DPure Try.prog 44 [dSyms l] (dSyms l) := by
  match l with
  | [] =>
    refine DPure_sl [] ?_ ?_
    · refine DPure_introF [7] (fn := Try.f44) Try.func44 rfl Try.call44 (by simp [Try.ntmps44]) (by simp [mx, mxR]) ?_
      intro hwf B hnt
      simp only [argS, List.nil_append, dSyms, List.map_cons]
      (repeat (first
          | (refine DW_seq fun K hK => ?_)
          | (refine DW_r anW4444 Try.mixed (by kernel_rfl) ?_; simp [hnt, Try.ntmps44, Try.results44, anW4444]; try simp (disch := omega) only [wrap64_in])
          | (refine DW_block ?_)
          | (focus (refine DW_if ?_ ?_ ?_; (· (simp [hnt, Try.ntmps44, Try.results44, anW4444]; done)); (try (rotate_left; (· (intro hc; (try simp [hnt, Try.ntmps44, Try.results44, anW4444] at hc); done))))))
          | (refine DW_ret ?_; simp [hnt, Try.ntmps44, Try.results44, anW4444])
          | (refine DW_exit ?_; simp [hnt, Try.ntmps44, Try.results44, anW4444])
          | (refine DW_skip ?_; simp [hnt, Try.ntmps44, Try.results44, anW4444])
          | (intro hc; (try simp [hnt, Try.ntmps44, Try.results44, anW4444] at hc); done)
          | (intro hc; (try simp [hnt, Try.ntmps44, Try.results44, anW4444] at hc); (first | (exfalso; omega) | skip))
          | (refine ⟨?_, ?_⟩; · omega)
          | omega
          | apply_assumption -exfalso -symm
          | (exfalso; omega)))
    · refine DPure_introF [7, 5] (fn := Try.f44) Try.func44 rfl Try.call44 (by simp [Try.ntmps44]) (by simp [mx, mxR]) ?_
      intro hwf B hnt
      simp only [argS, List.nil_append, dSyms, List.map_cons]
      (repeat (first
          | (refine DW_seq fun K hK => ?_)
          | (refine DW_r anW4444b1 Try.mixed (by kernel_rfl) ?_; simp [hnt, Try.ntmps44, Try.results44, anW4444b1]; try simp (disch := omega) only [wrap64_in])
          | (refine DW_block ?_)
          | (focus (refine DW_if ?_ ?_ ?_; (· (simp [hnt, Try.ntmps44, Try.results44, anW4444b1]; done)); (try (rotate_left; (· (intro hc; (try simp [hnt, Try.ntmps44, Try.results44, anW4444b1] at hc); done))))))
          | (refine DW_ret ?_; simp [hnt, Try.ntmps44, Try.results44, anW4444b1])
          | (refine DW_exit ?_; simp [hnt, Try.ntmps44, Try.results44, anW4444b1])
          | (refine DW_skip ?_; simp [hnt, Try.ntmps44, Try.results44, anW4444b1])
          | (intro hc; (try simp [hnt, Try.ntmps44, Try.results44, anW4444b1] at hc); done)
          | (intro hc; (try simp [hnt, Try.ntmps44, Try.results44, anW4444b1] at hc); (first | (exfalso; omega) | skip))
          | (refine ⟨?_, ?_⟩; · omega)
          | omega
          | apply_assumption -exfalso -symm
          | (exfalso; omega)))
  | s :: l =>
    refine DPure_introF [7, 5] (fn := Try.f44) Try.func44 rfl Try.call44 (by simp [Try.ntmps44]) (by simp [mx, mxR]) ?_
    intro hwf B hnt
    have hw : wSyms (s :: l) := w_syms hwf.1
    obtain ⟨hw1, hw2, hw3⟩ := hw
    clear hwf
    simp at hw1 hw2
    clear hw3
    simp only [argS, List.nil_append, dSyms, List.map_cons]
    (repeat (first
        | (refine DW_seq fun K hK => ?_)
        | (refine DW_r anW4444b1 Try.mixed (by kernel_rfl) ?_; simp [hnt, Try.ntmps44, Try.results44, anW4444b1]; try simp (disch := omega) only [wrap64_in])
        | (refine DW_block ?_)
        | (focus (refine DW_if ?_ ?_ ?_; (· (simp [hnt, Try.ntmps44, Try.results44, anW4444b1]; done)); (try (rotate_left; (· (intro hc; (try simp [hnt, Try.ntmps44, Try.results44, anW4444b1] at hc); done))))))
        | (refine DW_ret ?_; simp [hnt, Try.ntmps44, Try.results44, anW4444b1])
        | (refine DW_exit ?_; simp [hnt, Try.ntmps44, Try.results44, anW4444b1])
        | (refine DW_skip ?_; simp [hnt, Try.ntmps44, Try.results44, anW4444b1])
        | (intro hc; (try simp [hnt, Try.ntmps44, Try.results44, anW4444b1] at hc); done)
        | (intro hc; (try simp [hnt, Try.ntmps44, Try.results44, anW4444b1] at hc); (first | (exfalso; omega) | skip))
        | (refine ⟨?_, ?_⟩; · omega)
        | omega
        | apply_assumption -exfalso -symm
        | (exfalso; omega)))
end Go.Proofs.Ytihkcegelghcpaa
