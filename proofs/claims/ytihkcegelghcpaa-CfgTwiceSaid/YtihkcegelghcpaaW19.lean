/- A part of a proof: walks over the functions that it names; their contracts hold for every argument. -/
import Derived.Test.YtihkcegelghcpaaW25
set_option linter.unusedSimpArgs false
set_option linter.unusedVariables false
namespace Go.Proofs.Ytihkcegelghcpaa
open Go Go.Dm
attribute [local irreducible] DW callP callS
set_option maxRecDepth 100000

def anW19115 : Ann := ⟨[], []⟩
theorem there_nil : DPure Try.prog 115 [.nilp] (.bool false) := by
  refine DPure_introF [] (fn := Try.f115) Try.func115 rfl Try.call115 (by simp [Try.ntmps115]) (by simp [mx]) ?_
  intro hwf B hnt
  simp only [argS]
  (repeat (first
      | (refine DW_seq fun K hK => ?_)
      | (refine DW_r anW19115 Try.mixed (by kernel_rfl) ?_; simp [hnt, Try.ntmps115, Try.results115, anW19115]; try simp (disch := omega) only [wrap64_in])
      | (refine DW_block ?_)
      | (focus (refine DW_if ?_ ?_ ?_; (· (simp [hnt, Try.ntmps115, Try.results115, anW19115]; done)); (try (rotate_left; (· (intro hc; (try simp [hnt, Try.ntmps115, Try.results115, anW19115] at hc); done))))))
      | (refine DW_ret ?_; simp [hnt, Try.ntmps115, Try.results115, anW19115])
      | (refine DW_exit ?_; simp [hnt, Try.ntmps115, Try.results115, anW19115])
      | (refine DW_skip ?_; simp [hnt, Try.ntmps115, Try.results115, anW19115])
      | (intro hc; (try simp [hnt, Try.ntmps115, Try.results115, anW19115] at hc); done)
      | (intro hc; (try simp [hnt, Try.ntmps115, Try.results115, anW19115] at hc); (first | (exfalso; omega) | skip))
      | (refine ⟨?_, ?_⟩; · omega)
      | omega
      | apply_assumption -exfalso -symm
      | (exfalso; omega)))
def anW1982 : Ann := ⟨[], []⟩
theorem states_nil : DPure Try.prog 82 [.nilp] (.int .i64 0) := by
  refine DPure_introF [] (fn := Try.f82) Try.func82 rfl Try.call82 (by simp [Try.ntmps82]) (by simp [mx]) ?_
  intro hwf B hnt
  simp only [argS]
  (repeat (first
      | (refine DW_seq fun K hK => ?_)
      | (refine DW_r anW1982 Try.mixed (by kernel_rfl) ?_; simp [hnt, Try.ntmps82, Try.results82, anW1982]; try simp (disch := omega) only [wrap64_in])
      | (refine DW_block ?_)
      | (focus (refine DW_if ?_ ?_ ?_; (· (simp [hnt, Try.ntmps82, Try.results82, anW1982]; done)); (try (rotate_left; (· (intro hc; (try simp [hnt, Try.ntmps82, Try.results82, anW1982] at hc); done))))))
      | (refine DW_ret ?_; simp [hnt, Try.ntmps82, Try.results82, anW1982])
      | (refine DW_exit ?_; simp [hnt, Try.ntmps82, Try.results82, anW1982])
      | (refine DW_skip ?_; simp [hnt, Try.ntmps82, Try.results82, anW1982])
      | (intro hc; (try simp [hnt, Try.ntmps82, Try.results82, anW1982] at hc); done)
      | (intro hc; (try simp [hnt, Try.ntmps82, Try.results82, anW1982] at hc); (first | (exfalso; omega) | skip))
      | (refine callP_mk (there_nil) ?_; try simp [hnt, Try.ntmps82, Try.results82, anW1982])
      | (refine callP_wk (there_nil) ?_ ?_; (· (simp; done)); try simp [hnt, Try.ntmps82, Try.results82, anW1982])
      | (refine ⟨?_, ?_⟩; · omega)
      | omega
      | apply_assumption -exfalso -symm
      | (exfalso; omega)))
def anW1946 : Ann := ⟨[], [⟨22, [12], [], []⟩]⟩
theorem cfgOf_nil : DPure Try.prog 46 [.nilp] (.tup [.agg [.int .i64 0, .nilsl], .int .i64 1]) := by
  refine DPure_introF [] (fn := Try.f46) Try.func46 rfl Try.call46 (by simp [Try.ntmps46]) (by simp [mx]) ?_
  intro hwf B hnt
  simp only [argS]
  (repeat (first
      | (refine DW_seq fun K hK => ?_)
      | (refine DW_r anW1946 Try.mixed (by kernel_rfl) ?_; simp [hnt, Try.ntmps46, Try.results46, anW1946]; try simp (disch := omega) only [wrap64_in])
      | (refine DW_block ?_)
      | (focus (refine DW_if ?_ ?_ ?_; (· (simp [hnt, Try.ntmps46, Try.results46, anW1946]; done)); (try (rotate_left; (· (intro hc; (try simp [hnt, Try.ntmps46, Try.results46, anW1946] at hc); done))))))
      | (refine DW_ret ?_; simp [hnt, Try.ntmps46, Try.results46, anW1946])
      | (refine DW_exit ?_; simp [hnt, Try.ntmps46, Try.results46, anW1946])
      | (refine DW_skip ?_; simp [hnt, Try.ntmps46, Try.results46, anW1946])
      | (intro hc; (try simp [hnt, Try.ntmps46, Try.results46, anW1946] at hc); done)
      | (intro hc; (try simp [hnt, Try.ntmps46, Try.results46, anW1946] at hc); (first | (exfalso; omega) | skip))
      | (refine callP_mk (states_nil) ?_; try simp [hnt, Try.ntmps46, Try.results46, anW1946])
      | (refine callP_wk (states_nil) ?_ ?_; (· (simp; done)); try simp [hnt, Try.ntmps46, Try.results46, anW1946])
      | (refine ⟨?_, ?_⟩; · omega)
      | omega
      | apply_assumption -exfalso -symm
      | (exfalso; omega)))
def anW1919 : Ann := ⟨[], [⟨1, [1], [], []⟩]⟩
theorem head12_pure : DPure Try.prog 19 [] (.bool true) := by
  refine DPure_introF [] (fn := Try.f19) Try.func19 rfl Try.call19 (by simp [Try.ntmps19]) (by simp [mx]) ?_
  intro hwf B hnt
  simp only [argS]
  have h1 := check_pure ⟨0, []⟩
  have h2 := check_pure ⟨1, []⟩
  simp [dCnf, cnfOK, dProds] at h1 h2
  (repeat (first
      | (refine DW_seq fun K hK => ?_)
      | (refine DW_r anW1919 Try.mixed (by kernel_rfl) ?_; simp [hnt, Try.ntmps19, Try.results19, anW1919]; try simp (disch := omega) only [wrap64_in])
      | (refine DW_block ?_)
      | (focus (refine DW_if ?_ ?_ ?_; (· (simp [hnt, Try.ntmps19, Try.results19, anW1919]; done)); (try (rotate_left; (· (intro hc; (try simp [hnt, Try.ntmps19, Try.results19, anW1919] at hc); done))))))
      | (refine DW_ret ?_; simp [hnt, Try.ntmps19, Try.results19, anW1919])
      | (refine DW_exit ?_; simp [hnt, Try.ntmps19, Try.results19, anW1919])
      | (refine DW_skip ?_; simp [hnt, Try.ntmps19, Try.results19, anW1919])
      | (intro hc; (try simp [hnt, Try.ntmps19, Try.results19, anW1919] at hc); done)
      | (intro hc; (try simp [hnt, Try.ntmps19, Try.results19, anW1919] at hc); (first | (exfalso; omega) | skip))
      | (refine callP_mk (cfgOf_nil) ?_; try simp [hnt, Try.ntmps19, Try.results19, anW1919])
      | (refine callP_wk (cfgOf_nil) ?_ ?_; (· (simp; done)); try simp [hnt, Try.ntmps19, Try.results19, anW1919])
      | (refine callP_mk (h1) ?_; try simp [hnt, Try.ntmps19, Try.results19, anW1919])
      | (refine callP_wk (h1) ?_ ?_; (· (simp; done)); try simp [hnt, Try.ntmps19, Try.results19, anW1919])
      | (refine callP_mk (h2) ?_; try simp [hnt, Try.ntmps19, Try.results19, anW1919])
      | (refine callP_wk (h2) ?_ ?_; (· (simp; done)); try simp [hnt, Try.ntmps19, Try.results19, anW1919])
      | (refine ⟨?_, ?_⟩; · omega)
      | omega
      | apply_assumption -exfalso -symm
      | (exfalso; omega)))
end Go.Proofs.Ytihkcegelghcpaa
