/- A part of a proof: walks over the functions that it names; their contracts hold for every argument. -/
import Derived.Test.YtihkcegelghcpaaW45
set_option linter.unusedSimpArgs false
set_option linter.unusedVariables false
namespace Go.Proofs.Ytihkcegelghcpaa
open Go Go.Dm
attribute [local irreducible] DW callP
set_option maxRecDepth 100000

def anW1717 : Ann := ⟨[], []⟩
set_option maxHeartbeats 4000000 in
theorem ris_pure (c : Cnf) : DPure Try.prog 17 [.agg (dCnf c)] (.bool (cnfWeak c)) := by
  refine DPure_introF [] (fn := Try.f17) Try.func17 rfl Try.call17 (by simp [Try.ntmps17]) (by simp [mx]) ?_
  intro hwf B hnt
  have hw : wCnf c := w_cnf (by simpa [wfL, wfD] using hwf.1)
  obtain ⟨hw1, hw2, hw3, hw4⟩ := hw
  clear hwf
  simp only [argS]
  have hc := rcheck_pure c
  simp only [dCnf] at hc
  cases h0 : cnfOK c
  · rw [h0] at hc
    have hwk : cnfWeak c = false := by simp [cnfWeak, h0]
    (repeat (first
        | (refine DW_seq fun K hK => ?_)
        | (refine DW_r anW1717 Try.mixed (by kernel_rfl) ?_; simp [hnt, Try.ntmps17, Try.results17, anW1717, dCnf, hwk]; try simp (disch := omega) only [wrap64_in])
        | (refine DW_block ?_)
        | (focus (refine DW_if ?_ ?_ ?_; (· (simp [hnt, Try.ntmps17, Try.results17, anW1717, dCnf, hwk]; done)); (try (rotate_left; (· (intro hc; (try simp [hnt, Try.ntmps17, Try.results17, anW1717, dCnf, hwk] at hc); done))))))
        | (refine DW_ret ?_; simp [hnt, Try.ntmps17, Try.results17, anW1717, dCnf, hwk])
        | (refine DW_exit ?_; simp [hnt, Try.ntmps17, Try.results17, anW1717, dCnf, hwk])
        | (refine DW_skip ?_; simp [hnt, Try.ntmps17, Try.results17, anW1717, dCnf, hwk])
        | (intro hc; (try simp [hnt, Try.ntmps17, Try.results17, anW1717, dCnf, hwk] at hc); done)
        | (intro hc; (try simp [hnt, Try.ntmps17, Try.results17, anW1717, dCnf, hwk] at hc); (first | (exfalso; omega) | skip))
        | (refine callP_mk (hc) ?_; try simp [hnt, Try.ntmps17, Try.results17, anW1717, dCnf, hwk])
        | (refine callP_wk (hc) ?_ ?_; (· (simp; done)); try simp [hnt, Try.ntmps17, Try.results17, anW1717, dCnf, hwk])
        | (refine ⟨?_, ?_⟩; · omega)
        | apply_assumption -exfalso -symm
        | (exfalso; omega)))
  rw [h0] at hc
  have hwk : cnfWeak c = !c.prods.any isOther := by simp [cnfWeak, h0]
  (repeat (first
      | (refine DW_seq fun K hK => ?_)
      | (refine DW_r anW1717 Try.mixed (by kernel_rfl) ?_; simp [hnt, Try.ntmps17, Try.results17, anW1717, dCnf]; try simp (disch := omega) only [wrap64_in])
      | (refine DW_block ?_)
      | (focus (refine DW_if ?_ ?_ ?_; (· (simp [hnt, Try.ntmps17, Try.results17, anW1717, dCnf]; done)); (try (rotate_left; (· (intro hc; (try simp [hnt, Try.ntmps17, Try.results17, anW1717, dCnf] at hc); done))))))
      | (refine DW_ret ?_; simp [hnt, Try.ntmps17, Try.results17, anW1717, dCnf])
      | (refine DW_exit ?_; simp [hnt, Try.ntmps17, Try.results17, anW1717, dCnf])
      | (refine DW_skip ?_; simp [hnt, Try.ntmps17, Try.results17, anW1717, dCnf])
      | (intro hc; (try simp [hnt, Try.ntmps17, Try.results17, anW1717, dCnf] at hc); done)
      | (intro hc; (try simp [hnt, Try.ntmps17, Try.results17, anW1717, dCnf] at hc); (first | (exfalso; omega) | skip))
      | (refine callP_mk (hc) ?_; try simp [hnt, Try.ntmps17, Try.results17, anW1717, dCnf])
      | (refine callP_wk (hc) ?_ ?_; (· (simp; done)); try simp [hnt, Try.ntmps17, Try.results17, anW1717, dCnf])
      | (refine ⟨?_, ?_⟩; · omega)
      | apply_assumption -exfalso -symm
      | (exfalso; omega)))
  refine DW_loop (X := {k : Nat // k ≤ c.prods.length ∧ (c.prods.take k).any isOther = false}) (fun k => ⟨[(1, .ref [.int .i64 c.nts, dProds c.prods]), (3, .int .i64 k.1)], []⟩) (fun k => c.prods.length - k.1) ⟨0, by simp⟩ (Sub.lit (by simp)) ?_
  rintro ⟨k, hk, hkk⟩
  by_cases hlt : k < c.prods.length
  rotate_left
  · have hke : k = c.prods.length := by omega
    subst hke
    rw [List.take_length] at hkk
    rw [hkk] at hwk
    (repeat (first
        | (refine DW_seq fun K hK => ?_)
        | (refine DW_r anW1717 Try.mixed (by kernel_rfl) ?_; simp [hnt, Try.ntmps17, Try.results17, anW1717, dCnf, hwk]; try simp (disch := omega) only [wrap64_in])
        | (refine DW_block ?_)
        | (focus (refine DW_if ?_ ?_ ?_; (· (simp [hnt, Try.ntmps17, Try.results17, anW1717, dCnf, hwk]; done)); (try (rotate_left; (· (intro hc; (try simp [hnt, Try.ntmps17, Try.results17, anW1717, dCnf, hwk] at hc); done))))))
        | (refine DW_ret ?_; simp [hnt, Try.ntmps17, Try.results17, anW1717, dCnf, hwk])
        | (refine DW_exit ?_; simp [hnt, Try.ntmps17, Try.results17, anW1717, dCnf, hwk])
        | (refine DW_skip ?_; simp [hnt, Try.ntmps17, Try.results17, anW1717, dCnf, hwk])
        | (intro hc; (try simp [hnt, Try.ntmps17, Try.results17, anW1717, dCnf, hwk] at hc); done)
        | (intro hc; (try simp [hnt, Try.ntmps17, Try.results17, anW1717, dCnf, hwk] at hc); (first | (exfalso; omega) | skip))
        | (refine ⟨?_, ?_⟩; · omega)
        | apply_assumption -exfalso -symm
        | (exfalso; omega)))
  obtain ⟨p, hp, hp', hpm⟩ := at_lt' hlt
  obtain ⟨hw5, hw6, hw7, hw8⟩ := hw4 p hpm
  have hv := weak_pure p.body
  cases hf : (formOf p.body == 0)
  · rw [hf] at hv
    have hst : (c.prods.take (k + 1)).any isOther = false := by
      rw [List.take_succ_eq_append_getElem hlt, List.any_append, hkk, hp']; simp [isOther, hf]
    (repeat (first
        | (refine DW_seq fun K hK => ?_)
        | (refine DW_r anW1717 Try.mixed (by kernel_rfl) ?_; simp [hnt, Try.ntmps17, Try.results17, anW1717, dCnf, dProd, hlt, hp']; try simp (disch := omega) only [wrap64_in])
        | (refine DW_block ?_)
        | (focus (refine DW_if ?_ ?_ ?_; (· (simp [hnt, Try.ntmps17, Try.results17, anW1717, dCnf, dProd, hlt, hp']; done)); (try (rotate_left; (· (intro hc; (try simp [hnt, Try.ntmps17, Try.results17, anW1717, dCnf, dProd, hlt, hp'] at hc); done))))))
        | (refine DW_ret ?_; simp [hnt, Try.ntmps17, Try.results17, anW1717, dCnf, dProd, hlt, hp'])
        | (refine DW_exit ?_; simp [hnt, Try.ntmps17, Try.results17, anW1717, dCnf, dProd, hlt, hp'])
        | (refine DW_skip ?_; simp [hnt, Try.ntmps17, Try.results17, anW1717, dCnf, dProd, hlt, hp'])
        | (intro hc; (try simp [hnt, Try.ntmps17, Try.results17, anW1717, dCnf, dProd, hlt, hp'] at hc); done)
        | (intro hc; (try simp [hnt, Try.ntmps17, Try.results17, anW1717, dCnf, dProd, hlt, hp'] at hc); (first | (exfalso; omega) | skip))
        | (refine callP_mk (hv) ?_; try simp [hnt, Try.ntmps17, Try.results17, anW1717, dCnf, dProd, hlt, hp'])
        | (refine callP_wk (hv) ?_ ?_; (· (simp; done)); try simp [hnt, Try.ntmps17, Try.results17, anW1717, dCnf, dProd, hlt, hp'])
        | (refine ⟨?_, ?_⟩; · omega)
        | apply_assumption -exfalso -symm
        | (exfalso; omega)))
    refine Again.mk ⟨k + 1, by omega, hst⟩ (Sub.lit (by simp)) (by simp; omega)
    (repeat (first
        | (refine DW_seq fun K hK => ?_)
        | (refine DW_r anW1717 Try.mixed (by kernel_rfl) ?_; simp [hnt, Try.ntmps17, Try.results17, anW1717]; try simp (disch := omega) only [wrap64_in])
        | (refine DW_block ?_)
        | (focus (refine DW_if ?_ ?_ ?_; (· (simp [hnt, Try.ntmps17, Try.results17, anW1717]; done)); (try (rotate_left; (· (intro hc; (try simp [hnt, Try.ntmps17, Try.results17, anW1717] at hc); done))))))
        | (refine DW_ret ?_; simp [hnt, Try.ntmps17, Try.results17, anW1717])
        | (refine DW_exit ?_; simp [hnt, Try.ntmps17, Try.results17, anW1717])
        | (refine DW_skip ?_; simp [hnt, Try.ntmps17, Try.results17, anW1717])
        | (intro hc; (try simp [hnt, Try.ntmps17, Try.results17, anW1717] at hc); done)
        | (intro hc; (try simp [hnt, Try.ntmps17, Try.results17, anW1717] at hc); (first | (exfalso; omega) | skip))
        | (refine callP_mk (hv) ?_; try simp [hnt, Try.ntmps17, Try.results17, anW1717])
        | (refine callP_wk (hv) ?_ ?_; (· (simp; done)); try simp [hnt, Try.ntmps17, Try.results17, anW1717])
        | (refine ⟨?_, ?_⟩; · omega)
        | apply_assumption -exfalso -symm
        | (exfalso; omega)))
  · rw [hf] at hv
    have hot : c.prods.any isOther = true := List.any_eq_true.2 ⟨p, hpm, by simp [isOther, hf]⟩
    rw [hot] at hwk
    (repeat (first
        | (refine DW_seq fun K hK => ?_)
        | (refine DW_r anW1717 Try.mixed (by kernel_rfl) ?_; simp [hnt, Try.ntmps17, Try.results17, anW1717, dCnf, dProd, hlt, hp', hwk]; try simp (disch := omega) only [wrap64_in])
        | (refine DW_block ?_)
        | (focus (refine DW_if ?_ ?_ ?_; (· (simp [hnt, Try.ntmps17, Try.results17, anW1717, dCnf, dProd, hlt, hp', hwk]; done)); (try (rotate_left; (· (intro hc; (try simp [hnt, Try.ntmps17, Try.results17, anW1717, dCnf, dProd, hlt, hp', hwk] at hc); done))))))
        | (refine DW_ret ?_; simp [hnt, Try.ntmps17, Try.results17, anW1717, dCnf, dProd, hlt, hp', hwk])
        | (refine DW_exit ?_; simp [hnt, Try.ntmps17, Try.results17, anW1717, dCnf, dProd, hlt, hp', hwk])
        | (refine DW_skip ?_; simp [hnt, Try.ntmps17, Try.results17, anW1717, dCnf, dProd, hlt, hp', hwk])
        | (intro hc; (try simp [hnt, Try.ntmps17, Try.results17, anW1717, dCnf, dProd, hlt, hp', hwk] at hc); done)
        | (intro hc; (try simp [hnt, Try.ntmps17, Try.results17, anW1717, dCnf, dProd, hlt, hp', hwk] at hc); (first | (exfalso; omega) | skip))
        | (refine callP_mk (hv) ?_; try simp [hnt, Try.ntmps17, Try.results17, anW1717, dCnf, dProd, hlt, hp', hwk])
        | (refine callP_wk (hv) ?_ ?_; (· (simp; done)); try simp [hnt, Try.ntmps17, Try.results17, anW1717, dCnf, dProd, hlt, hp', hwk])
        | (refine ⟨?_, ?_⟩; · omega)
        | apply_assumption -exfalso -symm
        | (exfalso; omega)))
end Go.Proofs.Ytihkcegelghcpaa
