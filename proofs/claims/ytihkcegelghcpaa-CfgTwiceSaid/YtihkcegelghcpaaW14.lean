/- A part of a proof: walks over the functions that it names; their contracts hold for every argument. -/
import Derived.Test.YtihkcegelghcpaaW0
set_option linter.unusedSimpArgs false
set_option linter.unusedVariables false
namespace Go.Proofs.Ytihkcegelghcpaa
open Go Go.Dm
attribute [local irreducible] DW callP callS
def anW1414 : Ann := ⟨[], [⟨6, [23], [], []⟩]⟩
set_option maxRecDepth 100000 in
theorem copy_pure (c : Cnf) : DPure Try.prog 14 [.agg (dCnf c)] (.agg (dCnf c)) := by
  refine DPure_introF [35] (fn := Try.f14) Try.func14 rfl Try.call14 (by simp [Try.ntmps14]) (by simp [mx]) ?_
  intro hwf B hnt
  have hw : wCnf c := w_cnf (by simpa [wfL, wfD] using hwf.1)
  obtain ⟨hw1, hw2, hw3, hw4⟩ := hw
  clear hwf
  simp only [argS]
  (repeat (first
      | (refine DW_seq fun K hK => ?_)
      | (refine DW_r anW1414 Try.mixed (by kernel_rfl) ?_; simp [hnt, Try.ntmps14, Try.results14, anW1414, dCnf]; try simp (disch := omega) only [wrap64_in])
      | (refine DW_block ?_)
      | (focus (refine DW_if ?_ ?_ ?_; (· (simp [hnt, Try.ntmps14, Try.results14, anW1414, dCnf]; done)); (try (rotate_left; (· (intro hc; (try simp [hnt, Try.ntmps14, Try.results14, anW1414, dCnf] at hc); done))))))
      | (refine DW_ret ?_; simp [hnt, Try.ntmps14, Try.results14, anW1414, dCnf])
      | (refine DW_exit ?_; simp [hnt, Try.ntmps14, Try.results14, anW1414, dCnf])
      | (refine DW_skip ?_; simp [hnt, Try.ntmps14, Try.results14, anW1414, dCnf])
      | (intro hc; (try simp [hnt, Try.ntmps14, Try.results14, anW1414, dCnf] at hc); done)
      | (intro hc; (try simp [hnt, Try.ntmps14, Try.results14, anW1414, dCnf] at hc); (first | (exfalso; omega) | skip))
      | (refine ⟨?_, ?_⟩; · omega)
      | omega
      | apply_assumption -exfalso -symm
      | (exfalso; omega)))
  refine DW_adoptC 3 1 35 33 2 32 (by simp) (fun n => ?_)
  refine DW_loop (X := {k : Nat // k ≤ c.prods.length}) (fun k => ⟨[(1, .ref [.int .i64 c.nts, dProds c.prods]), (2, .bx 2 1 0), (3, .bx 3 1 0), (4, .int .i64 k.1)], [⟨3, 1, .box [.int .i64 c.nts, .osl 35 1]⟩, ⟨35, 1, .row 33 2 32 ((c.prods.take k.1).map dProd)⟩, ⟨2, 1, .box [.int .i64 0, .nilsl]⟩]⟩) (fun k => c.prods.length - k.1) ⟨0, by simp⟩ (Sub.lit (by simp)) ?_
  rintro ⟨k, hk⟩
  by_cases hlt : k < c.prods.length
  · obtain ⟨p, hp, hp', hpm⟩ := at_lt' hlt
    obtain ⟨hw5, hw6, hw7, hw8⟩ := hw4 p hpm
    have htk : (c.prods.map dProd).take (k + 1) = (c.prods.map dProd).take k ++ [dProd p] := by rw [List.take_add_one, List.getElem?_map, hp]; rfl
    (repeat (first
        | (refine DW_seq fun K hK => ?_)
        | (refine DW_r anW1414 Try.mixed (by kernel_rfl) ?_; simp [hnt, Try.ntmps14, Try.results14, anW1414, dCnf, dProd, hlt, hp']; try simp (disch := omega) only [wrap64_in])
        | (refine DW_block ?_)
        | (focus (refine DW_if ?_ ?_ ?_; (· (simp [hnt, Try.ntmps14, Try.results14, anW1414, dCnf, dProd, hlt, hp']; done)); (try (rotate_left; (· (intro hc; (try simp [hnt, Try.ntmps14, Try.results14, anW1414, dCnf, dProd, hlt, hp'] at hc); done))))))
        | (refine DW_ret ?_; simp [hnt, Try.ntmps14, Try.results14, anW1414, dCnf, dProd, hlt, hp'])
        | (refine DW_exit ?_; simp [hnt, Try.ntmps14, Try.results14, anW1414, dCnf, dProd, hlt, hp'])
        | (refine DW_skip ?_; simp [hnt, Try.ntmps14, Try.results14, anW1414, dCnf, dProd, hlt, hp'])
        | (intro hc; (try simp [hnt, Try.ntmps14, Try.results14, anW1414, dCnf, dProd, hlt, hp'] at hc); done)
        | (intro hc; (try simp [hnt, Try.ntmps14, Try.results14, anW1414, dCnf, dProd, hlt, hp'] at hc); (first | (exfalso; omega) | skip))
        | (refine ⟨?_, ?_⟩; · omega)
        | omega
        | apply_assumption -exfalso -symm
        | (exfalso; omega)))
    refine Again.mk ⟨k + 1, by omega⟩ (Sub.lit ?_) (by simp; omega)
    · simp [htk, dProd]
    (repeat (first
        | (refine DW_seq fun K hK => ?_)
        | (refine DW_r anW1414 Try.mixed (by kernel_rfl) ?_; simp [hnt, Try.ntmps14, Try.results14, anW1414]; try simp (disch := omega) only [wrap64_in])
        | (refine DW_block ?_)
        | (focus (refine DW_if ?_ ?_ ?_; (· (simp [hnt, Try.ntmps14, Try.results14, anW1414]; done)); (try (rotate_left; (· (intro hc; (try simp [hnt, Try.ntmps14, Try.results14, anW1414] at hc); done))))))
        | (refine DW_ret ?_; simp [hnt, Try.ntmps14, Try.results14, anW1414])
        | (refine DW_exit ?_; simp [hnt, Try.ntmps14, Try.results14, anW1414])
        | (refine DW_skip ?_; simp [hnt, Try.ntmps14, Try.results14, anW1414])
        | (intro hc; (try simp [hnt, Try.ntmps14, Try.results14, anW1414] at hc); done)
        | (intro hc; (try simp [hnt, Try.ntmps14, Try.results14, anW1414] at hc); (first | (exfalso; omega) | skip))
        | (refine ⟨?_, ?_⟩; · omega)
        | omega
        | apply_assumption -exfalso -symm
        | (exfalso; omega)))
  · have hkk : k = c.prods.length := by omega
    subst hkk
    (repeat (first
        | (refine DW_seq fun K hK => ?_)
        | (refine DW_r anW1414 Try.mixed (by kernel_rfl) ?_; simp [hnt, Try.ntmps14, Try.results14, anW1414, dCnf]; try simp (disch := omega) only [wrap64_in])
        | (refine DW_block ?_)
        | (focus (refine DW_if ?_ ?_ ?_; (· (simp [hnt, Try.ntmps14, Try.results14, anW1414, dCnf]; done)); (try (rotate_left; (· (intro hc; (try simp [hnt, Try.ntmps14, Try.results14, anW1414, dCnf] at hc); done))))))
        | (refine DW_ret ?_; simp [hnt, Try.ntmps14, Try.results14, anW1414, dCnf])
        | (refine DW_exit ?_; simp [hnt, Try.ntmps14, Try.results14, anW1414, dCnf])
        | (refine DW_skip ?_; simp [hnt, Try.ntmps14, Try.results14, anW1414, dCnf])
        | (intro hc; (try simp [hnt, Try.ntmps14, Try.results14, anW1414, dCnf] at hc); done)
        | (intro hc; (try simp [hnt, Try.ntmps14, Try.results14, anW1414, dCnf] at hc); (first | (exfalso; omega) | skip))
        | (refine ⟨?_, ?_⟩; · omega)
        | omega
        | apply_assumption -exfalso -symm
        | (exfalso; omega)))
end Go.Proofs.Ytihkcegelghcpaa
