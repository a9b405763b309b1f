/- A part of a proof: walks over the functions that it names; their contracts hold for every argument. -/
import Derived.Test.YtihkcegelghcpaaW43
import Derived.Test.YtihkcegelghcpaaW81
import Derived.Test.YtihkcegelghcpaaW25
set_option linter.unusedSimpArgs false
set_option linter.unusedVariables false
namespace Go.Proofs.Ytihkcegelghcpaa
open Go Go.Dm
attribute [local irreducible] DW callP callS
set_option maxRecDepth 100000

def isOther (p : Prod) : Bool := formOf p.body == 0
def cnfWeak (c : Cnf) : Bool := cnfOK c && !c.prods.any isOther
def anW1342 : Ann := ⟨[], []⟩
theorem is1_pure (p : Prod) : DPure Try.prog 42 [.agg (dProd p)] (.bool (isOther p)) := by
  refine DPure_introF [] (fn := Try.f42) Try.func42 rfl Try.call42 (by simp [Try.ntmps42]) (by simp [mx]) ?_
  intro hwf B hnt
  simp only [argS]
  (repeat (first
      | (refine DW_seq fun K hK => ?_)
      | (refine DW_r anW1342 Try.mixed (by kernel_rfl) ?_; simp [hnt, Try.ntmps42, Try.results42, anW1342, dProd, isOther]; try simp (disch := omega) only [wrap64_in])
      | (refine DW_block ?_)
      | (focus (refine DW_if ?_ ?_ ?_; (· (simp [hnt, Try.ntmps42, Try.results42, anW1342, dProd, isOther]; done)); (try (rotate_left; (· (intro hc; (try simp [hnt, Try.ntmps42, Try.results42, anW1342, dProd, isOther] at hc); done))))))
      | (refine DW_ret ?_; simp [hnt, Try.ntmps42, Try.results42, anW1342, dProd, isOther])
      | (refine DW_exit ?_; simp [hnt, Try.ntmps42, Try.results42, anW1342, dProd, isOther])
      | (refine DW_skip ?_; simp [hnt, Try.ntmps42, Try.results42, anW1342, dProd, isOther])
      | (intro hc; (try simp [hnt, Try.ntmps42, Try.results42, anW1342, dProd, isOther] at hc); done)
      | (intro hc; (try simp [hnt, Try.ntmps42, Try.results42, anW1342, dProd, isOther] at hc); (first | (exfalso; omega) | skip))
      | (refine callP_mk (of_pure p.body) ?_; try simp [hnt, Try.ntmps42, Try.results42, anW1342, dProd, isOther])
      | (refine callP_wk (of_pure p.body) ?_ ?_; (· (simp; done)); try simp [hnt, Try.ntmps42, Try.results42, anW1342, dProd, isOther])
      | (refine ⟨?_, ?_⟩; · omega)
      | omega
      | apply_assumption -exfalso -symm
      | (exfalso; omega)))

def anW1313 : Ann := ⟨[], []⟩
theorem is_pure (c : Cnf) : DPure Try.prog 13 [.agg (dCnf c)] (.bool (cnfWeak c)) := by
  refine DPure_introF [] (fn := Try.f13) Try.func13 rfl Try.call13 (by simp [Try.ntmps13]) (by simp [mx]) ?_
  intro hwf B hnt
  simp only [argS]
  have hq := containsFunc41_pure 42 [] [] c.prods isOther (fun x _ => is1_pure x)
  have hc := check_pure c
  simp only [dCnf] at hc
  cases h1 : cnfOK c
  · rw [h1] at hc
    (repeat (first
        | (refine DW_seq fun K hK => ?_)
        | (refine DW_r anW1313 Try.mixed (by kernel_rfl) ?_; simp [hnt, Try.ntmps13, Try.results13, anW1313, dCnf, cnfWeak, h1]; try simp (disch := omega) only [wrap64_in])
        | (refine DW_block ?_)
        | (focus (refine DW_if ?_ ?_ ?_; (· (simp [hnt, Try.ntmps13, Try.results13, anW1313, dCnf, cnfWeak, h1]; done)); (try (rotate_left; (· (intro hc; (try simp [hnt, Try.ntmps13, Try.results13, anW1313, dCnf, cnfWeak, h1] at hc); done))))))
        | (refine DW_ret ?_; simp [hnt, Try.ntmps13, Try.results13, anW1313, dCnf, cnfWeak, h1])
        | (refine DW_exit ?_; simp [hnt, Try.ntmps13, Try.results13, anW1313, dCnf, cnfWeak, h1])
        | (refine DW_skip ?_; simp [hnt, Try.ntmps13, Try.results13, anW1313, dCnf, cnfWeak, h1])
        | (intro hc; (try simp [hnt, Try.ntmps13, Try.results13, anW1313, dCnf, cnfWeak, h1] at hc); done)
        | (intro hc; (try simp [hnt, Try.ntmps13, Try.results13, anW1313, dCnf, cnfWeak, h1] at hc); (first | (exfalso; omega) | skip))
        | (refine callP_mk (hc) ?_; try simp [hnt, Try.ntmps13, Try.results13, anW1313, dCnf, cnfWeak, h1])
        | (refine callP_wk (hc) ?_ ?_; (· (simp; done)); try simp [hnt, Try.ntmps13, Try.results13, anW1313, dCnf, cnfWeak, h1])
        | (refine callP_mk (hq) ?_; try simp [hnt, Try.ntmps13, Try.results13, anW1313, dCnf, cnfWeak, h1])
        | (refine callP_wk (hq) ?_ ?_; (· (simp; done)); try simp [hnt, Try.ntmps13, Try.results13, anW1313, dCnf, cnfWeak, h1])
        | (refine ⟨?_, ?_⟩; · omega)
        | omega
        | apply_assumption -exfalso -symm
        | (exfalso; omega)))
  · rw [h1] at hc
    cases h2 : c.prods.any isOther
    · rw [h2] at hq
      (repeat (first
          | (refine DW_seq fun K hK => ?_)
          | (refine DW_r anW1313 Try.mixed (by kernel_rfl) ?_; simp [hnt, Try.ntmps13, Try.results13, anW1313, dCnf, cnfWeak, h1, h2]; try simp (disch := omega) only [wrap64_in])
          | (refine DW_block ?_)
          | (focus (refine DW_if ?_ ?_ ?_; (· (simp [hnt, Try.ntmps13, Try.results13, anW1313, dCnf, cnfWeak, h1, h2]; done)); (try (rotate_left; (· (intro hc; (try simp [hnt, Try.ntmps13, Try.results13, anW1313, dCnf, cnfWeak, h1, h2] at hc); done))))))
          | (refine DW_ret ?_; simp [hnt, Try.ntmps13, Try.results13, anW1313, dCnf, cnfWeak, h1, h2])
          | (refine DW_exit ?_; simp [hnt, Try.ntmps13, Try.results13, anW1313, dCnf, cnfWeak, h1, h2])
          | (refine DW_skip ?_; simp [hnt, Try.ntmps13, Try.results13, anW1313, dCnf, cnfWeak, h1, h2])
          | (intro hc; (try simp [hnt, Try.ntmps13, Try.results13, anW1313, dCnf, cnfWeak, h1, h2] at hc); done)
          | (intro hc; (try simp [hnt, Try.ntmps13, Try.results13, anW1313, dCnf, cnfWeak, h1, h2] at hc); (first | (exfalso; omega) | skip))
          | (refine callP_mk (hc) ?_; try simp [hnt, Try.ntmps13, Try.results13, anW1313, dCnf, cnfWeak, h1, h2])
          | (refine callP_wk (hc) ?_ ?_; (· (simp; done)); try simp [hnt, Try.ntmps13, Try.results13, anW1313, dCnf, cnfWeak, h1, h2])
          | (refine callP_mk (hq) ?_; try simp [hnt, Try.ntmps13, Try.results13, anW1313, dCnf, cnfWeak, h1, h2])
          | (refine callP_wk (hq) ?_ ?_; (· (simp; done)); try simp [hnt, Try.ntmps13, Try.results13, anW1313, dCnf, cnfWeak, h1, h2])
          | (refine ⟨?_, ?_⟩; · omega)
          | omega
          | apply_assumption -exfalso -symm
          | (exfalso; omega)))
    · rw [h2] at hq
      (repeat (first
          | (refine DW_seq fun K hK => ?_)
          | (refine DW_r anW1313 Try.mixed (by kernel_rfl) ?_; simp [hnt, Try.ntmps13, Try.results13, anW1313, dCnf, cnfWeak, h1, h2]; try simp (disch := omega) only [wrap64_in])
          | (refine DW_block ?_)
          | (focus (refine DW_if ?_ ?_ ?_; (· (simp [hnt, Try.ntmps13, Try.results13, anW1313, dCnf, cnfWeak, h1, h2]; done)); (try (rotate_left; (· (intro hc; (try simp [hnt, Try.ntmps13, Try.results13, anW1313, dCnf, cnfWeak, h1, h2] at hc); done))))))
          | (refine DW_ret ?_; simp [hnt, Try.ntmps13, Try.results13, anW1313, dCnf, cnfWeak, h1, h2])
          | (refine DW_exit ?_; simp [hnt, Try.ntmps13, Try.results13, anW1313, dCnf, cnfWeak, h1, h2])
          | (refine DW_skip ?_; simp [hnt, Try.ntmps13, Try.results13, anW1313, dCnf, cnfWeak, h1, h2])
          | (intro hc; (try simp [hnt, Try.ntmps13, Try.results13, anW1313, dCnf, cnfWeak, h1, h2] at hc); done)
          | (intro hc; (try simp [hnt, Try.ntmps13, Try.results13, anW1313, dCnf, cnfWeak, h1, h2] at hc); (first | (exfalso; omega) | skip))
          | (refine callP_mk (hc) ?_; try simp [hnt, Try.ntmps13, Try.results13, anW1313, dCnf, cnfWeak, h1, h2])
          | (refine callP_wk (hc) ?_ ?_; (· (simp; done)); try simp [hnt, Try.ntmps13, Try.results13, anW1313, dCnf, cnfWeak, h1, h2])
          | (refine callP_mk (hq) ?_; try simp [hnt, Try.ntmps13, Try.results13, anW1313, dCnf, cnfWeak, h1, h2])
          | (refine callP_wk (hq) ?_ ?_; (· (simp; done)); try simp [hnt, Try.ntmps13, Try.results13, anW1313, dCnf, cnfWeak, h1, h2])
          | (refine ⟨?_, ?_⟩; · omega)
          | omega
          | apply_assumption -exfalso -symm
          | (exfalso; omega)))

def anW1316 : Ann := ⟨[], []⟩
theorem head14_pure : DPure Try.prog 16 [] (.bool true) := by
  refine DPure_introF [] (fn := Try.f16) Try.func16 rfl Try.call16 (by simp [Try.ntmps16]) (by simp [mx]) ?_
  intro hwf B hnt
  simp only [argS]
  have h1 := is_pure ⟨1, []⟩
  have h2 := is_pure ⟨0, []⟩
  have e1 : cnfWeak ⟨1, []⟩ = true := by decide
  have e2 : cnfWeak ⟨0, []⟩ = false := by decide
  rw [e1] at h1
  rw [e2] at h2
  simp only [dCnf, dProds, List.map_nil] at h1 h2
  (repeat (first
      | (refine DW_seq fun K hK => ?_)
      | (refine DW_r anW1316 Try.mixed (by kernel_rfl) ?_; simp [hnt, Try.ntmps16, Try.results16, anW1316]; try simp (disch := omega) only [wrap64_in])
      | (refine DW_block ?_)
      | (focus (refine DW_if ?_ ?_ ?_; (· (simp [hnt, Try.ntmps16, Try.results16, anW1316]; done)); (try (rotate_left; (· (intro hc; (try simp [hnt, Try.ntmps16, Try.results16, anW1316] at hc); done))))))
      | (refine DW_ret ?_; simp [hnt, Try.ntmps16, Try.results16, anW1316])
      | (refine DW_exit ?_; simp [hnt, Try.ntmps16, Try.results16, anW1316])
      | (refine DW_skip ?_; simp [hnt, Try.ntmps16, Try.results16, anW1316])
      | (intro hc; (try simp [hnt, Try.ntmps16, Try.results16, anW1316] at hc); done)
      | (intro hc; (try simp [hnt, Try.ntmps16, Try.results16, anW1316] at hc); (first | (exfalso; omega) | skip))
      | (refine callP_mk (h1) ?_; try simp [hnt, Try.ntmps16, Try.results16, anW1316])
      | (refine callP_wk (h1) ?_ ?_; (· (simp; done)); try simp [hnt, Try.ntmps16, Try.results16, anW1316])
      | (refine callP_mk (h2) ?_; try simp [hnt, Try.ntmps16, Try.results16, anW1316])
      | (refine callP_wk (h2) ?_ ?_; (· (simp; done)); try simp [hnt, Try.ntmps16, Try.results16, anW1316])
      | (refine ⟨?_, ?_⟩; · omega)
      | omega
      | apply_assumption -exfalso -symm
      | (exfalso; omega)))
end Go.Proofs.Ytihkcegelghcpaa
