/- A part of a proof: walks over the functions that it names; their contracts hold for every argument. -/
import Derived.Test.YtihkcegelghcpaaW26
import Derived.Test.YtihkcegelghcpaaW19
import Derived.Test.YtihkcegelghcpaaW14
import Derived.Test.YtihkcegelghcpaaW13
import Derived.Test.YtihkcegelghcpaaW45
set_option linter.unusedSimpArgs false
set_option linter.unusedVariables false
namespace Go.Proofs.Ytihkcegelghcpaa
open Go Go.Dm
attribute [local irreducible] DW callP callS
set_option maxRecDepth 100000

def anW77 : Ann := ⟨[], [⟨2, [4], [], []⟩, ⟨3, [6], [], []⟩]⟩
theorem cfgChecks_pure (c : Cnf) : DPure Try.prog 7 [.agg (dCnf c)] (.bool true) := by
  refine DPure_introF [] (fn := Try.f7) Try.func7 rfl Try.call7 (by simp [Try.ntmps7]) (by simp [mx]) ?_
  intro hwf B hnt
  simp only [argS]
  have h1 := copy_pure c
  have h2 := check_pure c
  have h3 := fsort_pure c
  have h4 := fturn_pure c
  have h5 := rcheck_pure c
  have h6 := head12_pure
  cases hb : cnfOK c
  · rw [hb] at h2 h3 h4 h5
    (repeat (first
        | (refine DW_seq fun K hK => ?_)
        | (refine DW_r anW77 Try.mixed (by kernel_rfl) ?_; simp [hnt, Try.ntmps7, Try.results7, anW77, dCnf]; try simp (disch := omega) only [wrap64_in])
        | (refine DW_block ?_)
        | (focus (refine DW_if ?_ ?_ ?_; (· (simp [hnt, Try.ntmps7, Try.results7, anW77, dCnf]; done)); (try (rotate_left; (· (intro hc; (try simp [hnt, Try.ntmps7, Try.results7, anW77, dCnf] at hc); done))))))
        | (refine DW_ret ?_; simp [hnt, Try.ntmps7, Try.results7, anW77, dCnf])
        | (refine DW_exit ?_; simp [hnt, Try.ntmps7, Try.results7, anW77, dCnf])
        | (refine DW_skip ?_; simp [hnt, Try.ntmps7, Try.results7, anW77, dCnf])
        | (intro hc; (try simp [hnt, Try.ntmps7, Try.results7, anW77, dCnf] at hc); done)
        | (intro hc; (try simp [hnt, Try.ntmps7, Try.results7, anW77, dCnf] at hc); (first | (exfalso; omega) | skip))
        | (refine callP_mk (h1) ?_; try simp [hnt, Try.ntmps7, Try.results7, anW77, dCnf])
        | (refine callP_wk (h1) ?_ ?_; (· (simp; done)); try simp [hnt, Try.ntmps7, Try.results7, anW77, dCnf])
        | (refine callP_mk (h2) ?_; try simp [hnt, Try.ntmps7, Try.results7, anW77, dCnf])
        | (refine callP_wk (h2) ?_ ?_; (· (simp; done)); try simp [hnt, Try.ntmps7, Try.results7, anW77, dCnf])
        | (refine callP_mk (h3) ?_; try simp [hnt, Try.ntmps7, Try.results7, anW77, dCnf])
        | (refine callP_wk (h3) ?_ ?_; (· (simp; done)); try simp [hnt, Try.ntmps7, Try.results7, anW77, dCnf])
        | (refine callP_mk (h4) ?_; try simp [hnt, Try.ntmps7, Try.results7, anW77, dCnf])
        | (refine callP_wk (h4) ?_ ?_; (· (simp; done)); try simp [hnt, Try.ntmps7, Try.results7, anW77, dCnf])
        | (refine callP_mk (h5) ?_; try simp [hnt, Try.ntmps7, Try.results7, anW77, dCnf])
        | (refine callP_wk (h5) ?_ ?_; (· (simp; done)); try simp [hnt, Try.ntmps7, Try.results7, anW77, dCnf])
        | (refine callP_mk (h6) ?_; try simp [hnt, Try.ntmps7, Try.results7, anW77, dCnf])
        | (refine callP_wk (h6) ?_ ?_; (· (simp; done)); try simp [hnt, Try.ntmps7, Try.results7, anW77, dCnf])
        | (refine ⟨?_, ?_⟩; · omega)
        | omega
        | apply_assumption -exfalso -symm
        | (exfalso; omega)))
  · rw [hb] at h2 h3 h4 h5
    (repeat (first
        | (refine DW_seq fun K hK => ?_)
        | (refine DW_r anW77 Try.mixed (by kernel_rfl) ?_; simp [hnt, Try.ntmps7, Try.results7, anW77, dCnf]; try simp (disch := omega) only [wrap64_in])
        | (refine DW_block ?_)
        | (focus (refine DW_if ?_ ?_ ?_; (· (simp [hnt, Try.ntmps7, Try.results7, anW77, dCnf]; done)); (try (rotate_left; (· (intro hc; (try simp [hnt, Try.ntmps7, Try.results7, anW77, dCnf] at hc); done))))))
        | (refine DW_ret ?_; simp [hnt, Try.ntmps7, Try.results7, anW77, dCnf])
        | (refine DW_exit ?_; simp [hnt, Try.ntmps7, Try.results7, anW77, dCnf])
        | (refine DW_skip ?_; simp [hnt, Try.ntmps7, Try.results7, anW77, dCnf])
        | (intro hc; (try simp [hnt, Try.ntmps7, Try.results7, anW77, dCnf] at hc); done)
        | (intro hc; (try simp [hnt, Try.ntmps7, Try.results7, anW77, dCnf] at hc); (first | (exfalso; omega) | skip))
        | (refine callP_mk (h1) ?_; try simp [hnt, Try.ntmps7, Try.results7, anW77, dCnf])
        | (refine callP_wk (h1) ?_ ?_; (· (simp; done)); try simp [hnt, Try.ntmps7, Try.results7, anW77, dCnf])
        | (refine callP_mk (h2) ?_; try simp [hnt, Try.ntmps7, Try.results7, anW77, dCnf])
        | (refine callP_wk (h2) ?_ ?_; (· (simp; done)); try simp [hnt, Try.ntmps7, Try.results7, anW77, dCnf])
        | (refine callP_mk (h3) ?_; try simp [hnt, Try.ntmps7, Try.results7, anW77, dCnf])
        | (refine callP_wk (h3) ?_ ?_; (· (simp; done)); try simp [hnt, Try.ntmps7, Try.results7, anW77, dCnf])
        | (refine callP_mk (h4) ?_; try simp [hnt, Try.ntmps7, Try.results7, anW77, dCnf])
        | (refine callP_wk (h4) ?_ ?_; (· (simp; done)); try simp [hnt, Try.ntmps7, Try.results7, anW77, dCnf])
        | (refine callP_mk (h5) ?_; try simp [hnt, Try.ntmps7, Try.results7, anW77, dCnf])
        | (refine callP_wk (h5) ?_ ?_; (· (simp; done)); try simp [hnt, Try.ntmps7, Try.results7, anW77, dCnf])
        | (refine callP_mk (h6) ?_; try simp [hnt, Try.ntmps7, Try.results7, anW77, dCnf])
        | (refine callP_wk (h6) ?_ ?_; (· (simp; done)); try simp [hnt, Try.ntmps7, Try.results7, anW77, dCnf])
        | (refine ⟨?_, ?_⟩; · omega)
        | omega
        | apply_assumption -exfalso -symm
        | (exfalso; omega)))

theorem DPure.wkT {P : Program} {f : FuncId} {args ds es : List DVal} (h : DPure P f args (.tup ds)) (hw : wkA ds es) (hd : mx (.tup es) = 0) : DPure P f args (.tup es) := by
  refine ⟨h.1, hd, fun cur M w vs hM hr => (h.2.2 cur M w vs hM hr).mono fun e w' ⟨v, h1, h2, h3⟩ => ⟨v, h1, h2, ?_⟩⟩
  simp only [rd] at h3 ⊢
  obtain ⟨us, rfl, h4⟩ := h3
  exact ⟨us, rfl, rd_wkA hw h4⟩
def cnf0 : Cnf := ⟨0, []⟩
theorem fsort_pure' (c : Cnf) : DPure Try.prog 26 [.agg (dCnf c)] (.tup [.agg (dCnf (if cnfOK c then normC c else cnf0)), .int .i64 (if cnfOK c then 0 else 220)]) := by
  have h := fsort_pure c
  cases hb : cnfOK c <;> rw [hb] at h
  · exact DPure.wkT h (by simp [cnf0, dCnf, dProds]) (by simp [mx])
  · exact h
theorem fturn_pure' (c : Cnf) : DPure Try.prog 27 [.agg (dCnf c)] (.tup [.agg (dCnf (if cnfOK c then turnC c else cnf0)), .int .i64 (if cnfOK c then 0 else 220)]) := by
  have h := fturn_pure c
  cases hb : cnfOK c <;> rw [hb] at h
  · exact DPure.wkT h (by simp [cnf0, dCnf, dProds]) (by simp [mx])
  · exact h
end Go.Proofs.Ytihkcegelghcpaa
