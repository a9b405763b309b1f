/- A part of a proof: walks over the functions that it names; their contracts hold for every argument. -/
import Derived.Test.YtihkcegelghcpaaW0
set_option linter.unusedSimpArgs false
set_option linter.unusedVariables false
namespace Go.Proofs.Ytihkcegelghcpaa
open Go Go.Dm
attribute [local irreducible] DW callP callS
set_option maxRecDepth 100000

def anW8181 : Ann := ⟨[], []⟩
/-- IndexFunc at Prod: the first one that the closure says yes to -/
theorem indexFunc81_pure (g : FuncId) (us cs : List DVal) (l : List Prod) (q : Prod → Bool) (hq : ∀ x ∈ l, DPure Try.prog g (us ++ [.agg (dProd x)] ++ cs) (.bool (q x))) :
    DPure Try.prog 81 [dProds l, .fn (.func g) us cs] (.int .i64 (if l.any q then ((l.findIdx q : Nat) : Int) else -1)) := by
  refine DPure_introF [] (fn := Try.f81) Try.func81 rfl Try.call81 (by simp [Try.ntmps81]) (by simp [mx]) ?_
  intro hwf B hnt
  have hw : wProds l := w_prods hwf.1
  obtain ⟨hw1, hw2, hw3⟩ := hw
  clear hwf hw3
  simp only [argS]
  (repeat (first
      | (refine DW_seq fun K hK => ?_)
      | (refine DW_r anW8181 Try.mixed (by kernel_rfl) ?_; simp [hnt, Try.ntmps81, Try.results81, anW8181]; try simp (disch := omega) only [wrap64_in])
      | (refine DW_block ?_)
      | (focus (refine DW_if ?_ ?_ ?_; (· (simp [hnt, Try.ntmps81, Try.results81, anW8181]; done)); (try (rotate_left; (· (intro hc; (try simp [hnt, Try.ntmps81, Try.results81, anW8181] at hc); done))))))
      | (refine DW_ret ?_; simp [hnt, Try.ntmps81, Try.results81, anW8181])
      | (refine DW_exit ?_; simp [hnt, Try.ntmps81, Try.results81, anW8181])
      | (refine DW_skip ?_; simp [hnt, Try.ntmps81, Try.results81, anW8181])
      | (intro hc; (try simp [hnt, Try.ntmps81, Try.results81, anW8181] at hc); done)
      | (intro hc; (try simp [hnt, Try.ntmps81, Try.results81, anW8181] at hc); (first | (exfalso; omega) | skip))
      | (refine ⟨?_, ?_⟩; · omega)
      | omega
      | apply_assumption -exfalso -symm
      | (exfalso; omega)))
  refine DW_loop (X := {k : Nat // k ≤ l.length ∧ ∀ i x, i < k → l[i]? = some x → q x = false}) (fun x => ⟨[(0, dProds l), (1, .fn (.func g) us cs), (7, .int .i64 l.length), (8, .int .i64 x.1)], []⟩) (fun x => l.length - x.1) ⟨0, by simp⟩ (Sub.lit (by simp)) ?_
  rintro ⟨k, hk, hno⟩
  by_cases hlt : k < l.length
  · obtain ⟨x, hx, hx', hxm⟩ := at_lt' hlt
    have hqx := hq x hxm
    simp only [dProd, List.append_assoc, List.cons_append, List.nil_append] at hqx
    cases hb : q x
    · rw [hb] at hqx
      have hno' : ∀ i y, i < k + 1 → l[i]? = some y → q y = false := by
        intro i y hi hy
        by_cases hik : i = k
        · subst hik; rw [hx] at hy; simp only [Option.some.injEq] at hy; subst hy; exact hb
        · exact hno i y (by omega) hy
      (repeat (first
          | (refine DW_seq fun K hK => ?_)
          | (refine DW_r anW8181 Try.mixed (by kernel_rfl) ?_; simp [hnt, Try.ntmps81, Try.results81, anW8181, dProd, hlt, hx']; try simp (disch := omega) only [wrap64_in])
          | (refine DW_block ?_)
          | (focus (refine DW_if ?_ ?_ ?_; (· (simp [hnt, Try.ntmps81, Try.results81, anW8181, dProd, hlt, hx']; done)); (try (rotate_left; (· (intro hc; (try simp [hnt, Try.ntmps81, Try.results81, anW8181, dProd, hlt, hx'] at hc); done))))))
          | (refine DW_ret ?_; simp [hnt, Try.ntmps81, Try.results81, anW8181, dProd, hlt, hx'])
          | (refine DW_exit ?_; simp [hnt, Try.ntmps81, Try.results81, anW8181, dProd, hlt, hx'])
          | (refine DW_skip ?_; simp [hnt, Try.ntmps81, Try.results81, anW8181, dProd, hlt, hx'])
          | (intro hc; (try simp [hnt, Try.ntmps81, Try.results81, anW8181, dProd, hlt, hx'] at hc); done)
          | (intro hc; (try simp [hnt, Try.ntmps81, Try.results81, anW8181, dProd, hlt, hx'] at hc); (first | (exfalso; omega) | skip))
          | (refine callP_mk (hqx) ?_; try simp [hnt, Try.ntmps81, Try.results81, anW8181, dProd, hlt, hx'])
          | (refine callP_wk (hqx) ?_ ?_; (· (simp; done)); try simp [hnt, Try.ntmps81, Try.results81, anW8181, dProd, hlt, hx'])
          | (refine ⟨?_, ?_⟩; · omega)
          | omega
          | apply_assumption -exfalso -symm
          | (exfalso; omega)))
      exact Again.mk ⟨k + 1, by omega, hno'⟩ (Sub.lit (by simp [])) (by simp; omega)
      (repeat (first
          | (refine DW_seq fun K hK => ?_)
          | (refine DW_r anW8181 Try.mixed (by kernel_rfl) ?_; simp [hnt, Try.ntmps81, Try.results81, anW8181, dProd, hlt, hx']; try simp (disch := omega) only [wrap64_in])
          | (refine DW_block ?_)
          | (focus (refine DW_if ?_ ?_ ?_; (· (simp [hnt, Try.ntmps81, Try.results81, anW8181, dProd, hlt, hx']; done)); (try (rotate_left; (· (intro hc; (try simp [hnt, Try.ntmps81, Try.results81, anW8181, dProd, hlt, hx'] at hc); done))))))
          | (refine DW_ret ?_; simp [hnt, Try.ntmps81, Try.results81, anW8181, dProd, hlt, hx'])
          | (refine DW_exit ?_; simp [hnt, Try.ntmps81, Try.results81, anW8181, dProd, hlt, hx'])
          | (refine DW_skip ?_; simp [hnt, Try.ntmps81, Try.results81, anW8181, dProd, hlt, hx'])
          | (intro hc; (try simp [hnt, Try.ntmps81, Try.results81, anW8181, dProd, hlt, hx'] at hc); done)
          | (intro hc; (try simp [hnt, Try.ntmps81, Try.results81, anW8181, dProd, hlt, hx'] at hc); (first | (exfalso; omega) | skip))
          | (refine callP_mk (hqx) ?_; try simp [hnt, Try.ntmps81, Try.results81, anW8181, dProd, hlt, hx'])
          | (refine callP_wk (hqx) ?_ ?_; (· (simp; done)); try simp [hnt, Try.ntmps81, Try.results81, anW8181, dProd, hlt, hx'])
          | (refine ⟨?_, ?_⟩; · omega)
          | omega
          | apply_assumption -exfalso -symm
          | (exfalso; omega)))
    · rw [hb] at hqx
      have hany : l.any q = true := List.any_eq_true.2 ⟨x, hxm, hb⟩
      have hidx : l.findIdx q = k := by
        rw [List.findIdx_eq hlt]
        refine ⟨by rw [hx']; exact hb, fun i hi => ?_⟩
        exact hno i _ hi (List.getElem?_eq_getElem (by omega))
      (repeat (first
          | (refine DW_seq fun K hK => ?_)
          | (refine DW_r anW8181 Try.mixed (by kernel_rfl) ?_; simp [hnt, Try.ntmps81, Try.results81, anW8181, dProd, hlt, hx', hany, hidx]; try simp (disch := omega) only [wrap64_in])
          | (refine DW_block ?_)
          | (focus (refine DW_if ?_ ?_ ?_; (· (simp [hnt, Try.ntmps81, Try.results81, anW8181, dProd, hlt, hx', hany, hidx]; done)); (try (rotate_left; (· (intro hc; (try simp [hnt, Try.ntmps81, Try.results81, anW8181, dProd, hlt, hx', hany, hidx] at hc); done))))))
          | (refine DW_ret ?_; simp [hnt, Try.ntmps81, Try.results81, anW8181, dProd, hlt, hx', hany, hidx])
          | (refine DW_exit ?_; simp [hnt, Try.ntmps81, Try.results81, anW8181, dProd, hlt, hx', hany, hidx])
          | (refine DW_skip ?_; simp [hnt, Try.ntmps81, Try.results81, anW8181, dProd, hlt, hx', hany, hidx])
          | (intro hc; (try simp [hnt, Try.ntmps81, Try.results81, anW8181, dProd, hlt, hx', hany, hidx] at hc); done)
          | (intro hc; (try simp [hnt, Try.ntmps81, Try.results81, anW8181, dProd, hlt, hx', hany, hidx] at hc); (first | (exfalso; omega) | skip))
          | (refine callP_mk (hqx) ?_; try simp [hnt, Try.ntmps81, Try.results81, anW8181, dProd, hlt, hx', hany, hidx])
          | (refine callP_wk (hqx) ?_ ?_; (· (simp; done)); try simp [hnt, Try.ntmps81, Try.results81, anW8181, dProd, hlt, hx', hany, hidx])
          | (refine ⟨?_, ?_⟩; · omega)
          | omega
          | apply_assumption -exfalso -symm
          | (exfalso; omega)))
  · have hkk : k = l.length := by omega
    have hany : l.any q = false := by
      rw [List.any_eq_false]
      intro x hx
      obtain ⟨i, hi, rfl⟩ := List.getElem_of_mem hx
      rw [hno i _ (by omega) (List.getElem?_eq_getElem hi)]
      simp
    (repeat (first
        | (refine DW_seq fun K hK => ?_)
        | (refine DW_r anW8181 Try.mixed (by kernel_rfl) ?_; simp [hnt, Try.ntmps81, Try.results81, anW8181, dProd, hkk, hany]; try simp (disch := omega) only [wrap64_in])
        | (refine DW_block ?_)
        | (focus (refine DW_if ?_ ?_ ?_; (· (simp [hnt, Try.ntmps81, Try.results81, anW8181, dProd, hkk, hany]; done)); (try (rotate_left; (· (intro hc; (try simp [hnt, Try.ntmps81, Try.results81, anW8181, dProd, hkk, hany] at hc); done))))))
        | (refine DW_ret ?_; simp [hnt, Try.ntmps81, Try.results81, anW8181, dProd, hkk, hany])
        | (refine DW_exit ?_; simp [hnt, Try.ntmps81, Try.results81, anW8181, dProd, hkk, hany])
        | (refine DW_skip ?_; simp [hnt, Try.ntmps81, Try.results81, anW8181, dProd, hkk, hany])
        | (intro hc; (try simp [hnt, Try.ntmps81, Try.results81, anW8181, dProd, hkk, hany] at hc); done)
        | (intro hc; (try simp [hnt, Try.ntmps81, Try.results81, anW8181, dProd, hkk, hany] at hc); (first | (exfalso; omega) | skip))
        | (refine callP_mk (hqx) ?_; try simp [hnt, Try.ntmps81, Try.results81, anW8181, dProd, hkk, hany])
        | (refine callP_wk (hqx) ?_ ?_; (· (simp; done)); try simp [hnt, Try.ntmps81, Try.results81, anW8181, dProd, hkk, hany])
        | (refine ⟨?_, ?_⟩; · omega)
        | omega
        | apply_assumption -exfalso -symm
        | (exfalso; omega)))

def anW8141 : Ann := ⟨[], []⟩
theorem containsFunc41_pure (g : FuncId) (us cs : List DVal) (l : List Prod) (q : Prod → Bool) (hq : ∀ x ∈ l, DPure Try.prog g (us ++ [.agg (dProd x)] ++ cs) (.bool (q x))) :
    DPure Try.prog 41 [dProds l, .fn (.func g) us cs] (.bool (l.any q)) := by
  refine DPure_introF [] (fn := Try.f41) Try.func41 rfl Try.call41 (by simp [Try.ntmps41]) (by simp [mx]) ?_
  intro hwf B hnt
  simp only [argS]
  have hi := indexFunc81_pure g us cs l q hq
  have hge : (0 : Int) ≤ (l.findIdx q : Nat) := by omega
  cases hb : l.any q
  · rw [hb] at hi
    (repeat (first
        | (refine DW_seq fun K hK => ?_)
        | (refine DW_r anW8141 Try.mixed (by kernel_rfl) ?_; simp [hnt, Try.ntmps41, Try.results41, anW8141, hb]; try simp (disch := omega) only [wrap64_in])
        | (refine DW_block ?_)
        | (focus (refine DW_if ?_ ?_ ?_; (· (simp [hnt, Try.ntmps41, Try.results41, anW8141, hb]; done)); (try (rotate_left; (· (intro hc; (try simp [hnt, Try.ntmps41, Try.results41, anW8141, hb] at hc); done))))))
        | (refine DW_ret ?_; simp [hnt, Try.ntmps41, Try.results41, anW8141, hb])
        | (refine DW_exit ?_; simp [hnt, Try.ntmps41, Try.results41, anW8141, hb])
        | (refine DW_skip ?_; simp [hnt, Try.ntmps41, Try.results41, anW8141, hb])
        | (intro hc; (try simp [hnt, Try.ntmps41, Try.results41, anW8141, hb] at hc); done)
        | (intro hc; (try simp [hnt, Try.ntmps41, Try.results41, anW8141, hb] at hc); (first | (exfalso; omega) | skip))
        | (refine callP_mk (hi) ?_; try simp [hnt, Try.ntmps41, Try.results41, anW8141, hb])
        | (refine callP_wk (hi) ?_ ?_; (· (simp; done)); try simp [hnt, Try.ntmps41, Try.results41, anW8141, hb])
        | (refine ⟨?_, ?_⟩; · omega)
        | omega
        | apply_assumption -exfalso -symm
        | (exfalso; omega)))
  · rw [hb] at hi
    (repeat (first
        | (refine DW_seq fun K hK => ?_)
        | (refine DW_r anW8141 Try.mixed (by kernel_rfl) ?_; simp [hnt, Try.ntmps41, Try.results41, anW8141, hb]; try simp (disch := omega) only [wrap64_in])
        | (refine DW_block ?_)
        | (focus (refine DW_if ?_ ?_ ?_; (· (simp [hnt, Try.ntmps41, Try.results41, anW8141, hb]; done)); (try (rotate_left; (· (intro hc; (try simp [hnt, Try.ntmps41, Try.results41, anW8141, hb] at hc); done))))))
        | (refine DW_ret ?_; simp [hnt, Try.ntmps41, Try.results41, anW8141, hb])
        | (refine DW_exit ?_; simp [hnt, Try.ntmps41, Try.results41, anW8141, hb])
        | (refine DW_skip ?_; simp [hnt, Try.ntmps41, Try.results41, anW8141, hb])
        | (intro hc; (try simp [hnt, Try.ntmps41, Try.results41, anW8141, hb] at hc); done)
        | (intro hc; (try simp [hnt, Try.ntmps41, Try.results41, anW8141, hb] at hc); (first | (exfalso; omega) | skip))
        | (refine callP_mk (hi) ?_; try simp [hnt, Try.ntmps41, Try.results41, anW8141, hb])
        | (refine callP_wk (hi) ?_ ?_; (· (simp; done)); try simp [hnt, Try.ntmps41, Try.results41, anW8141, hb])
        | (refine ⟨?_, ?_⟩; · omega)
        | omega
        | apply_assumption -exfalso -symm
        | (exfalso; omega)))
end Go.Proofs.Ytihkcegelghcpaa
