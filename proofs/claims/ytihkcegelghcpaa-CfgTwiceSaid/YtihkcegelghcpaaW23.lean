/- A part of a proof: walks over the functions that it names; their contracts hold for every argument. -/
import Derived.Test.YtihkcegelghcpaaW18
set_option linter.unusedSimpArgs false
set_option linter.unusedVariables false
namespace Go.Proofs.Ytihkcegelghcpaa
open Go Go.Dm
attribute [local irreducible] DW callP callS
set_option maxRecDepth 100000


def anW2323 : Ann := ⟨[], []⟩
set_option maxHeartbeats 4000000 in
theorem same23_pure (a b : Cnf) : DPure Try.prog 23 [.agg (dCnf a), .agg (dCnf b)] (.bool (decide (a = b))) := by
  refine DPure_introF [] (fn := Try.f23) Try.func23 rfl Try.call23 (by simp [Try.ntmps23]) (by simp [mx]) ?_
  intro hwf B hnt
  have hw : wCnf b := w_cnf (by simpa [wfL, wfD] using hwf.2.1)
  obtain ⟨hw1, hw2, hw3, hw4⟩ := hw
  clear hwf
  simp only [argS]
  by_cases h0 : a.nts = b.nts
  rotate_left
  · have hne : a ≠ b := fun h => h0 (by rw [h])
    (repeat (first
        | (refine DW_seq fun K hK => ?_)
        | (refine DW_r anW2323 Try.mixed (by kernel_rfl) ?_; simp [hnt, Try.ntmps23, Try.results23, anW2323, dCnf, h0, hne]; try simp (disch := omega) only [wrap64_in])
        | (refine DW_block ?_)
        | (focus (refine DW_if ?_ ?_ ?_; (· (simp [hnt, Try.ntmps23, Try.results23, anW2323, dCnf, h0, hne]; done)); (try (rotate_left; (· (intro hc; (try simp [hnt, Try.ntmps23, Try.results23, anW2323, dCnf, h0, hne] at hc); done))))))
        | (refine DW_ret ?_; simp [hnt, Try.ntmps23, Try.results23, anW2323, dCnf, h0, hne])
        | (refine DW_exit ?_; simp [hnt, Try.ntmps23, Try.results23, anW2323, dCnf, h0, hne])
        | (refine DW_skip ?_; simp [hnt, Try.ntmps23, Try.results23, anW2323, dCnf, h0, hne])
        | (intro hc; (try simp [hnt, Try.ntmps23, Try.results23, anW2323, dCnf, h0, hne] at hc); done)
        | (intro hc; (try simp [hnt, Try.ntmps23, Try.results23, anW2323, dCnf, h0, hne] at hc); (first | (exfalso; omega) | skip))
        | (refine ⟨?_, ?_⟩; · omega)
        | omega
        | apply_assumption -exfalso -symm
        | (exfalso; omega)))
  by_cases hl : a.prods.length = b.prods.length
  rotate_left
  · have hne : a ≠ b := fun h => hl (by rw [h])
    have hl' : ¬ (b.prods.length : Int) = a.prods.length := by omega
    (repeat (first
        | (refine DW_seq fun K hK => ?_)
        | (refine DW_r anW2323 Try.mixed (by kernel_rfl) ?_; simp [hnt, Try.ntmps23, Try.results23, anW2323, dCnf, h0, hl, hl', hne]; try simp (disch := omega) only [wrap64_in])
        | (refine DW_block ?_)
        | (focus (refine DW_if ?_ ?_ ?_; (· (simp [hnt, Try.ntmps23, Try.results23, anW2323, dCnf, h0, hl, hl', hne]; done)); (try (rotate_left; (· (intro hc; (try simp [hnt, Try.ntmps23, Try.results23, anW2323, dCnf, h0, hl, hl', hne] at hc); done))))))
        | (refine DW_ret ?_; simp [hnt, Try.ntmps23, Try.results23, anW2323, dCnf, h0, hl, hl', hne])
        | (refine DW_exit ?_; simp [hnt, Try.ntmps23, Try.results23, anW2323, dCnf, h0, hl, hl', hne])
        | (refine DW_skip ?_; simp [hnt, Try.ntmps23, Try.results23, anW2323, dCnf, h0, hl, hl', hne])
        | (intro hc; (try simp [hnt, Try.ntmps23, Try.results23, anW2323, dCnf, h0, hl, hl', hne] at hc); done)
        | (intro hc; (try simp [hnt, Try.ntmps23, Try.results23, anW2323, dCnf, h0, hl, hl', hne] at hc); (first | (exfalso; omega) | skip))
        | (refine ⟨?_, ?_⟩; · omega)
        | omega
        | apply_assumption -exfalso -symm
        | (exfalso; omega)))
  (repeat (first
      | (refine DW_seq fun K hK => ?_)
      | (refine DW_r anW2323 Try.mixed (by kernel_rfl) ?_; simp [hnt, Try.ntmps23, Try.results23, anW2323, dCnf, h0, hl]; try simp (disch := omega) only [wrap64_in])
      | (refine DW_block ?_)
      | (focus (refine DW_if ?_ ?_ ?_; (· (simp [hnt, Try.ntmps23, Try.results23, anW2323, dCnf, h0, hl]; done)); (try (rotate_left; (· (intro hc; (try simp [hnt, Try.ntmps23, Try.results23, anW2323, dCnf, h0, hl] at hc); done))))))
      | (refine DW_ret ?_; simp [hnt, Try.ntmps23, Try.results23, anW2323, dCnf, h0, hl])
      | (refine DW_exit ?_; simp [hnt, Try.ntmps23, Try.results23, anW2323, dCnf, h0, hl])
      | (refine DW_skip ?_; simp [hnt, Try.ntmps23, Try.results23, anW2323, dCnf, h0, hl])
      | (intro hc; (try simp [hnt, Try.ntmps23, Try.results23, anW2323, dCnf, h0, hl] at hc); done)
      | (intro hc; (try simp [hnt, Try.ntmps23, Try.results23, anW2323, dCnf, h0, hl] at hc); (first | (exfalso; omega) | skip))
      | (refine ⟨?_, ?_⟩; · omega)
      | omega
      | apply_assumption -exfalso -symm
      | (exfalso; omega)))
  refine DW_loop (X := {k : Nat // k ≤ b.prods.length ∧ a.prods.take k = b.prods.take k}) (fun x => ⟨[(2, .ref (dCnf a)), (3, .ref (dCnf b)), (5, .int .i64 x.1)], []⟩) (fun x => b.prods.length - x.1) ⟨0, by simp⟩ (Sub.lit (by simp [dCnf, h0])) ?_
  rintro ⟨k, hk, he⟩
  by_cases hlt : k < b.prods.length
  · obtain ⟨q, hq, hq', hqm⟩ := at_lt' hlt
    obtain ⟨p, hp, hp', hpm⟩ := at_lt' (l := a.prods) (k := k) (by omega)
    have hv := sameBody_pure p.body q.body
    by_cases h1 : p.head = q.head
    · have hb : (p.head != q.head) = false := by simp [h1]
      by_cases h2 : p.body = q.body
      · rw [h2] at hv
        have hnx := take_eq_succ he hp (by rw [hq]; cases p; cases q; simp_all)
        clear hp hq
        (repeat (first
            | (refine DW_seq fun K hK => ?_)
            | (refine DW_r anW2323 Try.mixed (by kernel_rfl) ?_; simp [hnt, Try.ntmps23, Try.results23, anW2323, dCnf, dProd, hl, hp', hq', hlt, h1, h2, hb]; try simp (disch := omega) only [wrap64_in])
            | (refine DW_block ?_)
            | (focus (refine DW_if ?_ ?_ ?_; (· (simp [hnt, Try.ntmps23, Try.results23, anW2323, dCnf, dProd, hl, hp', hq', hlt, h1, h2, hb]; done)); (try (rotate_left; (· (intro hc; (try simp [hnt, Try.ntmps23, Try.results23, anW2323, dCnf, dProd, hl, hp', hq', hlt, h1, h2, hb] at hc); done))))))
            | (refine DW_ret ?_; simp [hnt, Try.ntmps23, Try.results23, anW2323, dCnf, dProd, hl, hp', hq', hlt, h1, h2, hb])
            | (refine DW_exit ?_; simp [hnt, Try.ntmps23, Try.results23, anW2323, dCnf, dProd, hl, hp', hq', hlt, h1, h2, hb])
            | (refine DW_skip ?_; simp [hnt, Try.ntmps23, Try.results23, anW2323, dCnf, dProd, hl, hp', hq', hlt, h1, h2, hb])
            | (intro hc; (try simp [hnt, Try.ntmps23, Try.results23, anW2323, dCnf, dProd, hl, hp', hq', hlt, h1, h2, hb] at hc); done)
            | (intro hc; (try simp [hnt, Try.ntmps23, Try.results23, anW2323, dCnf, dProd, hl, hp', hq', hlt, h1, h2, hb] at hc); (first | (exfalso; omega) | skip))
            | (refine callP_mk (hv) ?_; try simp [hnt, Try.ntmps23, Try.results23, anW2323, dCnf, dProd, hl, hp', hq', hlt, h1, h2, hb])
            | (refine callP_wk (hv) ?_ ?_; (· (simp; done)); try simp [hnt, Try.ntmps23, Try.results23, anW2323, dCnf, dProd, hl, hp', hq', hlt, h1, h2, hb])
            | (refine ⟨?_, ?_⟩; · omega)
            | omega
            | apply_assumption -exfalso -symm
            | (exfalso; omega)))
        refine Again.mk ⟨k + 1, by omega, hnx⟩ (Sub.lit (by simp [])) (by simp; omega)
        (repeat (first
            | (refine DW_seq fun K hK => ?_)
            | (refine DW_r anW2323 Try.mixed (by kernel_rfl) ?_; simp [hnt, Try.ntmps23, Try.results23, anW2323, dCnf, dProd, hl, hp', hq', hlt, h1, h2, hb]; try simp (disch := omega) only [wrap64_in])
            | (refine DW_block ?_)
            | (focus (refine DW_if ?_ ?_ ?_; (· (simp [hnt, Try.ntmps23, Try.results23, anW2323, dCnf, dProd, hl, hp', hq', hlt, h1, h2, hb]; done)); (try (rotate_left; (· (intro hc; (try simp [hnt, Try.ntmps23, Try.results23, anW2323, dCnf, dProd, hl, hp', hq', hlt, h1, h2, hb] at hc); done))))))
            | (refine DW_ret ?_; simp [hnt, Try.ntmps23, Try.results23, anW2323, dCnf, dProd, hl, hp', hq', hlt, h1, h2, hb])
            | (refine DW_exit ?_; simp [hnt, Try.ntmps23, Try.results23, anW2323, dCnf, dProd, hl, hp', hq', hlt, h1, h2, hb])
            | (refine DW_skip ?_; simp [hnt, Try.ntmps23, Try.results23, anW2323, dCnf, dProd, hl, hp', hq', hlt, h1, h2, hb])
            | (intro hc; (try simp [hnt, Try.ntmps23, Try.results23, anW2323, dCnf, dProd, hl, hp', hq', hlt, h1, h2, hb] at hc); done)
            | (intro hc; (try simp [hnt, Try.ntmps23, Try.results23, anW2323, dCnf, dProd, hl, hp', hq', hlt, h1, h2, hb] at hc); (first | (exfalso; omega) | skip))
            | (refine callP_mk (hv) ?_; try simp [hnt, Try.ntmps23, Try.results23, anW2323, dCnf, dProd, hl, hp', hq', hlt, h1, h2, hb])
            | (refine callP_wk (hv) ?_ ?_; (· (simp; done)); try simp [hnt, Try.ntmps23, Try.results23, anW2323, dCnf, dProd, hl, hp', hq', hlt, h1, h2, hb])
            | (refine ⟨?_, ?_⟩; · omega)
            | omega
            | apply_assumption -exfalso -symm
            | (exfalso; omega)))
      · have hne : a ≠ b := fun h => by subst h; rw [hp] at hq; simp_all
        clear hp hq
        (repeat (first
            | (refine DW_seq fun K hK => ?_)
            | (refine DW_r anW2323 Try.mixed (by kernel_rfl) ?_; simp [hnt, Try.ntmps23, Try.results23, anW2323, dCnf, dProd, hl, hp', hq', hlt, h1, h2, hb, hne]; try simp (disch := omega) only [wrap64_in])
            | (refine DW_block ?_)
            | (focus (refine DW_if ?_ ?_ ?_; (· (simp [hnt, Try.ntmps23, Try.results23, anW2323, dCnf, dProd, hl, hp', hq', hlt, h1, h2, hb, hne]; done)); (try (rotate_left; (· (intro hc; (try simp [hnt, Try.ntmps23, Try.results23, anW2323, dCnf, dProd, hl, hp', hq', hlt, h1, h2, hb, hne] at hc); done))))))
            | (refine DW_ret ?_; simp [hnt, Try.ntmps23, Try.results23, anW2323, dCnf, dProd, hl, hp', hq', hlt, h1, h2, hb, hne])
            | (refine DW_exit ?_; simp [hnt, Try.ntmps23, Try.results23, anW2323, dCnf, dProd, hl, hp', hq', hlt, h1, h2, hb, hne])
            | (refine DW_skip ?_; simp [hnt, Try.ntmps23, Try.results23, anW2323, dCnf, dProd, hl, hp', hq', hlt, h1, h2, hb, hne])
            | (intro hc; (try simp [hnt, Try.ntmps23, Try.results23, anW2323, dCnf, dProd, hl, hp', hq', hlt, h1, h2, hb, hne] at hc); done)
            | (intro hc; (try simp [hnt, Try.ntmps23, Try.results23, anW2323, dCnf, dProd, hl, hp', hq', hlt, h1, h2, hb, hne] at hc); (first | (exfalso; omega) | skip))
            | (refine callP_mk (hv) ?_; try simp [hnt, Try.ntmps23, Try.results23, anW2323, dCnf, dProd, hl, hp', hq', hlt, h1, h2, hb, hne])
            | (refine callP_wk (hv) ?_ ?_; (· (simp; done)); try simp [hnt, Try.ntmps23, Try.results23, anW2323, dCnf, dProd, hl, hp', hq', hlt, h1, h2, hb, hne])
            | (refine ⟨?_, ?_⟩; · omega)
            | omega
            | apply_assumption -exfalso -symm
            | (exfalso; omega)))
    · have hb : (p.head != q.head) = true := by simp [h1]
      have hne : a ≠ b := fun h => by subst h; rw [hp] at hq; simp_all
      clear hp hq
      (repeat (first
          | (refine DW_seq fun K hK => ?_)
          | (refine DW_r anW2323 Try.mixed (by kernel_rfl) ?_; simp [hnt, Try.ntmps23, Try.results23, anW2323, dCnf, dProd, hl, hp', hq', hlt, h1, hb, hne]; try simp (disch := omega) only [wrap64_in])
          | (refine DW_block ?_)
          | (focus (refine DW_if ?_ ?_ ?_; (· (simp [hnt, Try.ntmps23, Try.results23, anW2323, dCnf, dProd, hl, hp', hq', hlt, h1, hb, hne]; done)); (try (rotate_left; (· (intro hc; (try simp [hnt, Try.ntmps23, Try.results23, anW2323, dCnf, dProd, hl, hp', hq', hlt, h1, hb, hne] at hc); done))))))
          | (refine DW_ret ?_; simp [hnt, Try.ntmps23, Try.results23, anW2323, dCnf, dProd, hl, hp', hq', hlt, h1, hb, hne])
          | (refine DW_exit ?_; simp [hnt, Try.ntmps23, Try.results23, anW2323, dCnf, dProd, hl, hp', hq', hlt, h1, hb, hne])
          | (refine DW_skip ?_; simp [hnt, Try.ntmps23, Try.results23, anW2323, dCnf, dProd, hl, hp', hq', hlt, h1, hb, hne])
          | (intro hc; (try simp [hnt, Try.ntmps23, Try.results23, anW2323, dCnf, dProd, hl, hp', hq', hlt, h1, hb, hne] at hc); done)
          | (intro hc; (try simp [hnt, Try.ntmps23, Try.results23, anW2323, dCnf, dProd, hl, hp', hq', hlt, h1, hb, hne] at hc); (first | (exfalso; omega) | skip))
          | (refine callP_mk (hv) ?_; try simp [hnt, Try.ntmps23, Try.results23, anW2323, dCnf, dProd, hl, hp', hq', hlt, h1, hb, hne])
          | (refine callP_wk (hv) ?_ ?_; (· (simp; done)); try simp [hnt, Try.ntmps23, Try.results23, anW2323, dCnf, dProd, hl, hp', hq', hlt, h1, hb, hne])
          | (refine ⟨?_, ?_⟩; · omega)
          | omega
          | apply_assumption -exfalso -symm
          | (exfalso; omega)))
  · have : k = b.prods.length := by omega
    subst this
    have hab : a = b := by
      rw [List.take_of_length_le (by omega), List.take_of_length_le (by omega)] at he
      cases a; cases b; simp_all
    (repeat (first
        | (refine DW_seq fun K hK => ?_)
        | (refine DW_r anW2323 Try.mixed (by kernel_rfl) ?_; simp [hnt, Try.ntmps23, Try.results23, anW2323, dCnf, hab]; try simp (disch := omega) only [wrap64_in])
        | (refine DW_block ?_)
        | (focus (refine DW_if ?_ ?_ ?_; (· (simp [hnt, Try.ntmps23, Try.results23, anW2323, dCnf, hab]; done)); (try (rotate_left; (· (intro hc; (try simp [hnt, Try.ntmps23, Try.results23, anW2323, dCnf, hab] at hc); done))))))
        | (refine DW_ret ?_; simp [hnt, Try.ntmps23, Try.results23, anW2323, dCnf, hab])
        | (refine DW_exit ?_; simp [hnt, Try.ntmps23, Try.results23, anW2323, dCnf, hab])
        | (refine DW_skip ?_; simp [hnt, Try.ntmps23, Try.results23, anW2323, dCnf, hab])
        | (intro hc; (try simp [hnt, Try.ntmps23, Try.results23, anW2323, dCnf, hab] at hc); done)
        | (intro hc; (try simp [hnt, Try.ntmps23, Try.results23, anW2323, dCnf, hab] at hc); (first | (exfalso; omega) | skip))
        | (refine callP_mk (hv) ?_; try simp [hnt, Try.ntmps23, Try.results23, anW2323, dCnf, hab])
        | (refine callP_wk (hv) ?_ ?_; (· (simp; done)); try simp [hnt, Try.ntmps23, Try.results23, anW2323, dCnf, hab])
        | (refine ⟨?_, ?_⟩; · omega)
        | omega
        | apply_assumption -exfalso -symm
        | (exfalso; omega)))
end Go.Proofs.Ytihkcegelghcpaa
