/- A part of a proof: walks over the functions that it names; their contracts hold for every argument. -/
import Derived.Test.YtihkcegelghcpaaW7
import Derived.Test.YtihkcegelghcpaaW23
import Derived.Test.YtihkcegelghcpaaWS
set_option linter.unusedSimpArgs false
set_option linter.unusedVariables false
namespace Go.Proofs.Ytihkcegelghcpaa
open Go Go.Dm
attribute [local irreducible] DW callP callS
set_option maxRecDepth 100000

theorem turnC_turnC (c : Cnf) : turnC (turnC c) = c := by
  obtain ⟨n, ps⟩ := c
  simp only [turnC, List.map_map, Cnf.mk.injEq, true_and]
  have : ((fun p : Prod => (⟨p.head, p.body.reverse⟩ : Prod)) ∘ fun p => ⟨p.head, p.body.reverse⟩) = id := by
    funext p; cases p; simp
  rw [this, List.map_id]
theorem cnfOK_turn (c : Cnf) : cnfOK (turnC c) = cnfOK c := by
  simp only [cnfOK, turnC, List.all_map]
  congr 1
  refine congrArg (fun f => c.prods.all f) (funext fun p => ?_)
  simp only [Function.comp_def, prodOK, ntOK, List.any_reverse]
  rfl
theorem norm_mem (c : Cnf) (p : Prod) : p ∈ (normC c).prods ↔ p ∈ c.prods := by
  have h := (compL_strict ordProd (sortC_sorted ordProd c.prods)).2 p
  simp only [normC]
  rw [h, (sortC_perm _ _).mem_iff]
theorem cnfOK_norm (c : Cnf) : cnfOK (normC c) = cnfOK c := by
  have h : (normC c).prods.all (prodOK (normC c)) = c.prods.all (prodOK c) := by
    rw [Bool.eq_iff_iff, List.all_eq_true, List.all_eq_true]
    have e : prodOK (normC c) = prodOK c := rfl
    rw [e]
    exact ⟨fun hh p hp => hh p ((norm_mem c p).2 hp), fun hh p hp => hh p ((norm_mem c p).1 hp)⟩
  simp only [cnfOK]
  rw [h]
  rfl
theorem norm_norm (c : Cnf) : normC (normC c) = normC c := by
  simp only [normC, Cnf.mk.injEq, true_and]
  exact norm_idem ordProd c.prods
theorem norm_len (c : Cnf) : (normC c).prods.length ≤ c.prods.length := by
  have h := compL_len (e := fun p q => prodC p q == 0) (sortC prodC c.prods)
  rw [(sortC_perm _ _).length_eq] at h
  exact h

def anW99 : Ann := ⟨[], [⟨1, [3], [], []⟩, ⟨2, [5], [], []⟩, ⟨3, [7], [], []⟩, ⟨4, [9], [], []⟩]⟩
set_option maxHeartbeats 4000000 in
theorem cfgTwice_pure (c : Cnf) : DPure Try.prog 9 [.agg (dCnf c)] (.bool true) := by
  refine DPure_introF [] (fn := Try.f9) Try.func9 rfl Try.call9 (by simp [Try.ntmps9]) (by simp [mx]) ?_
  intro hwf B hnt
  simp only [argS]
  have h1 := copy_pure c
  have h2 := fturn_pure' c
  have h4 := fsort_pure' c
  have h6 := head12_pure
  have h7 := check_pure c
  cases hb : cnfOK c
  · rw [hb] at h2 h4 h7
    simp only [Bool.false_eq_true, if_false] at h2 h4 h7
    have h3 := fturn_pure' cnf0
    have h5 := fsort_pure' cnf0
    rw [show cnfOK cnf0 = false from rfl] at h3 h5
    simp only [Bool.false_eq_true, if_false] at h3 h5
    (repeat (first
        | (refine DW_seq fun K hK => ?_)
        | (refine DW_r anW99 Try.mixed (by kernel_rfl) ?_; simp [hnt, Try.ntmps9, Try.results9, anW99, dCnf]; try simp (disch := omega) only [wrap64_in])
        | (refine DW_block ?_)
        | (focus (refine DW_if ?_ ?_ ?_; (· (simp [hnt, Try.ntmps9, Try.results9, anW99, dCnf]; done)); (try (rotate_left; (· (intro hc; (try simp [hnt, Try.ntmps9, Try.results9, anW99, dCnf] at hc); done))))))
        | (refine DW_ret ?_; simp [hnt, Try.ntmps9, Try.results9, anW99, dCnf])
        | (refine DW_exit ?_; simp [hnt, Try.ntmps9, Try.results9, anW99, dCnf])
        | (refine DW_skip ?_; simp [hnt, Try.ntmps9, Try.results9, anW99, dCnf])
        | (intro hc; (try simp [hnt, Try.ntmps9, Try.results9, anW99, dCnf] at hc); done)
        | (intro hc; (try simp [hnt, Try.ntmps9, Try.results9, anW99, dCnf] at hc); (first | (exfalso; omega) | skip))
        | (refine callP_mk (h1) ?_; try simp [hnt, Try.ntmps9, Try.results9, anW99, dCnf])
        | (refine callP_wk (h1) ?_ ?_; (· (simp; done)); try simp [hnt, Try.ntmps9, Try.results9, anW99, dCnf])
        | (refine callP_mk (h2) ?_; try simp [hnt, Try.ntmps9, Try.results9, anW99, dCnf])
        | (refine callP_wk (h2) ?_ ?_; (· (simp; done)); try simp [hnt, Try.ntmps9, Try.results9, anW99, dCnf])
        | (refine callP_mk (h3) ?_; try simp [hnt, Try.ntmps9, Try.results9, anW99, dCnf])
        | (refine callP_wk (h3) ?_ ?_; (· (simp; done)); try simp [hnt, Try.ntmps9, Try.results9, anW99, dCnf])
        | (refine callP_mk (h4) ?_; try simp [hnt, Try.ntmps9, Try.results9, anW99, dCnf])
        | (refine callP_wk (h4) ?_ ?_; (· (simp; done)); try simp [hnt, Try.ntmps9, Try.results9, anW99, dCnf])
        | (refine callP_mk (h5) ?_; try simp [hnt, Try.ntmps9, Try.results9, anW99, dCnf])
        | (refine callP_wk (h5) ?_ ?_; (· (simp; done)); try simp [hnt, Try.ntmps9, Try.results9, anW99, dCnf])
        | (refine callP_mk (h6) ?_; try simp [hnt, Try.ntmps9, Try.results9, anW99, dCnf])
        | (refine callP_wk (h6) ?_ ?_; (· (simp; done)); try simp [hnt, Try.ntmps9, Try.results9, anW99, dCnf])
        | (refine callP_mk (h7) ?_; try simp [hnt, Try.ntmps9, Try.results9, anW99, dCnf])
        | (refine callP_wk (h7) ?_ ?_; (· (simp; done)); try simp [hnt, Try.ntmps9, Try.results9, anW99, dCnf])
        | (refine ⟨?_, ?_⟩; · omega)
        | omega
        | apply_assumption -exfalso -symm
        | (exfalso; omega)))
  · rw [hb] at h2 h4 h7
    simp only [if_true] at h2 h4 h7
    have h3 := fturn_pure' (turnC c)
    have h5 := fsort_pure' (normC c)
    rw [cnfOK_turn, hb, turnC_turnC] at h3
    rw [cnfOK_norm, hb, norm_norm] at h5
    simp only [if_true] at h3 h5
    have h8 := same23_pure c c
    have h9 := same23_pure (normC c) (normC c)
    have hlen : ((normC c).prods.length : Int) ≤ c.prods.length := by have := norm_len c; omega
    simp only [decide_true] at h8 h9
    (repeat (first
        | (refine DW_seq fun K hK => ?_)
        | (refine DW_r anW99 Try.mixed (by kernel_rfl) ?_; simp [hnt, Try.ntmps9, Try.results9, anW99, dCnf, hlen]; try simp (disch := omega) only [wrap64_in])
        | (refine DW_block ?_)
        | (focus (refine DW_if ?_ ?_ ?_; (· (simp [hnt, Try.ntmps9, Try.results9, anW99, dCnf, hlen]; done)); (try (rotate_left; (· (intro hc; (try simp [hnt, Try.ntmps9, Try.results9, anW99, dCnf, hlen] at hc); done))))))
        | (refine DW_ret ?_; simp [hnt, Try.ntmps9, Try.results9, anW99, dCnf, hlen])
        | (refine DW_exit ?_; simp [hnt, Try.ntmps9, Try.results9, anW99, dCnf, hlen])
        | (refine DW_skip ?_; simp [hnt, Try.ntmps9, Try.results9, anW99, dCnf, hlen])
        | (intro hc; (try simp [hnt, Try.ntmps9, Try.results9, anW99, dCnf, hlen] at hc); done)
        | (intro hc; (try simp [hnt, Try.ntmps9, Try.results9, anW99, dCnf, hlen] at hc); (first | (exfalso; omega) | skip))
        | (refine callP_mk (h1) ?_; try simp [hnt, Try.ntmps9, Try.results9, anW99, dCnf, hlen])
        | (refine callP_wk (h1) ?_ ?_; (· (simp; done)); try simp [hnt, Try.ntmps9, Try.results9, anW99, dCnf, hlen])
        | (refine callP_mk (h2) ?_; try simp [hnt, Try.ntmps9, Try.results9, anW99, dCnf, hlen])
        | (refine callP_wk (h2) ?_ ?_; (· (simp; done)); try simp [hnt, Try.ntmps9, Try.results9, anW99, dCnf, hlen])
        | (refine callP_mk (h3) ?_; try simp [hnt, Try.ntmps9, Try.results9, anW99, dCnf, hlen])
        | (refine callP_wk (h3) ?_ ?_; (· (simp; done)); try simp [hnt, Try.ntmps9, Try.results9, anW99, dCnf, hlen])
        | (refine callP_mk (h4) ?_; try simp [hnt, Try.ntmps9, Try.results9, anW99, dCnf, hlen])
        | (refine callP_wk (h4) ?_ ?_; (· (simp; done)); try simp [hnt, Try.ntmps9, Try.results9, anW99, dCnf, hlen])
        | (refine callP_mk (h5) ?_; try simp [hnt, Try.ntmps9, Try.results9, anW99, dCnf, hlen])
        | (refine callP_wk (h5) ?_ ?_; (· (simp; done)); try simp [hnt, Try.ntmps9, Try.results9, anW99, dCnf, hlen])
        | (refine callP_mk (h6) ?_; try simp [hnt, Try.ntmps9, Try.results9, anW99, dCnf, hlen])
        | (refine callP_wk (h6) ?_ ?_; (· (simp; done)); try simp [hnt, Try.ntmps9, Try.results9, anW99, dCnf, hlen])
        | (refine callP_mk (h7) ?_; try simp [hnt, Try.ntmps9, Try.results9, anW99, dCnf, hlen])
        | (refine callP_wk (h7) ?_ ?_; (· (simp; done)); try simp [hnt, Try.ntmps9, Try.results9, anW99, dCnf, hlen])
        | (refine callP_mk (h8) ?_; try simp [hnt, Try.ntmps9, Try.results9, anW99, dCnf, hlen])
        | (refine callP_wk (h8) ?_ ?_; (· (simp; done)); try simp [hnt, Try.ntmps9, Try.results9, anW99, dCnf, hlen])
        | (refine callP_mk (h9) ?_; try simp [hnt, Try.ntmps9, Try.results9, anW99, dCnf, hlen])
        | (refine callP_wk (h9) ?_ ?_; (· (simp; done)); try simp [hnt, Try.ntmps9, Try.results9, anW99, dCnf, hlen])
        | (refine ⟨?_, ?_⟩; · omega)
        | omega
        | apply_assumption -exfalso -symm
        | (exfalso; omega)))
end Go.Proofs.Ytihkcegelghcpaa
