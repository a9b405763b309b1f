/- A part of a proof: walks over the functions that it names; their contracts hold for every argument. -/
import Derived.Test.YtihkcegelghcpaaW15
import Derived.Test.YtihkcegelghcpaaW18
set_option linter.unusedSimpArgs false
set_option linter.unusedVariables false
namespace Go.Proofs.Ytihkcegelghcpaa
open Go Go.Dm
attribute [local irreducible] DW callP
set_option maxRecDepth 100000

theorem eps_split {l : List Prod} {k : Nat} (h : k < l.length) : epsOf l = epsOf (l.take k) ++ ((if formOf l[k].body = 1 then [l[k].head] else []) ++ epsOf (l.drop (k + 1))) := by
  have : l = l.take k ++ ([l[k]] ++ l.drop (k + 1)) := by simp
  refine (congrArg epsOf this).trans ?_
  simp only [epsOf, List.filter_append, List.map_append]
  congr 2
  by_cases hf : formOf l[k].body = 1 <;> simp [hf]
theorem let_split {l : List Prod} {k : Nat} (h : k < l.length) : letOf l = letOf (l.take k) ++ ((if formOf l[k].body = 2 then [l[k]] else []) ++ letOf (l.drop (k + 1))) := by
  have : l = l.take k ++ ([l[k]] ++ l.drop (k + 1)) := by simp
  refine (congrArg letOf this).trans ?_
  simp only [letOf, List.filter_append]
  congr 2
  by_cases hf : formOf l[k].body = 2 <;> simp [hf]
theorem rest_split {l : List Prod} {k : Nat} (h : k < l.length) : restOf l = restOf (l.take k) ++ ((if formOf l[k].body = 1 then [] else if formOf l[k].body = 2 then [] else [l[k]]) ++ restOf (l.drop (k + 1))) := by
  have : l = l.take k ++ ([l[k]] ++ l.drop (k + 1)) := by simp
  refine (congrArg restOf this).trans ?_
  simp only [restOf, List.filter_append]
  congr 2
  by_cases hf : formOf l[k].body = 1 <;> by_cases hf' : formOf l[k].body = 2 <;> simp [hf, hf']
theorem at_mid {α : Type} (a : List α) (x : α) (b : List α) {i : Nat} (hi : i = a.length) (h : i < (a ++ ([x] ++ b)).length) : (a ++ ([x] ++ b))[i] = x := by
  subst hi; simp
theorem form_len {l : List Sym} (h : ¬ formOf l = 0) : (formOf l = 1 ↔ l.length = 0) ∧ (formOf l = 2 ↔ l.length = 1) := by
  match l with
  | [] => simp [formOf]
  | [s] => cases hs : s.label <;> simp_all [formOf]
  | [s, t] => cases hs : s.label <;> cases ht : t.label <;> simp_all [formOf]
  | s :: t :: u :: r => simp [formOf] at h

def anW33 : Ann := ⟨[], [⟨11, [11], [], []⟩]⟩
set_option maxHeartbeats 4000000 in
theorem parts3_no (c : Cnf) (h : cnfWeak c = false) : DPure Try.prog 3 [.agg (dCnf c)] (.bool true) := by
  refine DPure_introF [] (fn := Try.f3) Try.func3 rfl Try.call3 (by simp [Try.ntmps3]) (by simp [mx]) ?_
  intro hwf B hnt
  simp only [argS]
  have h1 := is_pure c
  have h2 := parts_no c h
  have h3 := head14_pure
  have h4 := ris_pure c
  have h5 := copy_pure c
  rw [h] at h1 h4
  simp only [dCnf] at h1 h2 h4 h5
  (repeat (first
      | (refine DW_seq fun K hK => ?_)
      | (refine DW_r anW33 Try.mixed (by kernel_rfl) ?_; simp [hnt, Try.ntmps3, Try.results3, anW33, dCnf]; try simp (disch := omega) only [wrap64_in])
      | (refine DW_block ?_)
      | (focus (refine DW_if ?_ ?_ ?_; (· (simp [hnt, Try.ntmps3, Try.results3, anW33, dCnf]; done)); (try (rotate_left; (· (intro hc; (try simp [hnt, Try.ntmps3, Try.results3, anW33, dCnf] at hc); done))))))
      | (refine DW_ret ?_; simp [hnt, Try.ntmps3, Try.results3, anW33, dCnf])
      | (refine DW_exit ?_; simp [hnt, Try.ntmps3, Try.results3, anW33, dCnf])
      | (refine DW_skip ?_; simp [hnt, Try.ntmps3, Try.results3, anW33, dCnf])
      | (intro hc; (try simp [hnt, Try.ntmps3, Try.results3, anW33, dCnf] at hc); done)
      | (intro hc; (try simp [hnt, Try.ntmps3, Try.results3, anW33, dCnf] at hc); (first | (exfalso; omega) | skip))
      | (refine callP_mk (h5) ?_; try simp [hnt, Try.ntmps3, Try.results3, anW33, dCnf])
      | (refine callP_wk (h5) ?_ ?_; (· (simp; done)); try simp [hnt, Try.ntmps3, Try.results3, anW33, dCnf])
      | (refine callP_mk (h1) ?_; try simp [hnt, Try.ntmps3, Try.results3, anW33, dCnf])
      | (refine callP_wk (h1) ?_ ?_; (· (simp; done)); try simp [hnt, Try.ntmps3, Try.results3, anW33, dCnf])
      | (refine callP_mk (h2) ?_; try simp [hnt, Try.ntmps3, Try.results3, anW33, dCnf])
      | (refine callP_wk (h2) ?_ ?_; (· (simp; done)); try simp [hnt, Try.ntmps3, Try.results3, anW33, dCnf])
      | (refine callP_mk (h3) ?_; try simp [hnt, Try.ntmps3, Try.results3, anW33, dCnf])
      | (refine callP_wk (h3) ?_ ?_; (· (simp; done)); try simp [hnt, Try.ntmps3, Try.results3, anW33, dCnf])
      | (refine callP_mk (h4) ?_; try simp [hnt, Try.ntmps3, Try.results3, anW33, dCnf])
      | (refine callP_wk (h4) ?_ ?_; (· (simp; done)); try simp [hnt, Try.ntmps3, Try.results3, anW33, dCnf])
      | (refine ⟨?_, ?_⟩; · omega)
      | apply_assumption -exfalso -symm
      | (exfalso; omega)))

set_option maxHeartbeats 4000000 in
theorem parts3_yes (c : Cnf) (h : cnfWeak c = true) : DPure Try.prog 3 [.agg (dCnf c)] (.bool true) := by
  refine DPure_introF [] (fn := Try.f3) Try.func3 rfl Try.call3 (by simp [Try.ntmps3]) (by simp [mx]) ?_
  intro hwf B hnt
  simp only [argS]
  have hw : wCnf c := w_cnf (by simpa [wfL, wfD] using hwf.1)
  obtain ⟨hw1, hw2, hw3, hw4⟩ := hw
  clear hwf
  have h1 := is_pure c
  have h2 := parts_pure c h
  have h3 := head14_pure
  have h4 := ris_pure c
  have h5 := copy_pure c
  rw [h] at h1 h4
  simp only [dCnf] at h1 h2 h4 h5
  obtain ⟨E, hE⟩ : ∃ E, E = epsOf c.prods := ⟨_, rfl⟩
  obtain ⟨L, hL⟩ : ∃ E, E = letOf c.prods := ⟨_, rfl⟩
  obtain ⟨R, hR⟩ : ∃ E, E = restOf c.prods := ⟨_, rfl⟩
  simp only [← hE, ← hL, ← hR] at h2
  (repeat (first
      | (refine DW_seq fun K hK => ?_)
      | (refine DW_r anW33 Try.mixed (by kernel_rfl) ?_; simp [hnt, Try.ntmps3, Try.results3, anW33, dCnf]; try simp (disch := omega) only [wrap64_in])
      | (refine DW_block ?_)
      | (focus (refine DW_if ?_ ?_ ?_; (· (simp [hnt, Try.ntmps3, Try.results3, anW33, dCnf]; done)); (try (rotate_left; (· (intro hc; (try simp [hnt, Try.ntmps3, Try.results3, anW33, dCnf] at hc); done))))))
      | (refine DW_ret ?_; simp [hnt, Try.ntmps3, Try.results3, anW33, dCnf])
      | (refine DW_exit ?_; simp [hnt, Try.ntmps3, Try.results3, anW33, dCnf])
      | (refine DW_skip ?_; simp [hnt, Try.ntmps3, Try.results3, anW33, dCnf])
      | (intro hc; (try simp [hnt, Try.ntmps3, Try.results3, anW33, dCnf] at hc); done)
      | (intro hc; (try simp [hnt, Try.ntmps3, Try.results3, anW33, dCnf] at hc); (first | (exfalso; omega) | skip))
      | (refine callP_mk (h5) ?_; try simp [hnt, Try.ntmps3, Try.results3, anW33, dCnf])
      | (refine callP_wk (h5) ?_ ?_; (· (simp; done)); try simp [hnt, Try.ntmps3, Try.results3, anW33, dCnf])
      | (refine callP_mk (h1) ?_; try simp [hnt, Try.ntmps3, Try.results3, anW33, dCnf])
      | (refine callP_wk (h1) ?_ ?_; (· (simp; done)); try simp [hnt, Try.ntmps3, Try.results3, anW33, dCnf])
      | (refine callP_mk (h2) ?_; try simp [hnt, Try.ntmps3, Try.results3, anW33, dCnf])
      | (refine callP_wk (h2) ?_ ?_; (· (simp; done)); try simp [hnt, Try.ntmps3, Try.results3, anW33, dCnf])
      | (refine callP_mk (h3) ?_; try simp [hnt, Try.ntmps3, Try.results3, anW33, dCnf])
      | (refine callP_wk (h3) ?_ ?_; (· (simp; done)); try simp [hnt, Try.ntmps3, Try.results3, anW33, dCnf])
      | (refine callP_mk (h4) ?_; try simp [hnt, Try.ntmps3, Try.results3, anW33, dCnf])
      | (refine callP_wk (h4) ?_ ?_; (· (simp; done)); try simp [hnt, Try.ntmps3, Try.results3, anW33, dCnf])
      | (refine ⟨?_, ?_⟩; · omega)
      | apply_assumption -exfalso -symm
      | (exfalso; omega)))
  refine DW_loop (X := {k : Nat // k ≤ c.prods.length}) (fun k => ⟨[(1, .ref [.int .i64 c.nts, dProds c.prods]), (4, .sl 1 8 (E.map dInt)), (5, dProds L), (6, dProds R), (7, .int .i64 (epsOf (c.prods.take k.1)).length), (8, .int .i64 (letOf (c.prods.take k.1)).length), (9, .int .i64 (restOf (c.prods.take k.1)).length), (10, .int .i64 k.1)], []⟩) (fun k => c.prods.length - k.1) ⟨0, by simp⟩ (Sub.lit (by simp [epsOf, letOf, restOf])) ?_
  rintro ⟨k, hk⟩
  by_cases hlt : k < c.prods.length
  rotate_left
  · have hke : k = c.prods.length := by omega
    subst hke
    rw [List.take_length, ← hE, ← hL, ← hR]
    (repeat (first
        | (refine DW_seq fun K hK => ?_)
        | (refine DW_r anW33 Try.mixed (by kernel_rfl) ?_; simp [hnt, Try.ntmps3, Try.results3, anW33, dCnf]; try simp (disch := omega) only [wrap64_in])
        | (refine DW_block ?_)
        | (focus (refine DW_if ?_ ?_ ?_; (· (simp [hnt, Try.ntmps3, Try.results3, anW33, dCnf]; done)); (try (rotate_left; (· (intro hc; (try simp [hnt, Try.ntmps3, Try.results3, anW33, dCnf] at hc); done))))))
        | (refine DW_ret ?_; simp [hnt, Try.ntmps3, Try.results3, anW33, dCnf])
        | (refine DW_exit ?_; simp [hnt, Try.ntmps3, Try.results3, anW33, dCnf])
        | (refine DW_skip ?_; simp [hnt, Try.ntmps3, Try.results3, anW33, dCnf])
        | (intro hc; (try simp [hnt, Try.ntmps3, Try.results3, anW33, dCnf] at hc); done)
        | (intro hc; (try simp [hnt, Try.ntmps3, Try.results3, anW33, dCnf] at hc); (first | (exfalso; omega) | skip))
        | (refine callP_mk (h5) ?_; try simp [hnt, Try.ntmps3, Try.results3, anW33, dCnf])
        | (refine callP_wk (h5) ?_ ?_; (· (simp; done)); try simp [hnt, Try.ntmps3, Try.results3, anW33, dCnf])
        | (refine callP_mk (h1) ?_; try simp [hnt, Try.ntmps3, Try.results3, anW33, dCnf])
        | (refine callP_wk (h1) ?_ ?_; (· (simp; done)); try simp [hnt, Try.ntmps3, Try.results3, anW33, dCnf])
        | (refine callP_mk (h2) ?_; try simp [hnt, Try.ntmps3, Try.results3, anW33, dCnf])
        | (refine callP_wk (h2) ?_ ?_; (· (simp; done)); try simp [hnt, Try.ntmps3, Try.results3, anW33, dCnf])
        | (refine callP_mk (h3) ?_; try simp [hnt, Try.ntmps3, Try.results3, anW33, dCnf])
        | (refine callP_wk (h3) ?_ ?_; (· (simp; done)); try simp [hnt, Try.ntmps3, Try.results3, anW33, dCnf])
        | (refine callP_mk (h4) ?_; try simp [hnt, Try.ntmps3, Try.results3, anW33, dCnf])
        | (refine callP_wk (h4) ?_ ?_; (· (simp; done)); try simp [hnt, Try.ntmps3, Try.results3, anW33, dCnf])
        | (refine ⟨?_, ?_⟩; · omega)
        | apply_assumption -exfalso -symm
        | (exfalso; omega)))
  obtain ⟨p, hp, hp', hpm⟩ := at_lt' hlt
  obtain ⟨hw5, hw6, hw7, hw8⟩ := hw4 p hpm
  have htk : c.prods.take (k + 1) = c.prods.take k ++ [p] := by rw [List.take_succ_eq_append_getElem hlt, hp']
  have b1 : (epsOf (c.prods.take k)).length ≤ k := by
    refine Nat.le_trans ?_ (List.length_take_le k c.prods)
    simp only [epsOf, List.length_map]; exact List.length_filter_le ..
  have b2 : (letOf (c.prods.take k)).length ≤ k := Nat.le_trans (List.length_filter_le ..) (List.length_take_le k c.prods)
  have b3 : (restOf (c.prods.take k)).length ≤ k := Nat.le_trans (List.length_filter_le ..) (List.length_take_le k c.prods)
  have s1 := eps_split hlt
  have s2 := let_split hlt
  have s3 := rest_split hlt
  rw [hp', ← hE] at s1
  rw [hp', ← hL] at s2
  rw [hp', ← hR] at s3
  have hno : ¬ formOf p.body = 0 := by
    intro hf
    have : c.prods.any isOther = true := List.any_eq_true.2 ⟨p, hpm, by simp [isOther, hf]⟩
    simp [cnfWeak, this] at h
  obtain ⟨q1, q2⟩ := form_len hno
  have f1 : (epsOf (c.prods.take (k + 1))).length = (epsOf (c.prods.take k)).length + (if p.body.length = 0 then 1 else 0) := by
    rw [htk]; simp only [epsOf, List.filter_append, List.map_append, List.length_append, ← q1]; congr 1
    by_cases hf : formOf p.body = 1 <;> simp [hf]
  have f2 : (letOf (c.prods.take (k + 1))).length = (letOf (c.prods.take k)).length + (if p.body.length = 1 then 1 else 0) := by
    rw [htk]; simp only [letOf, List.filter_append, List.length_append, ← q2]; congr 1
    by_cases hf : formOf p.body = 2 <;> simp [hf]
  have f3 : (restOf (c.prods.take (k + 1))).length = (restOf (c.prods.take k)).length + (if p.body.length = 0 then 0 else if p.body.length = 1 then 0 else 1) := by
    rw [htk]; simp only [restOf, List.filter_append, List.length_append, ← q1, ← q2]; congr 1
    by_cases hf : formOf p.body = 1 <;> by_cases hf' : formOf p.body = 2 <;> simp [hf, hf']
  simp only [q1] at s1
  simp only [q2] at s2
  simp only [q1, q2] at s3
  clear hno
  obtain ⟨es, hes⟩ : ∃ es, es = epsOf (c.prods.take k) := ⟨_, rfl⟩
  obtain ⟨ls, hls⟩ : ∃ es, es = letOf (c.prods.take k) := ⟨_, rfl⟩
  obtain ⟨rs, hrs⟩ : ∃ es, es = restOf (c.prods.take k) := ⟨_, rfl⟩
  simp only [← hes, ← hls, ← hrs] at b1 b2 b3 f1 f2 f3 s1 s2 s3 ⊢
  obtain ⟨i, hi⟩ : ∃ i, i = es.length := ⟨_, rfl⟩
  obtain ⟨j, hj⟩ : ∃ i, i = ls.length := ⟨_, rfl⟩
  obtain ⟨m, hm⟩ : ∃ i, i = rs.length := ⟨_, rfl⟩
  simp only [← hi, ← hj, ← hm] at b1 b2 b3 f1 f2 f3 ⊢
  by_cases hz : p.body.length = 0
  · rw [if_pos hz] at s1
    have g1 : i < E.length := by rw [s1]; simp; omega
    have g2 : E[i] = p.head := by simp only [s1, hi]; simp
    simp only [if_pos hz, Nat.add_zero] at f1 f2 f3
    (repeat (first
        | (refine DW_seq fun K hK => ?_)
        | (refine DW_r anW33 Try.mixed (by kernel_rfl) ?_; simp [hnt, Try.ntmps3, Try.results3, anW33, dCnf, dProd, dInt, hlt, hp', hz, g1, g2]; try simp (disch := omega) only [wrap64_in])
        | (refine DW_block ?_)
        | (focus (refine DW_if ?_ ?_ ?_; (· (simp [hnt, Try.ntmps3, Try.results3, anW33, dCnf, dProd, dInt, hlt, hp', hz, g1, g2]; done)); (try (rotate_left; (· (intro hc; (try simp [hnt, Try.ntmps3, Try.results3, anW33, dCnf, dProd, dInt, hlt, hp', hz, g1, g2] at hc); done))))))
        | (refine DW_ret ?_; simp [hnt, Try.ntmps3, Try.results3, anW33, dCnf, dProd, dInt, hlt, hp', hz, g1, g2])
        | (refine DW_exit ?_; simp [hnt, Try.ntmps3, Try.results3, anW33, dCnf, dProd, dInt, hlt, hp', hz, g1, g2])
        | (refine DW_skip ?_; simp [hnt, Try.ntmps3, Try.results3, anW33, dCnf, dProd, dInt, hlt, hp', hz, g1, g2])
        | (intro hc; (try simp [hnt, Try.ntmps3, Try.results3, anW33, dCnf, dProd, dInt, hlt, hp', hz, g1, g2] at hc); done)
        | (intro hc; (try simp [hnt, Try.ntmps3, Try.results3, anW33, dCnf, dProd, dInt, hlt, hp', hz, g1, g2] at hc); (first | (exfalso; omega) | skip))
        | (refine ⟨?_, ?_⟩; · omega)
        | apply_assumption -exfalso -symm
        | (exfalso; omega)))
    refine Again.mk ⟨k + 1, by omega⟩ (Sub.lit ?_) (by simp; omega)
    · have : ¬ p.body.length = 1 := by omega
      simp [f1, f2, f3, this]
    (repeat (first
        | (refine DW_seq fun K hK => ?_)
        | (refine DW_r anW33 Try.mixed (by kernel_rfl) ?_; simp [hnt, Try.ntmps3, Try.results3, anW33]; try simp (disch := omega) only [wrap64_in])
        | (refine DW_block ?_)
        | (focus (refine DW_if ?_ ?_ ?_; (· (simp [hnt, Try.ntmps3, Try.results3, anW33]; done)); (try (rotate_left; (· (intro hc; (try simp [hnt, Try.ntmps3, Try.results3, anW33] at hc); done))))))
        | (refine DW_ret ?_; simp [hnt, Try.ntmps3, Try.results3, anW33])
        | (refine DW_exit ?_; simp [hnt, Try.ntmps3, Try.results3, anW33])
        | (refine DW_skip ?_; simp [hnt, Try.ntmps3, Try.results3, anW33])
        | (intro hc; (try simp [hnt, Try.ntmps3, Try.results3, anW33] at hc); done)
        | (intro hc; (try simp [hnt, Try.ntmps3, Try.results3, anW33] at hc); (first | (exfalso; omega) | skip))
        | (refine ⟨?_, ?_⟩; · omega)
        | apply_assumption -exfalso -symm
        | (exfalso; omega)))
  by_cases ho : p.body.length = 1
  · have hsb := sameBody_pure p.body p.body
    simp only [decide_true] at hsb
    rw [if_pos ho] at s2
    have g1 : j < L.length := by rw [s2]; simp; omega
    have g2 : L[j] = p := by simp only [s2, hj]; simp
    simp only [if_neg hz, if_pos ho, Nat.add_zero] at f1 f2 f3
    (repeat (first
        | (refine DW_seq fun K hK => ?_)
        | (refine DW_r anW33 Try.mixed (by kernel_rfl) ?_; simp [hnt, Try.ntmps3, Try.results3, anW33, dCnf, dProd, hlt, hp', ho, g1, g2]; try simp (disch := omega) only [wrap64_in])
        | (refine DW_block ?_)
        | (focus (refine DW_if ?_ ?_ ?_; (· (simp [hnt, Try.ntmps3, Try.results3, anW33, dCnf, dProd, hlt, hp', ho, g1, g2]; done)); (try (rotate_left; (· (intro hc; (try simp [hnt, Try.ntmps3, Try.results3, anW33, dCnf, dProd, hlt, hp', ho, g1, g2] at hc); done))))))
        | (refine DW_ret ?_; simp [hnt, Try.ntmps3, Try.results3, anW33, dCnf, dProd, hlt, hp', ho, g1, g2])
        | (refine DW_exit ?_; simp [hnt, Try.ntmps3, Try.results3, anW33, dCnf, dProd, hlt, hp', ho, g1, g2])
        | (refine DW_skip ?_; simp [hnt, Try.ntmps3, Try.results3, anW33, dCnf, dProd, hlt, hp', ho, g1, g2])
        | (intro hc; (try simp [hnt, Try.ntmps3, Try.results3, anW33, dCnf, dProd, hlt, hp', ho, g1, g2] at hc); done)
        | (intro hc; (try simp [hnt, Try.ntmps3, Try.results3, anW33, dCnf, dProd, hlt, hp', ho, g1, g2] at hc); (first | (exfalso; omega) | skip))
        | (refine callP_mk (hsb) ?_; try simp [hnt, Try.ntmps3, Try.results3, anW33, dCnf, dProd, hlt, hp', ho, g1, g2])
        | (refine callP_wk (hsb) ?_ ?_; (· (simp; done)); try simp [hnt, Try.ntmps3, Try.results3, anW33, dCnf, dProd, hlt, hp', ho, g1, g2])
        | (refine ⟨?_, ?_⟩; · omega)
        | apply_assumption -exfalso -symm
        | (exfalso; omega)))
    refine Again.mk ⟨k + 1, by omega⟩ (Sub.lit ?_) (by simp; omega)
    · simp [f1, f2, f3]
    (repeat (first
        | (refine DW_seq fun K hK => ?_)
        | (refine DW_r anW33 Try.mixed (by kernel_rfl) ?_; simp [hnt, Try.ntmps3, Try.results3, anW33]; try simp (disch := omega) only [wrap64_in])
        | (refine DW_block ?_)
        | (focus (refine DW_if ?_ ?_ ?_; (· (simp [hnt, Try.ntmps3, Try.results3, anW33]; done)); (try (rotate_left; (· (intro hc; (try simp [hnt, Try.ntmps3, Try.results3, anW33] at hc); done))))))
        | (refine DW_ret ?_; simp [hnt, Try.ntmps3, Try.results3, anW33])
        | (refine DW_exit ?_; simp [hnt, Try.ntmps3, Try.results3, anW33])
        | (refine DW_skip ?_; simp [hnt, Try.ntmps3, Try.results3, anW33])
        | (intro hc; (try simp [hnt, Try.ntmps3, Try.results3, anW33] at hc); done)
        | (intro hc; (try simp [hnt, Try.ntmps3, Try.results3, anW33] at hc); (first | (exfalso; omega) | skip))
        | (refine callP_mk (hsb) ?_; try simp [hnt, Try.ntmps3, Try.results3, anW33])
        | (refine callP_wk (hsb) ?_ ?_; (· (simp; done)); try simp [hnt, Try.ntmps3, Try.results3, anW33])
        | (refine ⟨?_, ?_⟩; · omega)
        | apply_assumption -exfalso -symm
        | (exfalso; omega)))
  · have hsb := sameBody_pure p.body p.body
    simp only [decide_true] at hsb
    rw [if_neg hz, if_neg ho] at s3
    have g1 : m < R.length := by rw [s3]; simp; omega
    have g2 : R[m] = p := by simp only [s3, hm]; simp
    simp only [if_neg hz, if_neg ho, Nat.add_zero] at f1 f2 f3
    have hz' : ¬ p.body = [] := by intro hh; simp [hh] at hz
    have ho' : ¬ (p.body.length : Int) = 1 := by omega
    (repeat (first
        | (refine DW_seq fun K hK => ?_)
        | (refine DW_r anW33 Try.mixed (by kernel_rfl) ?_; simp [hnt, Try.ntmps3, Try.results3, anW33, dCnf, dProd, hlt, hp', hz', ho, ho', g1, g2]; try simp (disch := omega) only [wrap64_in])
        | (refine DW_block ?_)
        | (focus (refine DW_if ?_ ?_ ?_; (· (simp [hnt, Try.ntmps3, Try.results3, anW33, dCnf, dProd, hlt, hp', hz', ho, ho', g1, g2]; done)); (try (rotate_left; (· (intro hc; (try simp [hnt, Try.ntmps3, Try.results3, anW33, dCnf, dProd, hlt, hp', hz', ho, ho', g1, g2] at hc); done))))))
        | (refine DW_ret ?_; simp [hnt, Try.ntmps3, Try.results3, anW33, dCnf, dProd, hlt, hp', hz', ho, ho', g1, g2])
        | (refine DW_exit ?_; simp [hnt, Try.ntmps3, Try.results3, anW33, dCnf, dProd, hlt, hp', hz', ho, ho', g1, g2])
        | (refine DW_skip ?_; simp [hnt, Try.ntmps3, Try.results3, anW33, dCnf, dProd, hlt, hp', hz', ho, ho', g1, g2])
        | (intro hc; (try simp [hnt, Try.ntmps3, Try.results3, anW33, dCnf, dProd, hlt, hp', hz', ho, ho', g1, g2] at hc); done)
        | (intro hc; (try simp [hnt, Try.ntmps3, Try.results3, anW33, dCnf, dProd, hlt, hp', hz', ho, ho', g1, g2] at hc); (first | (exfalso; omega) | skip))
        | (refine callP_mk (hsb) ?_; try simp [hnt, Try.ntmps3, Try.results3, anW33, dCnf, dProd, hlt, hp', hz', ho, ho', g1, g2])
        | (refine callP_wk (hsb) ?_ ?_; (· (simp; done)); try simp [hnt, Try.ntmps3, Try.results3, anW33, dCnf, dProd, hlt, hp', hz', ho, ho', g1, g2])
        | (refine ⟨?_, ?_⟩; · omega)
        | apply_assumption -exfalso -symm
        | (exfalso; omega)))
    refine Again.mk ⟨k + 1, by omega⟩ (Sub.lit ?_) (by simp; omega)
    · simp [f1, f2, f3]
    (repeat (first
        | (refine DW_seq fun K hK => ?_)
        | (refine DW_r anW33 Try.mixed (by kernel_rfl) ?_; simp [hnt, Try.ntmps3, Try.results3, anW33]; try simp (disch := omega) only [wrap64_in])
        | (refine DW_block ?_)
        | (focus (refine DW_if ?_ ?_ ?_; (· (simp [hnt, Try.ntmps3, Try.results3, anW33]; done)); (try (rotate_left; (· (intro hc; (try simp [hnt, Try.ntmps3, Try.results3, anW33] at hc); done))))))
        | (refine DW_ret ?_; simp [hnt, Try.ntmps3, Try.results3, anW33])
        | (refine DW_exit ?_; simp [hnt, Try.ntmps3, Try.results3, anW33])
        | (refine DW_skip ?_; simp [hnt, Try.ntmps3, Try.results3, anW33])
        | (intro hc; (try simp [hnt, Try.ntmps3, Try.results3, anW33] at hc); done)
        | (intro hc; (try simp [hnt, Try.ntmps3, Try.results3, anW33] at hc); (first | (exfalso; omega) | skip))
        | (refine callP_mk (hsb) ?_; try simp [hnt, Try.ntmps3, Try.results3, anW33])
        | (refine callP_wk (hsb) ?_ ?_; (· (simp; done)); try simp [hnt, Try.ntmps3, Try.results3, anW33])
        | (refine ⟨?_, ?_⟩; · omega)
        | apply_assumption -exfalso -symm
        | (exfalso; omega)))

theorem parts3_pure (c : Cnf) : DPure Try.prog 3 [.agg (dCnf c)] (.bool true) := by
  cases h : cnfWeak c
  · exact parts3_no c h
  · exact parts3_yes c h
end Go.Proofs.Ytihkcegelghcpaa
