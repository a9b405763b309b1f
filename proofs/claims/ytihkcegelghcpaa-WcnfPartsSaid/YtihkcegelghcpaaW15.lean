/- A part of a proof: walks over the functions that it names; their contracts hold for every argument. -/
import Derived.Test.YtihkcegelghcpaaW17
import Derived.Test.YtihkcegelghcpaaW44
import Derived.Test.YtihkcegelghcpaaW14
set_option linter.unusedSimpArgs false
set_option linter.unusedVariables false
namespace Go.Proofs.Ytihkcegelghcpaa
open Go Go.Dm
attribute [local irreducible] DW callP
set_option maxRecDepth 100000

def epsOf (l : List Prod) : List Int := (l.filter (fun p => formOf p.body == 1)).map (·.head)
def letOf (l : List Prod) : List Prod := l.filter (fun p => formOf p.body == 2)
def restOf (l : List Prod) : List Prod := l.filter (fun p => !(formOf p.body == 1) && !(formOf p.body == 2))
def dInt (n : Int) : List DVal := [.int .i64 n]
@[simp] theorem mx_dInt (n : Int) : mxL (dInt n) = 0 := by simp [dInt, mxL, mx]
@[simp] theorem mx_dInts (l : List Int) : mxR (l.map dInt) = 0 := mxR0 _ mx_dInt l

def anW1515 : Ann := ⟨[], [⟨7, [9], [], []⟩, ⟨8, [10], [], [0, 1, 2, 3, 4, 5]⟩]⟩
set_option maxHeartbeats 4000000 in
theorem parts_no (c : Cnf) (h : cnfWeak c = false) : DPure Try.prog 15 [.agg (dCnf c)] (.tup [.nilsl, .nilsl, .nilsl]) := by
  refine DPure_introF [] (fn := Try.f15) Try.func15 rfl Try.call15 (by simp [Try.ntmps15]) (by simp [mx]) ?_
  intro hwf B hnt
  simp only [argS]
  have hi := is_pure c
  simp only [dCnf] at hi
  rw [h] at hi
  (repeat (first
      | (refine DW_seq fun K hK => ?_)
      | (refine DW_r anW1515 Try.mixed (by kernel_rfl) ?_; simp [hnt, Try.ntmps15, Try.results15, anW1515, dCnf]; try simp (disch := omega) only [wrap64_in])
      | (refine DW_block ?_)
      | (focus (refine DW_if ?_ ?_ ?_; (· (simp [hnt, Try.ntmps15, Try.results15, anW1515, dCnf]; done)); (try (rotate_left; (· (intro hc; (try simp [hnt, Try.ntmps15, Try.results15, anW1515, dCnf] at hc); done))))))
      | (refine DW_ret ?_; simp [hnt, Try.ntmps15, Try.results15, anW1515, dCnf])
      | (refine DW_exit ?_; simp [hnt, Try.ntmps15, Try.results15, anW1515, dCnf])
      | (refine DW_skip ?_; simp [hnt, Try.ntmps15, Try.results15, anW1515, dCnf])
      | (intro hc; (try simp [hnt, Try.ntmps15, Try.results15, anW1515, dCnf] at hc); done)
      | (intro hc; (try simp [hnt, Try.ntmps15, Try.results15, anW1515, dCnf] at hc); (first | (exfalso; omega) | skip))
      | (refine callP_mk (hi) ?_; try simp [hnt, Try.ntmps15, Try.results15, anW1515, dCnf])
      | (refine callP_wk (hi) ?_ ?_; (· (simp; done)); try simp [hnt, Try.ntmps15, Try.results15, anW1515, dCnf])
      | (refine ⟨?_, ?_⟩; · omega)
      | apply_assumption -exfalso -symm
      | (exfalso; omega)))

set_option maxHeartbeats 4000000 in
theorem parts_pure (c : Cnf) (h : cnfWeak c = true) : DPure Try.prog 15 [.agg (dCnf c)] (.tup [.sl 1 8 ((epsOf c.prods).map dInt), dProds (letOf c.prods), dProds (restOf c.prods)]) := by
  refine DPure_introF [5, 6, 7] (fn := Try.f15) Try.func15 rfl Try.call15 (by simp [Try.ntmps15]) (by simp [mx]) ?_
  intro hwf B hnt
  have hw : wCnf c := w_cnf (by simpa [wfL, wfD] using hwf.1)
  obtain ⟨hw1, hw2, hw3, hw4⟩ := hw
  clear hwf
  simp only [argS]
  have hi := is_pure c
  simp only [dCnf] at hi
  rw [h] at hi
  (repeat (first
      | (refine DW_seq fun K hK => ?_)
      | (refine DW_r anW1515 Try.mixed (by kernel_rfl) ?_; simp [hnt, Try.ntmps15, Try.results15, anW1515, dCnf]; try simp (disch := omega) only [wrap64_in])
      | (refine DW_block ?_)
      | (focus (refine DW_if ?_ ?_ ?_; (· (simp [hnt, Try.ntmps15, Try.results15, anW1515, dCnf]; done)); (try (rotate_left; (· (intro hc; (try simp [hnt, Try.ntmps15, Try.results15, anW1515, dCnf] at hc); done))))))
      | (refine DW_ret ?_; simp [hnt, Try.ntmps15, Try.results15, anW1515, dCnf])
      | (refine DW_exit ?_; simp [hnt, Try.ntmps15, Try.results15, anW1515, dCnf])
      | (refine DW_skip ?_; simp [hnt, Try.ntmps15, Try.results15, anW1515, dCnf])
      | (intro hc; (try simp [hnt, Try.ntmps15, Try.results15, anW1515, dCnf] at hc); done)
      | (intro hc; (try simp [hnt, Try.ntmps15, Try.results15, anW1515, dCnf] at hc); (first | (exfalso; omega) | skip))
      | (refine callP_mk (hi) ?_; try simp [hnt, Try.ntmps15, Try.results15, anW1515, dCnf])
      | (refine callP_wk (hi) ?_ ?_; (· (simp; done)); try simp [hnt, Try.ntmps15, Try.results15, anW1515, dCnf])
      | (refine ⟨?_, ?_⟩; · omega)
      | apply_assumption -exfalso -symm
      | (exfalso; omega)))
  refine DW_adoptS 5 5 3 1 8 (by simp [hnt, Try.ntmps15]) (fun n5 => ?_)
  refine DW_adoptS 6 6 33 2 32 (by simp [hnt, Try.ntmps15]) (fun n6 => ?_)
  refine DW_adoptS 7 7 33 2 32 (by simp [hnt, Try.ntmps15]) (fun n7 => ?_)
  refine DW_loop (X := {k : Nat // k ≤ c.prods.length}) (fun k => ⟨[(15, dProds c.prods), (16, .int .i64 c.prods.length), (17, .int .i64 k.1), (5, .osl 5 1), (6, .osl 6 1), (7, .osl 7 1)], [⟨5, 1, .row 3 1 8 ((epsOf (c.prods.take k.1)).map dInt)⟩, ⟨6, 1, .row 33 2 32 ((letOf (c.prods.take k.1)).map dProd)⟩, ⟨7, 1, .row 33 2 32 ((restOf (c.prods.take k.1)).map dProd)⟩]⟩) (fun k => c.prods.length - k.1) ⟨0, by simp⟩ (Sub.lit (by simp [epsOf, letOf, restOf])) ?_
  rintro ⟨k, hk⟩
  by_cases hlt : k < c.prods.length
  rotate_left
  · have hke : k = c.prods.length := by omega
    subst hke
    rw [List.take_length]
    (repeat (first
        | (refine DW_seq fun K hK => ?_)
        | (refine DW_r anW1515 Try.mixed (by kernel_rfl) ?_; simp [hnt, Try.ntmps15, Try.results15, anW1515, dCnf]; try simp (disch := omega) only [wrap64_in])
        | (refine DW_block ?_)
        | (focus (refine DW_if ?_ ?_ ?_; (· (simp [hnt, Try.ntmps15, Try.results15, anW1515, dCnf]; done)); (try (rotate_left; (· (intro hc; (try simp [hnt, Try.ntmps15, Try.results15, anW1515, dCnf] at hc); done))))))
        | (refine DW_ret ?_; simp [hnt, Try.ntmps15, Try.results15, anW1515, dCnf])
        | (refine DW_exit ?_; simp [hnt, Try.ntmps15, Try.results15, anW1515, dCnf])
        | (refine DW_skip ?_; simp [hnt, Try.ntmps15, Try.results15, anW1515, dCnf])
        | (intro hc; (try simp [hnt, Try.ntmps15, Try.results15, anW1515, dCnf] at hc); done)
        | (intro hc; (try simp [hnt, Try.ntmps15, Try.results15, anW1515, dCnf] at hc); (first | (exfalso; omega) | skip))
        | (refine callP_mk (hi) ?_; try simp [hnt, Try.ntmps15, Try.results15, anW1515, dCnf])
        | (refine callP_wk (hi) ?_ ?_; (· (simp; done)); try simp [hnt, Try.ntmps15, Try.results15, anW1515, dCnf])
        | (refine ⟨?_, ?_⟩; · omega)
        | apply_assumption -exfalso -symm
        | (exfalso; omega)))
  obtain ⟨p, hp, hp', hpm⟩ := at_lt' hlt
  obtain ⟨hw5, hw6, hw7, hw8⟩ := hw4 p hpm
  have htk : c.prods.take (k + 1) = c.prods.take k ++ [p] := by rw [List.take_succ_eq_append_getElem hlt, hp']
  have e1 : (epsOf (c.prods.take k)).length ≤ k := by
    refine Nat.le_trans ?_ (List.length_take_le k c.prods)
    simp only [epsOf, List.length_map]; exact List.length_filter_le ..
  have e2 : (letOf (c.prods.take k)).length ≤ k := Nat.le_trans (List.length_filter_le ..) (List.length_take_le k c.prods)
  have e3 : (restOf (c.prods.take k)).length ≤ k := Nat.le_trans (List.length_filter_le ..) (List.length_take_le k c.prods)
  obtain ⟨es, hes⟩ : ∃ es, es = epsOf (c.prods.take k) := ⟨_, rfl⟩
  obtain ⟨ls, hls⟩ : ∃ es, es = letOf (c.prods.take k) := ⟨_, rfl⟩
  obtain ⟨rs, hrs⟩ : ∃ es, es = restOf (c.prods.take k) := ⟨_, rfl⟩
  have f1 : epsOf (c.prods.take (k + 1)) = es ++ (if formOf p.body = 1 then [p.head] else []) := by
    rw [htk, hes]; simp only [epsOf, List.filter_append, List.map_append]; congr 1
    by_cases hf : formOf p.body = 1 <;> simp [hf]
  have f2 : letOf (c.prods.take (k + 1)) = ls ++ (if formOf p.body = 2 then [p] else []) := by
    rw [htk, hls]; simp only [letOf, List.filter_append]; congr 1
    by_cases hf : formOf p.body = 2 <;> simp [hf]
  have f3 : restOf (c.prods.take (k + 1)) = rs ++ (if formOf p.body = 1 then [] else if formOf p.body = 2 then [] else [p]) := by
    rw [htk, hrs]; simp only [restOf, List.filter_append]; congr 1
    by_cases hf : formOf p.body = 1 <;> by_cases hf' : formOf p.body = 2 <;> simp [hf, hf']
  simp only [← hes, ← hls, ← hrs] at e1 e2 e3 ⊢
  have ho := of_pure p.body
  have hcl := clone_pure p.body
  by_cases hf1 : formOf p.body = 1
  · rw [hf1] at ho
    (repeat (first
        | (refine DW_seq fun K hK => ?_)
        | (refine DW_r anW1515 Try.mixed (by kernel_rfl) ?_; simp [hnt, Try.ntmps15, Try.results15, anW1515, dCnf, dProd, hlt, hp']; try simp (disch := omega) only [wrap64_in])
        | (refine DW_block ?_)
        | (focus (refine DW_if ?_ ?_ ?_; (· (simp [hnt, Try.ntmps15, Try.results15, anW1515, dCnf, dProd, hlt, hp']; done)); (try (rotate_left; (· (intro hc; (try simp [hnt, Try.ntmps15, Try.results15, anW1515, dCnf, dProd, hlt, hp'] at hc); done))))))
        | (refine DW_ret ?_; simp [hnt, Try.ntmps15, Try.results15, anW1515, dCnf, dProd, hlt, hp'])
        | (refine DW_exit ?_; simp [hnt, Try.ntmps15, Try.results15, anW1515, dCnf, dProd, hlt, hp'])
        | (refine DW_skip ?_; simp [hnt, Try.ntmps15, Try.results15, anW1515, dCnf, dProd, hlt, hp'])
        | (intro hc; (try simp [hnt, Try.ntmps15, Try.results15, anW1515, dCnf, dProd, hlt, hp'] at hc); done)
        | (intro hc; (try simp [hnt, Try.ntmps15, Try.results15, anW1515, dCnf, dProd, hlt, hp'] at hc); (first | (exfalso; omega) | skip))
        | (refine callP_mk (ho) ?_; try simp [hnt, Try.ntmps15, Try.results15, anW1515, dCnf, dProd, hlt, hp'])
        | (refine callP_wk (ho) ?_ ?_; (· (simp; done)); try simp [hnt, Try.ntmps15, Try.results15, anW1515, dCnf, dProd, hlt, hp'])
        | (refine callP_mk (hcl) ?_; try simp [hnt, Try.ntmps15, Try.results15, anW1515, dCnf, dProd, hlt, hp'])
        | (refine callP_wk (hcl) ?_ ?_; (· (simp; done)); try simp [hnt, Try.ntmps15, Try.results15, anW1515, dCnf, dProd, hlt, hp'])
        | (refine ⟨?_, ?_⟩; · omega)
        | apply_assumption -exfalso -symm
        | (exfalso; omega)))
    refine Again.mk ⟨k + 1, by omega⟩ (Sub.lit ?_) (by simp; omega)
    · simp [f1, f2, f3, hf1, dInt]
    (repeat (first
        | (refine DW_seq fun K hK => ?_)
        | (refine DW_r anW1515 Try.mixed (by kernel_rfl) ?_; simp [hnt, Try.ntmps15, Try.results15, anW1515]; try simp (disch := omega) only [wrap64_in])
        | (refine DW_block ?_)
        | (focus (refine DW_if ?_ ?_ ?_; (· (simp [hnt, Try.ntmps15, Try.results15, anW1515]; done)); (try (rotate_left; (· (intro hc; (try simp [hnt, Try.ntmps15, Try.results15, anW1515] at hc); done))))))
        | (refine DW_ret ?_; simp [hnt, Try.ntmps15, Try.results15, anW1515])
        | (refine DW_exit ?_; simp [hnt, Try.ntmps15, Try.results15, anW1515])
        | (refine DW_skip ?_; simp [hnt, Try.ntmps15, Try.results15, anW1515])
        | (intro hc; (try simp [hnt, Try.ntmps15, Try.results15, anW1515] at hc); done)
        | (intro hc; (try simp [hnt, Try.ntmps15, Try.results15, anW1515] at hc); (first | (exfalso; omega) | skip))
        | (refine callP_mk (ho) ?_; try simp [hnt, Try.ntmps15, Try.results15, anW1515])
        | (refine callP_wk (ho) ?_ ?_; (· (simp; done)); try simp [hnt, Try.ntmps15, Try.results15, anW1515])
        | (refine callP_mk (hcl) ?_; try simp [hnt, Try.ntmps15, Try.results15, anW1515])
        | (refine callP_wk (hcl) ?_ ?_; (· (simp; done)); try simp [hnt, Try.ntmps15, Try.results15, anW1515])
        | (refine ⟨?_, ?_⟩; · omega)
        | apply_assumption -exfalso -symm
        | (exfalso; omega)))
  by_cases hf2 : formOf p.body = 2
  · rw [hf2] at ho
    (repeat (first
        | (refine DW_seq fun K hK => ?_)
        | (refine DW_r anW1515 Try.mixed (by kernel_rfl) ?_; simp [hnt, Try.ntmps15, Try.results15, anW1515, dCnf, dProd, hlt, hp']; try simp (disch := omega) only [wrap64_in])
        | (refine DW_block ?_)
        | (focus (refine DW_if ?_ ?_ ?_; (· (simp [hnt, Try.ntmps15, Try.results15, anW1515, dCnf, dProd, hlt, hp']; done)); (try (rotate_left; (· (intro hc; (try simp [hnt, Try.ntmps15, Try.results15, anW1515, dCnf, dProd, hlt, hp'] at hc); done))))))
        | (refine DW_ret ?_; simp [hnt, Try.ntmps15, Try.results15, anW1515, dCnf, dProd, hlt, hp'])
        | (refine DW_exit ?_; simp [hnt, Try.ntmps15, Try.results15, anW1515, dCnf, dProd, hlt, hp'])
        | (refine DW_skip ?_; simp [hnt, Try.ntmps15, Try.results15, anW1515, dCnf, dProd, hlt, hp'])
        | (intro hc; (try simp [hnt, Try.ntmps15, Try.results15, anW1515, dCnf, dProd, hlt, hp'] at hc); done)
        | (intro hc; (try simp [hnt, Try.ntmps15, Try.results15, anW1515, dCnf, dProd, hlt, hp'] at hc); (first | (exfalso; omega) | skip))
        | (refine callP_mk (ho) ?_; try simp [hnt, Try.ntmps15, Try.results15, anW1515, dCnf, dProd, hlt, hp'])
        | (refine callP_wk (ho) ?_ ?_; (· (simp; done)); try simp [hnt, Try.ntmps15, Try.results15, anW1515, dCnf, dProd, hlt, hp'])
        | (refine callP_mk (hcl) ?_; try simp [hnt, Try.ntmps15, Try.results15, anW1515, dCnf, dProd, hlt, hp'])
        | (refine callP_wk (hcl) ?_ ?_; (· (simp; done)); try simp [hnt, Try.ntmps15, Try.results15, anW1515, dCnf, dProd, hlt, hp'])
        | (refine ⟨?_, ?_⟩; · omega)
        | apply_assumption -exfalso -symm
        | (exfalso; omega)))
    refine Again.mk ⟨k + 1, by omega⟩ (Sub.lit ?_) (by simp; omega)
    · simp [f1, f2, f3, hf2, dProd]
    (repeat (first
        | (refine DW_seq fun K hK => ?_)
        | (refine DW_r anW1515 Try.mixed (by kernel_rfl) ?_; simp [hnt, Try.ntmps15, Try.results15, anW1515]; try simp (disch := omega) only [wrap64_in])
        | (refine DW_block ?_)
        | (focus (refine DW_if ?_ ?_ ?_; (· (simp [hnt, Try.ntmps15, Try.results15, anW1515]; done)); (try (rotate_left; (· (intro hc; (try simp [hnt, Try.ntmps15, Try.results15, anW1515] at hc); done))))))
        | (refine DW_ret ?_; simp [hnt, Try.ntmps15, Try.results15, anW1515])
        | (refine DW_exit ?_; simp [hnt, Try.ntmps15, Try.results15, anW1515])
        | (refine DW_skip ?_; simp [hnt, Try.ntmps15, Try.results15, anW1515])
        | (intro hc; (try simp [hnt, Try.ntmps15, Try.results15, anW1515] at hc); done)
        | (intro hc; (try simp [hnt, Try.ntmps15, Try.results15, anW1515] at hc); (first | (exfalso; omega) | skip))
        | (refine callP_mk (ho) ?_; try simp [hnt, Try.ntmps15, Try.results15, anW1515])
        | (refine callP_wk (ho) ?_ ?_; (· (simp; done)); try simp [hnt, Try.ntmps15, Try.results15, anW1515])
        | (refine callP_mk (hcl) ?_; try simp [hnt, Try.ntmps15, Try.results15, anW1515])
        | (refine callP_wk (hcl) ?_ ?_; (· (simp; done)); try simp [hnt, Try.ntmps15, Try.results15, anW1515])
        | (refine ⟨?_, ?_⟩; · omega)
        | apply_assumption -exfalso -symm
        | (exfalso; omega)))
  · (repeat (first
      | (refine DW_seq fun K hK => ?_)
      | (refine DW_r anW1515 Try.mixed (by kernel_rfl) ?_; simp [hnt, Try.ntmps15, Try.results15, anW1515, dCnf, dProd, hlt, hp', hf1, hf2]; try simp (disch := omega) only [wrap64_in])
      | (refine DW_block ?_)
      | (focus (refine DW_if ?_ ?_ ?_; (· (simp [hnt, Try.ntmps15, Try.results15, anW1515, dCnf, dProd, hlt, hp', hf1, hf2]; done)); (try (rotate_left; (· (intro hc; (try simp [hnt, Try.ntmps15, Try.results15, anW1515, dCnf, dProd, hlt, hp', hf1, hf2] at hc); done))))))
      | (refine DW_ret ?_; simp [hnt, Try.ntmps15, Try.results15, anW1515, dCnf, dProd, hlt, hp', hf1, hf2])
      | (refine DW_exit ?_; simp [hnt, Try.ntmps15, Try.results15, anW1515, dCnf, dProd, hlt, hp', hf1, hf2])
      | (refine DW_skip ?_; simp [hnt, Try.ntmps15, Try.results15, anW1515, dCnf, dProd, hlt, hp', hf1, hf2])
      | (intro hc; (try simp [hnt, Try.ntmps15, Try.results15, anW1515, dCnf, dProd, hlt, hp', hf1, hf2] at hc); done)
      | (intro hc; (try simp [hnt, Try.ntmps15, Try.results15, anW1515, dCnf, dProd, hlt, hp', hf1, hf2] at hc); (first | (exfalso; omega) | skip))
      | (refine callP_mk (ho) ?_; try simp [hnt, Try.ntmps15, Try.results15, anW1515, dCnf, dProd, hlt, hp', hf1, hf2])
      | (refine callP_wk (ho) ?_ ?_; (· (simp; done)); try simp [hnt, Try.ntmps15, Try.results15, anW1515, dCnf, dProd, hlt, hp', hf1, hf2])
      | (refine callP_mk (hcl) ?_; try simp [hnt, Try.ntmps15, Try.results15, anW1515, dCnf, dProd, hlt, hp', hf1, hf2])
      | (refine callP_wk (hcl) ?_ ?_; (· (simp; done)); try simp [hnt, Try.ntmps15, Try.results15, anW1515, dCnf, dProd, hlt, hp', hf1, hf2])
      | (refine ⟨?_, ?_⟩; · omega)
      | apply_assumption -exfalso -symm
      | (exfalso; omega)))
    refine Again.mk ⟨k + 1, by omega⟩ (Sub.lit ?_) (by simp; omega)
    · simp [f1, f2, f3, hf1, hf2, dProd]
    (repeat (first
        | (refine DW_seq fun K hK => ?_)
        | (refine DW_r anW1515 Try.mixed (by kernel_rfl) ?_; simp [hnt, Try.ntmps15, Try.results15, anW1515]; try simp (disch := omega) only [wrap64_in])
        | (refine DW_block ?_)
        | (focus (refine DW_if ?_ ?_ ?_; (· (simp [hnt, Try.ntmps15, Try.results15, anW1515]; done)); (try (rotate_left; (· (intro hc; (try simp [hnt, Try.ntmps15, Try.results15, anW1515] at hc); done))))))
        | (refine DW_ret ?_; simp [hnt, Try.ntmps15, Try.results15, anW1515])
        | (refine DW_exit ?_; simp [hnt, Try.ntmps15, Try.results15, anW1515])
        | (refine DW_skip ?_; simp [hnt, Try.ntmps15, Try.results15, anW1515])
        | (intro hc; (try simp [hnt, Try.ntmps15, Try.results15, anW1515] at hc); done)
        | (intro hc; (try simp [hnt, Try.ntmps15, Try.results15, anW1515] at hc); (first | (exfalso; omega) | skip))
        | (refine callP_mk (ho) ?_; try simp [hnt, Try.ntmps15, Try.results15, anW1515])
        | (refine callP_wk (ho) ?_ ?_; (· (simp; done)); try simp [hnt, Try.ntmps15, Try.results15, anW1515])
        | (refine callP_mk (hcl) ?_; try simp [hnt, Try.ntmps15, Try.results15, anW1515])
        | (refine callP_wk (hcl) ?_ ?_; (· (simp; done)); try simp [hnt, Try.ntmps15, Try.results15, anW1515])
        | (refine ⟨?_, ?_⟩; · omega)
        | apply_assumption -exfalso -symm
        | (exfalso; omega)))
end Go.Proofs.Ytihkcegelghcpaa
