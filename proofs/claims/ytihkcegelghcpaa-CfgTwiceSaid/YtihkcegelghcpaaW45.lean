/- A part of a proof: walks over the functions that it names; their contracts hold for every argument. -/
import Derived.Test.YtihkcegelghcpaaW13
set_option linter.unusedSimpArgs false
set_option linter.unusedVariables false
namespace Go.Proofs.Ytihkcegelghcpaa
open Go Go.Dm
attribute [local irreducible] DW callP callS
set_option maxRecDepth 100000

def anW4545 : Ann := ⟨[], []⟩
theorem weak_pure (l : List Sym) : DPure Try.prog 45 [dSyms l] (.bool (!(formOf l == 0))) := by
  refine DPure_introF [] (fn := Try.f45) Try.func45 rfl Try.call45 (by simp [Try.ntmps45]) (by simp [mx]) ?_
  intro hwf B hnt
  simp only [argS]
  match l with
  | [] => (repeat (first
      | (refine DW_seq fun K hK => ?_)
      | (refine DW_r anW4545 Try.mixed (by kernel_rfl) ?_; simp [hnt, Try.ntmps45, Try.results45, anW4545, dSym, formOf]; try simp (disch := omega) only [wrap64_in])
      | (refine DW_block ?_)
      | (focus (refine DW_if ?_ ?_ ?_; (· (simp [hnt, Try.ntmps45, Try.results45, anW4545, dSym, formOf]; done)); (try (rotate_left; (· (intro hc; (try simp [hnt, Try.ntmps45, Try.results45, anW4545, dSym, formOf] at hc); done))))))
      | (refine DW_ret ?_; simp [hnt, Try.ntmps45, Try.results45, anW4545, dSym, formOf])
      | (refine DW_exit ?_; simp [hnt, Try.ntmps45, Try.results45, anW4545, dSym, formOf])
      | (refine DW_skip ?_; simp [hnt, Try.ntmps45, Try.results45, anW4545, dSym, formOf])
      | (intro hc; (try simp [hnt, Try.ntmps45, Try.results45, anW4545, dSym, formOf] at hc); done)
      | (intro hc; (try simp [hnt, Try.ntmps45, Try.results45, anW4545, dSym, formOf] at hc); (first | (exfalso; omega) | skip))
      | (refine ⟨?_, ?_⟩; · omega)
      | omega
      | apply_assumption -exfalso -symm
      | (exfalso; omega)))
  | [s] => cases hl : s.label <;> (repeat (first
      | (refine DW_seq fun K hK => ?_)
      | (refine DW_r anW4545 Try.mixed (by kernel_rfl) ?_; simp [hnt, Try.ntmps45, Try.results45, anW4545, dSym, formOf, hl]; try simp (disch := omega) only [wrap64_in])
      | (refine DW_block ?_)
      | (focus (refine DW_if ?_ ?_ ?_; (· (simp [hnt, Try.ntmps45, Try.results45, anW4545, dSym, formOf, hl]; done)); (try (rotate_left; (· (intro hc; (try simp [hnt, Try.ntmps45, Try.results45, anW4545, dSym, formOf, hl] at hc); done))))))
      | (refine DW_ret ?_; simp [hnt, Try.ntmps45, Try.results45, anW4545, dSym, formOf, hl])
      | (refine DW_exit ?_; simp [hnt, Try.ntmps45, Try.results45, anW4545, dSym, formOf, hl])
      | (refine DW_skip ?_; simp [hnt, Try.ntmps45, Try.results45, anW4545, dSym, formOf, hl])
      | (intro hc; (try simp [hnt, Try.ntmps45, Try.results45, anW4545, dSym, formOf, hl] at hc); done)
      | (intro hc; (try simp [hnt, Try.ntmps45, Try.results45, anW4545, dSym, formOf, hl] at hc); (first | (exfalso; omega) | skip))
      | (refine ⟨?_, ?_⟩; · omega)
      | omega
      | apply_assumption -exfalso -symm
      | (exfalso; omega)))
  | [s, t] => cases hl : s.label <;> cases ht : t.label <;> (repeat (first
      | (refine DW_seq fun K hK => ?_)
      | (refine DW_r anW4545 Try.mixed (by kernel_rfl) ?_; simp [hnt, Try.ntmps45, Try.results45, anW4545, dSym, formOf, hl, ht]; try simp (disch := omega) only [wrap64_in])
      | (refine DW_block ?_)
      | (focus (refine DW_if ?_ ?_ ?_; (· (simp [hnt, Try.ntmps45, Try.results45, anW4545, dSym, formOf, hl, ht]; done)); (try (rotate_left; (· (intro hc; (try simp [hnt, Try.ntmps45, Try.results45, anW4545, dSym, formOf, hl, ht] at hc); done))))))
      | (refine DW_ret ?_; simp [hnt, Try.ntmps45, Try.results45, anW4545, dSym, formOf, hl, ht])
      | (refine DW_exit ?_; simp [hnt, Try.ntmps45, Try.results45, anW4545, dSym, formOf, hl, ht])
      | (refine DW_skip ?_; simp [hnt, Try.ntmps45, Try.results45, anW4545, dSym, formOf, hl, ht])
      | (intro hc; (try simp [hnt, Try.ntmps45, Try.results45, anW4545, dSym, formOf, hl, ht] at hc); done)
      | (intro hc; (try simp [hnt, Try.ntmps45, Try.results45, anW4545, dSym, formOf, hl, ht] at hc); (first | (exfalso; omega) | skip))
      | (refine ⟨?_, ?_⟩; · omega)
      | omega
      | apply_assumption -exfalso -symm
      | (exfalso; omega)))
  | s :: t :: u :: r =>
    have hlen : ¬ ((r.length : Int) + 1 + 1 + 1 = 0) ∧ ¬ ((r.length : Int) + 1 + 1 + 1 = 1) ∧ ¬ ((r.length : Int) + 1 + 1 + 1 = 2) := by omega
    obtain ⟨g1, g2, g3⟩ := hlen
    (repeat (first
        | (refine DW_seq fun K hK => ?_)
        | (refine DW_r anW4545 Try.mixed (by kernel_rfl) ?_; simp [hnt, Try.ntmps45, Try.results45, anW4545, dSym, formOf, g1, g2, g3]; try simp (disch := omega) only [wrap64_in])
        | (refine DW_block ?_)
        | (focus (refine DW_if ?_ ?_ ?_; (· (simp [hnt, Try.ntmps45, Try.results45, anW4545, dSym, formOf, g1, g2, g3]; done)); (try (rotate_left; (· (intro hc; (try simp [hnt, Try.ntmps45, Try.results45, anW4545, dSym, formOf, g1, g2, g3] at hc); done))))))
        | (refine DW_ret ?_; simp [hnt, Try.ntmps45, Try.results45, anW4545, dSym, formOf, g1, g2, g3])
        | (refine DW_exit ?_; simp [hnt, Try.ntmps45, Try.results45, anW4545, dSym, formOf, g1, g2, g3])
        | (refine DW_skip ?_; simp [hnt, Try.ntmps45, Try.results45, anW4545, dSym, formOf, g1, g2, g3])
        | (intro hc; (try simp [hnt, Try.ntmps45, Try.results45, anW4545, dSym, formOf, g1, g2, g3] at hc); done)
        | (intro hc; (try simp [hnt, Try.ntmps45, Try.results45, anW4545, dSym, formOf, g1, g2, g3] at hc); (first | (exfalso; omega) | skip))
        | (refine ⟨?_, ?_⟩; · omega)
        | omega
        | apply_assumption -exfalso -symm
        | (exfalso; omega)))

def anW4528 : Ann := ⟨[], [⟨6, [4], [], []⟩, ⟨12, [6], [], []⟩]⟩
set_option maxHeartbeats 4000000 in
theorem rcheck_pure (c : Cnf) : DPure Try.prog 28 [.agg (dCnf c)] (.int .i64 (if cnfOK c then 0 else 220)) := by
  refine DPure_introF [] (fn := Try.f28) Try.func28 rfl Try.call28 (by simp [Try.ntmps28]) (by simp [mx]) ?_
  intro hwf B hnt
  have hw : wCnf c := w_cnf (by simpa [wfL, wfD] using hwf.1)
  obtain ⟨hw1, hw2, hw3, hw4⟩ := hw
  clear hwf hw1
  simp only [argS]
  by_cases h1 : 1 ≤ c.nts
  rotate_left
  · have h1' : c.nts < 1 := by omega
    have hno : cnfOK c = false := by simp [cnfOK, h1]
    (repeat (first
        | (refine DW_seq fun K hK => ?_)
        | (refine DW_r anW4528 Try.mixed (by kernel_rfl) ?_; simp [hnt, Try.ntmps28, Try.results28, anW4528, dCnf, h1', hno]; try simp (disch := omega) only [wrap64_in])
        | (refine DW_block ?_)
        | (focus (refine DW_if ?_ ?_ ?_; (· (simp [hnt, Try.ntmps28, Try.results28, anW4528, dCnf, h1', hno]; done)); (try (rotate_left; (· (intro hc; (try simp [hnt, Try.ntmps28, Try.results28, anW4528, dCnf, h1', hno] at hc); done))))))
        | (refine DW_ret ?_; simp [hnt, Try.ntmps28, Try.results28, anW4528, dCnf, h1', hno])
        | (refine DW_exit ?_; simp [hnt, Try.ntmps28, Try.results28, anW4528, dCnf, h1', hno])
        | (refine DW_skip ?_; simp [hnt, Try.ntmps28, Try.results28, anW4528, dCnf, h1', hno])
        | (intro hc; (try simp [hnt, Try.ntmps28, Try.results28, anW4528, dCnf, h1', hno] at hc); done)
        | (intro hc; (try simp [hnt, Try.ntmps28, Try.results28, anW4528, dCnf, h1', hno] at hc); (first | (exfalso; omega) | skip))
        | (refine ⟨?_, ?_⟩; · omega)
        | omega
        | apply_assumption -exfalso -symm
        | (exfalso; omega)))
  by_cases h2 : c.nts ≤ 1024
  rotate_left
  · have h2' : 1024 < c.nts := by omega
    have h1' : ¬ c.nts < 1 := by omega
    have hno : cnfOK c = false := by simp [cnfOK, h2]
    (repeat (first
        | (refine DW_seq fun K hK => ?_)
        | (refine DW_r anW4528 Try.mixed (by kernel_rfl) ?_; simp [hnt, Try.ntmps28, Try.results28, anW4528, dCnf, h1', h2', hno]; try simp (disch := omega) only [wrap64_in])
        | (refine DW_block ?_)
        | (focus (refine DW_if ?_ ?_ ?_; (· (simp [hnt, Try.ntmps28, Try.results28, anW4528, dCnf, h1', h2', hno]; done)); (try (rotate_left; (· (intro hc; (try simp [hnt, Try.ntmps28, Try.results28, anW4528, dCnf, h1', h2', hno] at hc); done))))))
        | (refine DW_ret ?_; simp [hnt, Try.ntmps28, Try.results28, anW4528, dCnf, h1', h2', hno])
        | (refine DW_exit ?_; simp [hnt, Try.ntmps28, Try.results28, anW4528, dCnf, h1', h2', hno])
        | (refine DW_skip ?_; simp [hnt, Try.ntmps28, Try.results28, anW4528, dCnf, h1', h2', hno])
        | (intro hc; (try simp [hnt, Try.ntmps28, Try.results28, anW4528, dCnf, h1', h2', hno] at hc); done)
        | (intro hc; (try simp [hnt, Try.ntmps28, Try.results28, anW4528, dCnf, h1', h2', hno] at hc); (first | (exfalso; omega) | skip))
        | (refine ⟨?_, ?_⟩; · omega)
        | omega
        | apply_assumption -exfalso -symm
        | (exfalso; omega)))
  have h1' : ¬ c.nts < 1 := by omega
  have h2' : ¬ 1024 < c.nts := by omega
  have hok : cnfOK c = c.prods.all (prodOK c) := by simp [cnfOK, h1, h2]
  (repeat (first
      | (refine DW_seq fun K hK => ?_)
      | (refine DW_r anW4528 Try.mixed (by kernel_rfl) ?_; simp [hnt, Try.ntmps28, Try.results28, anW4528, dCnf, h1', h2']; try simp (disch := omega) only [wrap64_in])
      | (refine DW_block ?_)
      | (focus (refine DW_if ?_ ?_ ?_; (· (simp [hnt, Try.ntmps28, Try.results28, anW4528, dCnf, h1', h2']; done)); (try (rotate_left; (· (intro hc; (try simp [hnt, Try.ntmps28, Try.results28, anW4528, dCnf, h1', h2'] at hc); done))))))
      | (refine DW_ret ?_; simp [hnt, Try.ntmps28, Try.results28, anW4528, dCnf, h1', h2'])
      | (refine DW_exit ?_; simp [hnt, Try.ntmps28, Try.results28, anW4528, dCnf, h1', h2'])
      | (refine DW_skip ?_; simp [hnt, Try.ntmps28, Try.results28, anW4528, dCnf, h1', h2'])
      | (intro hc; (try simp [hnt, Try.ntmps28, Try.results28, anW4528, dCnf, h1', h2'] at hc); done)
      | (intro hc; (try simp [hnt, Try.ntmps28, Try.results28, anW4528, dCnf, h1', h2'] at hc); (first | (exfalso; omega) | skip))
      | (refine ⟨?_, ?_⟩; · omega)
      | omega
      | apply_assumption -exfalso -symm
      | (exfalso; omega)))
  refine DW_loop (X := {k : Nat // k ≤ c.prods.length ∧ (c.prods.take k).all (prodOK c) = true}) (fun k => ⟨[(1, .ref [.int .i64 c.nts, dProds c.prods]), (3, .int .i64 k.1)], []⟩) (fun k => c.prods.length - k.1) ⟨0, by simp⟩ (Sub.lit (by simp)) ?_
  rintro ⟨k, hk, hkk⟩
  by_cases hlt : k < c.prods.length
  rotate_left
  · have hke : k = c.prods.length := by omega
    subst hke
    rw [List.take_length] at hkk
    rw [hkk] at hok
    (repeat (first
        | (refine DW_seq fun K hK => ?_)
        | (refine DW_r anW4528 Try.mixed (by kernel_rfl) ?_; simp [hnt, Try.ntmps28, Try.results28, anW4528, dCnf, hok]; try simp (disch := omega) only [wrap64_in])
        | (refine DW_block ?_)
        | (focus (refine DW_if ?_ ?_ ?_; (· (simp [hnt, Try.ntmps28, Try.results28, anW4528, dCnf, hok]; done)); (try (rotate_left; (· (intro hc; (try simp [hnt, Try.ntmps28, Try.results28, anW4528, dCnf, hok] at hc); done))))))
        | (refine DW_ret ?_; simp [hnt, Try.ntmps28, Try.results28, anW4528, dCnf, hok])
        | (refine DW_exit ?_; simp [hnt, Try.ntmps28, Try.results28, anW4528, dCnf, hok])
        | (refine DW_skip ?_; simp [hnt, Try.ntmps28, Try.results28, anW4528, dCnf, hok])
        | (intro hc; (try simp [hnt, Try.ntmps28, Try.results28, anW4528, dCnf, hok] at hc); done)
        | (intro hc; (try simp [hnt, Try.ntmps28, Try.results28, anW4528, dCnf, hok] at hc); (first | (exfalso; omega) | skip))
        | (refine ⟨?_, ?_⟩; · omega)
        | omega
        | apply_assumption -exfalso -symm
        | (exfalso; omega)))
  obtain ⟨p, hp, hp', hpm⟩ := at_lt' hlt
  obtain ⟨hw5, hw6, hw7, hw8⟩ := hw4 p hpm
  have hbad : prodOK c p = false → cnfOK c = false := by
    intro hb
    rw [hok, List.all_eq_false]
    exact ⟨p, hpm, by simp [hb]⟩
  have hstep : prodOK c p = true → (c.prods.take (k + 1)).all (prodOK c) = true := by
    intro hb
    rw [List.take_succ_eq_append_getElem hlt, List.all_append, hkk, hp']; simp [hb]
  by_cases hh1 : p.head < 0
  · have := hbad (by simp [prodOK, ntOK, show ¬ (0 ≤ p.head) by omega])
    (repeat (first
        | (refine DW_seq fun K hK => ?_)
        | (refine DW_r anW4528 Try.mixed (by kernel_rfl) ?_; simp [hnt, Try.ntmps28, Try.results28, anW4528, dCnf, dProd, hlt, hp', hh1, this]; try simp (disch := omega) only [wrap64_in])
        | (refine DW_block ?_)
        | (focus (refine DW_if ?_ ?_ ?_; (· (simp [hnt, Try.ntmps28, Try.results28, anW4528, dCnf, dProd, hlt, hp', hh1, this]; done)); (try (rotate_left; (· (intro hc; (try simp [hnt, Try.ntmps28, Try.results28, anW4528, dCnf, dProd, hlt, hp', hh1, this] at hc); done))))))
        | (refine DW_ret ?_; simp [hnt, Try.ntmps28, Try.results28, anW4528, dCnf, dProd, hlt, hp', hh1, this])
        | (refine DW_exit ?_; simp [hnt, Try.ntmps28, Try.results28, anW4528, dCnf, dProd, hlt, hp', hh1, this])
        | (refine DW_skip ?_; simp [hnt, Try.ntmps28, Try.results28, anW4528, dCnf, dProd, hlt, hp', hh1, this])
        | (intro hc; (try simp [hnt, Try.ntmps28, Try.results28, anW4528, dCnf, dProd, hlt, hp', hh1, this] at hc); done)
        | (intro hc; (try simp [hnt, Try.ntmps28, Try.results28, anW4528, dCnf, dProd, hlt, hp', hh1, this] at hc); (first | (exfalso; omega) | skip))
        | (refine ⟨?_, ?_⟩; · omega)
        | omega
        | apply_assumption -exfalso -symm
        | (exfalso; omega)))
  by_cases hh2 : c.nts ≤ p.head
  · have := hbad (by simp [prodOK, ntOK, show ¬ (p.head < c.nts) by omega])
    (repeat (first
        | (refine DW_seq fun K hK => ?_)
        | (refine DW_r anW4528 Try.mixed (by kernel_rfl) ?_; simp [hnt, Try.ntmps28, Try.results28, anW4528, dCnf, dProd, hlt, hp', hh1, hh2, this]; try simp (disch := omega) only [wrap64_in])
        | (refine DW_block ?_)
        | (focus (refine DW_if ?_ ?_ ?_; (· (simp [hnt, Try.ntmps28, Try.results28, anW4528, dCnf, dProd, hlt, hp', hh1, hh2, this]; done)); (try (rotate_left; (· (intro hc; (try simp [hnt, Try.ntmps28, Try.results28, anW4528, dCnf, dProd, hlt, hp', hh1, hh2, this] at hc); done))))))
        | (refine DW_ret ?_; simp [hnt, Try.ntmps28, Try.results28, anW4528, dCnf, dProd, hlt, hp', hh1, hh2, this])
        | (refine DW_exit ?_; simp [hnt, Try.ntmps28, Try.results28, anW4528, dCnf, dProd, hlt, hp', hh1, hh2, this])
        | (refine DW_skip ?_; simp [hnt, Try.ntmps28, Try.results28, anW4528, dCnf, dProd, hlt, hp', hh1, hh2, this])
        | (intro hc; (try simp [hnt, Try.ntmps28, Try.results28, anW4528, dCnf, dProd, hlt, hp', hh1, hh2, this] at hc); done)
        | (intro hc; (try simp [hnt, Try.ntmps28, Try.results28, anW4528, dCnf, dProd, hlt, hp', hh1, hh2, this] at hc); (first | (exfalso; omega) | skip))
        | (refine ⟨?_, ?_⟩; · omega)
        | omega
        | apply_assumption -exfalso -symm
        | (exfalso; omega)))
  have hnt' : ntOK c p.head = true := by simp [ntOK, show 0 ≤ p.head by omega, show p.head < c.nts by omega]
  (repeat (first
      | (refine DW_seq fun K hK => ?_)
      | (refine DW_r anW4528 Try.mixed (by kernel_rfl) ?_; simp [hnt, Try.ntmps28, Try.results28, anW4528, dCnf, dProd, hlt, hp', hh1, hh2]; try simp (disch := omega) only [wrap64_in])
      | (refine DW_block ?_)
      | (focus (refine DW_if ?_ ?_ ?_; (· (simp [hnt, Try.ntmps28, Try.results28, anW4528, dCnf, dProd, hlt, hp', hh1, hh2]; done)); (try (rotate_left; (· (intro hc; (try simp [hnt, Try.ntmps28, Try.results28, anW4528, dCnf, dProd, hlt, hp', hh1, hh2] at hc); done))))))
      | (refine DW_ret ?_; simp [hnt, Try.ntmps28, Try.results28, anW4528, dCnf, dProd, hlt, hp', hh1, hh2])
      | (refine DW_exit ?_; simp [hnt, Try.ntmps28, Try.results28, anW4528, dCnf, dProd, hlt, hp', hh1, hh2])
      | (refine DW_skip ?_; simp [hnt, Try.ntmps28, Try.results28, anW4528, dCnf, dProd, hlt, hp', hh1, hh2])
      | (intro hc; (try simp [hnt, Try.ntmps28, Try.results28, anW4528, dCnf, dProd, hlt, hp', hh1, hh2] at hc); done)
      | (intro hc; (try simp [hnt, Try.ntmps28, Try.results28, anW4528, dCnf, dProd, hlt, hp', hh1, hh2] at hc); (first | (exfalso; omega) | skip))
      | (refine ⟨?_, ?_⟩; · omega)
      | omega
      | apply_assumption -exfalso -symm
      | (exfalso; omega)))
  refine DW_loop (X := {j : Nat // j ≤ p.body.length ∧ (p.body.take j).any (symBad c) = false}) (fun j => ⟨[(1, .ref [.int .i64 c.nts, dProds c.prods]), (3, .int .i64 k), (4, .ref [.int .i64 p.head, dSyms p.body]), (5, .int .i64 j.1)], []⟩) (fun j => p.body.length - j.1) ⟨0, by simp⟩ (Sub.lit (by simp)) ?_
  rintro ⟨j, hj, hjj⟩
  by_cases hlj : j < p.body.length
  rotate_left
  · have hje : j = p.body.length := by omega
    subst hje
    rw [List.take_length] at hjj
    have hgood := hstep (by simp [prodOK, hnt', hjj])
    (repeat (first
        | (refine DW_seq fun K hK => ?_)
        | (refine DW_r anW4528 Try.mixed (by kernel_rfl) ?_; simp [hnt, Try.ntmps28, Try.results28, anW4528]; try simp (disch := omega) only [wrap64_in])
        | (refine DW_block ?_)
        | (focus (refine DW_if ?_ ?_ ?_; (· (simp [hnt, Try.ntmps28, Try.results28, anW4528]; done)); (try (rotate_left; (· (intro hc; (try simp [hnt, Try.ntmps28, Try.results28, anW4528] at hc); done))))))
        | (refine DW_ret ?_; simp [hnt, Try.ntmps28, Try.results28, anW4528])
        | (refine DW_exit ?_; simp [hnt, Try.ntmps28, Try.results28, anW4528])
        | (refine DW_skip ?_; simp [hnt, Try.ntmps28, Try.results28, anW4528])
        | (intro hc; (try simp [hnt, Try.ntmps28, Try.results28, anW4528] at hc); done)
        | (intro hc; (try simp [hnt, Try.ntmps28, Try.results28, anW4528] at hc); (first | (exfalso; omega) | skip))
        | (refine ⟨?_, ?_⟩; · omega)
        | omega
        | apply_assumption -exfalso -symm
        | (exfalso; omega)))
    refine Again.mk ⟨k + 1, by omega, hgood⟩ (Sub.lit (by simp)) (by simp; omega)
    (repeat (first
        | (refine DW_seq fun K hK => ?_)
        | (refine DW_r anW4528 Try.mixed (by kernel_rfl) ?_; simp [hnt, Try.ntmps28, Try.results28, anW4528]; try simp (disch := omega) only [wrap64_in])
        | (refine DW_block ?_)
        | (focus (refine DW_if ?_ ?_ ?_; (· (simp [hnt, Try.ntmps28, Try.results28, anW4528]; done)); (try (rotate_left; (· (intro hc; (try simp [hnt, Try.ntmps28, Try.results28, anW4528] at hc); done))))))
        | (refine DW_ret ?_; simp [hnt, Try.ntmps28, Try.results28, anW4528])
        | (refine DW_exit ?_; simp [hnt, Try.ntmps28, Try.results28, anW4528])
        | (refine DW_skip ?_; simp [hnt, Try.ntmps28, Try.results28, anW4528])
        | (intro hc; (try simp [hnt, Try.ntmps28, Try.results28, anW4528] at hc); done)
        | (intro hc; (try simp [hnt, Try.ntmps28, Try.results28, anW4528] at hc); (first | (exfalso; omega) | skip))
        | (refine ⟨?_, ?_⟩; · omega)
        | omega
        | apply_assumption -exfalso -symm
        | (exfalso; omega)))
  obtain ⟨s, hs, hs', hsm⟩ := at_lt' hlj
  have hsn := hw8 s hsm
  have hb2 : symBad c s = true → cnfOK c = false := by
    intro hb
    refine hbad ?_
    simp only [prodOK, hnt', Bool.true_and, Bool.not_eq_false', List.any_eq_true]
    exact ⟨s, hsm, hb⟩
  have hst2 : symBad c s = false → (p.body.take (j + 1)).any (symBad c) = false := by
    intro hb
    rw [List.take_succ_eq_append_getElem hlj, List.any_append, hjj, hs']; simp [hb]
  by_cases hs1 : s.n < 0
  · have := hb2 (by cases hl : s.label <;> simp [symBad, hl, hs1, ntOK, show ¬ (0 ≤ s.n) by omega])
    (repeat (first
        | (refine DW_seq fun K hK => ?_)
        | (refine DW_r anW4528 Try.mixed (by kernel_rfl) ?_; simp [hnt, Try.ntmps28, Try.results28, anW4528, dSym, hlj, hs', hs1, this]; try simp (disch := omega) only [wrap64_in])
        | (refine DW_block ?_)
        | (focus (refine DW_if ?_ ?_ ?_; (· (simp [hnt, Try.ntmps28, Try.results28, anW4528, dSym, hlj, hs', hs1, this]; done)); (try (rotate_left; (· (intro hc; (try simp [hnt, Try.ntmps28, Try.results28, anW4528, dSym, hlj, hs', hs1, this] at hc); done))))))
        | (refine DW_ret ?_; simp [hnt, Try.ntmps28, Try.results28, anW4528, dSym, hlj, hs', hs1, this])
        | (refine DW_exit ?_; simp [hnt, Try.ntmps28, Try.results28, anW4528, dSym, hlj, hs', hs1, this])
        | (refine DW_skip ?_; simp [hnt, Try.ntmps28, Try.results28, anW4528, dSym, hlj, hs', hs1, this])
        | (intro hc; (try simp [hnt, Try.ntmps28, Try.results28, anW4528, dSym, hlj, hs', hs1, this] at hc); done)
        | (intro hc; (try simp [hnt, Try.ntmps28, Try.results28, anW4528, dSym, hlj, hs', hs1, this] at hc); (first | (exfalso; omega) | skip))
        | (refine ⟨?_, ?_⟩; · omega)
        | omega
        | apply_assumption -exfalso -symm
        | (exfalso; omega)))
  cases hl : s.label
  · by_cases hs2 : c.nts ≤ s.n
    · have := hb2 (by simp [symBad, hl, ntOK, show ¬ (s.n < c.nts) by omega])
      (repeat (first
          | (refine DW_seq fun K hK => ?_)
          | (refine DW_r anW4528 Try.mixed (by kernel_rfl) ?_; simp [hnt, Try.ntmps28, Try.results28, anW4528, dSym, hlj, hs', hs1, hs2, hl, this]; try simp (disch := omega) only [wrap64_in])
          | (refine DW_block ?_)
          | (focus (refine DW_if ?_ ?_ ?_; (· (simp [hnt, Try.ntmps28, Try.results28, anW4528, dSym, hlj, hs', hs1, hs2, hl, this]; done)); (try (rotate_left; (· (intro hc; (try simp [hnt, Try.ntmps28, Try.results28, anW4528, dSym, hlj, hs', hs1, hs2, hl, this] at hc); done))))))
          | (refine DW_ret ?_; simp [hnt, Try.ntmps28, Try.results28, anW4528, dSym, hlj, hs', hs1, hs2, hl, this])
          | (refine DW_exit ?_; simp [hnt, Try.ntmps28, Try.results28, anW4528, dSym, hlj, hs', hs1, hs2, hl, this])
          | (refine DW_skip ?_; simp [hnt, Try.ntmps28, Try.results28, anW4528, dSym, hlj, hs', hs1, hs2, hl, this])
          | (intro hc; (try simp [hnt, Try.ntmps28, Try.results28, anW4528, dSym, hlj, hs', hs1, hs2, hl, this] at hc); done)
          | (intro hc; (try simp [hnt, Try.ntmps28, Try.results28, anW4528, dSym, hlj, hs', hs1, hs2, hl, this] at hc); (first | (exfalso; omega) | skip))
          | (refine ⟨?_, ?_⟩; · omega)
          | omega
          | apply_assumption -exfalso -symm
          | (exfalso; omega)))
    · have hgd := hst2 (by simp [symBad, hl, ntOK, show 0 ≤ s.n by omega, show s.n < c.nts by omega])
      (repeat (first
          | (refine DW_seq fun K hK => ?_)
          | (refine DW_r anW4528 Try.mixed (by kernel_rfl) ?_; simp [hnt, Try.ntmps28, Try.results28, anW4528, dSym, hlj, hs', hs1, hs2, hl]; try simp (disch := omega) only [wrap64_in])
          | (refine DW_block ?_)
          | (focus (refine DW_if ?_ ?_ ?_; (· (simp [hnt, Try.ntmps28, Try.results28, anW4528, dSym, hlj, hs', hs1, hs2, hl]; done)); (try (rotate_left; (· (intro hc; (try simp [hnt, Try.ntmps28, Try.results28, anW4528, dSym, hlj, hs', hs1, hs2, hl] at hc); done))))))
          | (refine DW_ret ?_; simp [hnt, Try.ntmps28, Try.results28, anW4528, dSym, hlj, hs', hs1, hs2, hl])
          | (refine DW_exit ?_; simp [hnt, Try.ntmps28, Try.results28, anW4528, dSym, hlj, hs', hs1, hs2, hl])
          | (refine DW_skip ?_; simp [hnt, Try.ntmps28, Try.results28, anW4528, dSym, hlj, hs', hs1, hs2, hl])
          | (intro hc; (try simp [hnt, Try.ntmps28, Try.results28, anW4528, dSym, hlj, hs', hs1, hs2, hl] at hc); done)
          | (intro hc; (try simp [hnt, Try.ntmps28, Try.results28, anW4528, dSym, hlj, hs', hs1, hs2, hl] at hc); (first | (exfalso; omega) | skip))
          | (refine ⟨?_, ?_⟩; · omega)
          | omega
          | apply_assumption -exfalso -symm
          | (exfalso; omega)))
      refine Again.mk ⟨j + 1, by omega, hgd⟩ (Sub.lit (by simp)) (by simp; omega)
      (repeat (first
          | (refine DW_seq fun K hK => ?_)
          | (refine DW_r anW4528 Try.mixed (by kernel_rfl) ?_; simp [hnt, Try.ntmps28, Try.results28, anW4528]; try simp (disch := omega) only [wrap64_in])
          | (refine DW_block ?_)
          | (focus (refine DW_if ?_ ?_ ?_; (· (simp [hnt, Try.ntmps28, Try.results28, anW4528]; done)); (try (rotate_left; (· (intro hc; (try simp [hnt, Try.ntmps28, Try.results28, anW4528] at hc); done))))))
          | (refine DW_ret ?_; simp [hnt, Try.ntmps28, Try.results28, anW4528])
          | (refine DW_exit ?_; simp [hnt, Try.ntmps28, Try.results28, anW4528])
          | (refine DW_skip ?_; simp [hnt, Try.ntmps28, Try.results28, anW4528])
          | (intro hc; (try simp [hnt, Try.ntmps28, Try.results28, anW4528] at hc); done)
          | (intro hc; (try simp [hnt, Try.ntmps28, Try.results28, anW4528] at hc); (first | (exfalso; omega) | skip))
          | (refine ⟨?_, ?_⟩; · omega)
          | omega
          | apply_assumption -exfalso -symm
          | (exfalso; omega)))
  · by_cases hs2 : 16 ≤ s.n
    · have := hb2 (by simp [symBad, hl, hs2])
      (repeat (first
          | (refine DW_seq fun K hK => ?_)
          | (refine DW_r anW4528 Try.mixed (by kernel_rfl) ?_; simp [hnt, Try.ntmps28, Try.results28, anW4528, dSym, hlj, hs', hs1, hs2, hl, this]; try simp (disch := omega) only [wrap64_in])
          | (refine DW_block ?_)
          | (focus (refine DW_if ?_ ?_ ?_; (· (simp [hnt, Try.ntmps28, Try.results28, anW4528, dSym, hlj, hs', hs1, hs2, hl, this]; done)); (try (rotate_left; (· (intro hc; (try simp [hnt, Try.ntmps28, Try.results28, anW4528, dSym, hlj, hs', hs1, hs2, hl, this] at hc); done))))))
          | (refine DW_ret ?_; simp [hnt, Try.ntmps28, Try.results28, anW4528, dSym, hlj, hs', hs1, hs2, hl, this])
          | (refine DW_exit ?_; simp [hnt, Try.ntmps28, Try.results28, anW4528, dSym, hlj, hs', hs1, hs2, hl, this])
          | (refine DW_skip ?_; simp [hnt, Try.ntmps28, Try.results28, anW4528, dSym, hlj, hs', hs1, hs2, hl, this])
          | (intro hc; (try simp [hnt, Try.ntmps28, Try.results28, anW4528, dSym, hlj, hs', hs1, hs2, hl, this] at hc); done)
          | (intro hc; (try simp [hnt, Try.ntmps28, Try.results28, anW4528, dSym, hlj, hs', hs1, hs2, hl, this] at hc); (first | (exfalso; omega) | skip))
          | (refine ⟨?_, ?_⟩; · omega)
          | omega
          | apply_assumption -exfalso -symm
          | (exfalso; omega)))
    · have hgd := hst2 (by simp [symBad, hl, hs1, hs2])
      (repeat (first
          | (refine DW_seq fun K hK => ?_)
          | (refine DW_r anW4528 Try.mixed (by kernel_rfl) ?_; simp [hnt, Try.ntmps28, Try.results28, anW4528, dSym, hlj, hs', hs1, hs2, hl]; try simp (disch := omega) only [wrap64_in])
          | (refine DW_block ?_)
          | (focus (refine DW_if ?_ ?_ ?_; (· (simp [hnt, Try.ntmps28, Try.results28, anW4528, dSym, hlj, hs', hs1, hs2, hl]; done)); (try (rotate_left; (· (intro hc; (try simp [hnt, Try.ntmps28, Try.results28, anW4528, dSym, hlj, hs', hs1, hs2, hl] at hc); done))))))
          | (refine DW_ret ?_; simp [hnt, Try.ntmps28, Try.results28, anW4528, dSym, hlj, hs', hs1, hs2, hl])
          | (refine DW_exit ?_; simp [hnt, Try.ntmps28, Try.results28, anW4528, dSym, hlj, hs', hs1, hs2, hl])
          | (refine DW_skip ?_; simp [hnt, Try.ntmps28, Try.results28, anW4528, dSym, hlj, hs', hs1, hs2, hl])
          | (intro hc; (try simp [hnt, Try.ntmps28, Try.results28, anW4528, dSym, hlj, hs', hs1, hs2, hl] at hc); done)
          | (intro hc; (try simp [hnt, Try.ntmps28, Try.results28, anW4528, dSym, hlj, hs', hs1, hs2, hl] at hc); (first | (exfalso; omega) | skip))
          | (refine ⟨?_, ?_⟩; · omega)
          | omega
          | apply_assumption -exfalso -symm
          | (exfalso; omega)))
      refine Again.mk ⟨j + 1, by omega, hgd⟩ (Sub.lit (by simp)) (by simp; omega)
      (repeat (first
          | (refine DW_seq fun K hK => ?_)
          | (refine DW_r anW4528 Try.mixed (by kernel_rfl) ?_; simp [hnt, Try.ntmps28, Try.results28, anW4528]; try simp (disch := omega) only [wrap64_in])
          | (refine DW_block ?_)
          | (focus (refine DW_if ?_ ?_ ?_; (· (simp [hnt, Try.ntmps28, Try.results28, anW4528]; done)); (try (rotate_left; (· (intro hc; (try simp [hnt, Try.ntmps28, Try.results28, anW4528] at hc); done))))))
          | (refine DW_ret ?_; simp [hnt, Try.ntmps28, Try.results28, anW4528])
          | (refine DW_exit ?_; simp [hnt, Try.ntmps28, Try.results28, anW4528])
          | (refine DW_skip ?_; simp [hnt, Try.ntmps28, Try.results28, anW4528])
          | (intro hc; (try simp [hnt, Try.ntmps28, Try.results28, anW4528] at hc); done)
          | (intro hc; (try simp [hnt, Try.ntmps28, Try.results28, anW4528] at hc); (first | (exfalso; omega) | skip))
          | (refine ⟨?_, ?_⟩; · omega)
          | omega
          | apply_assumption -exfalso -symm
          | (exfalso; omega)))
end Go.Proofs.Ytihkcegelghcpaa
